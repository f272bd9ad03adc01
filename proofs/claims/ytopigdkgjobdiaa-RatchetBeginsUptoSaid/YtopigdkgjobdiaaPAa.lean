/- Trees of values and what operations do to them. -/
import Derived.Calls
import Derived.Orders
import Derived.Laws.AppendOwn
import Derived.Laws.OwnMore
import Derived.Laws.Rows
import Derived.RangeFuncLeaves
import Derived.RangeFuncCalls
import Derived.RangeFuncNested
import Derived.OrdersIn
import Derived.Laws.Externs
import Derived.Tactics
import Derived.ChangeKeysEq
import Derived.Laws.MakeOwn
import Derived.MapKept
set_option linter.unusedSimpArgs false
set_option linter.unusedVariables false
/- PA1: trees of values, and what they stand for in a world. -/
namespace Go.PA

inductive PS where
  | fld (k off : Nat)
  | idx (i s : Nat)

def PS.off : PS → Nat
  | .fld _ o => o
  | .idx i s => i * s

def offP : List PS → Nat
  | [] => 0
  | p :: ps => p.off + offP ps

structure Env where
  w : World
  loc : Nat → Option (Option Nat)
  ids : Nat → Bool
  S : Nat → Prop
  B : Nat → Prop

def Env.ok (e : Env) (p : Bool) (g : Nat) : Prop := e.S g ∨ (p = false ∧ e.B g)

/-- No name of a block of the frame is known. -/
def Env.close (e : Env) : Env := { e with loc := fun _ => none, ids := fun _ => false }
/-- .. and nothing is borrowed. -/
def Env.shut (e : Env) : Env := { e with loc := fun _ => none, ids := fun _ => false, B := fun _ => False }
def Env.cl (e : Env) : Bool → Env
  | true => e.shut
  | false => e.close

structure Env.Le (e e' : Env) (F : List Nat) : Prop where
  heap : ∀ g, (g ∈ F ∨ e.S g ∨ e.B g) → e'.w.heap[g]? = e.w.heap[g]?
  S : ∀ g, e.S g → e'.S g
  B : ∀ g, e.B g → e'.S g ∨ e'.B g
  ids : ∀ d, e.ids d = true → e'.ids d = true
  loc : ∀ d l, e.ids d = true → e'.loc d = some l → e.loc d = some l
  shp : ∀ d g, e.ids d = true → e'.loc d = some (some g) → (e'.w.shape? g).map (·.2) = (e.w.shape? g).map (·.2)

/-- A tree of values. -/
inductive A where
  | v (x : Value)
  | und
  | agg (xs : List A)
  | arr (tot : Nat) (xs : List A)
  | sl (p : Bool) (xs : List A)
  | osl (s : Nat) (xs : List A)
  | rp (p : Bool) (a : A)
  | box (a : A)
  | ref (d s off len : Nat) (full : Bool)
  | aref (d : Nat) (p : List PS) (s off len : Nat)
  | ptr (d : Nat) (p : List PS)
  | clo (f : Fn) (first caps : List A)
  | ifc (t : TypeId) (a : A)
  | tup (xs : List A)
  | mp (ks vs : List A)
  | mref (d : Nat)
  | yl (R : Env → Nat → List Nat → Prop)
  | yref (d : Nat)

mutual
def A.sz : A → Nat
  | .agg xs => szs xs
  | .arr t _ => t
  | .tup _ => 0
  | .und => 0
  | _ => 1
def szs : List A → Nat
  | [] => 0
  | x :: xs => x.sz + szs xs
end

def plainV : Value → Bool
  | .bool _ | .int .. | .float .. | .complex .. | .string _ | .pointer none | .map none | .chan none | .nilFunc | .nilIface => true
  | _ => false

def A.isAgg : A → Bool
  | .agg _ | .arr .. => true
  | _ => false

/-- A map's entries have stamps of their own. -/
def bornOk (es : Array MapEntry) (clock : Nat) : Prop := (∀ x ∈ es.toList, x.born < clock) ∧ (es.toList.map (·.born)).Nodup

mutual
/-- 'a' stands as the cells 'vs'; the blocks 'F' are its own. -/
def VR : A → Env → List Value → List Nat → Prop
  | .v x, _, vs, F => plainV x = true ∧ vs = [x] ∧ F = []
  | .und, _, _, _ => False
  | .agg xs, e, vs, F => VRs xs e vs F
  | .arr tot xs, e, vs, F => vs.length = tot ∧ (∃ s, ∀ x ∈ xs, x.sz = s) ∧ VRs xs e.shut vs F
  | .osl s xs, e, vs, F => 0 < s ∧ (∀ x ∈ xs, x.sz = s) ∧
      ((xs = [] ∧ vs = [.slice none 0 0] ∧ F = []) ∨
       ∃ g cs ty c us Fx, vs = [.slice (some ⟨g, 0, none⟩) xs.length c] ∧ xs.length ≤ c ∧ c ≤ maxLen ∧ e.w.heap[g]? = some (.cells cs ty (0, 0)) ∧ cs.size = c * s ∧
         VRs xs e.shut us Fx ∧ cs.toList.take us.length = us ∧ F = g :: Fx)
  | .sl p xs, e, vs, F => F = [] ∧ ∃ a c us, vs = [.slice a xs.length c] ∧ xs.length ≤ c ∧ (∃ s, ∀ x ∈ xs, x.sz = s) ∧ VRs xs (e.cl p) us [] ∧
      (xs ≠ [] → ∃ ad, a = some ad ∧ e.ok p ad.block ∧ ∀ j u, us[j]? = some u → e.w.cell? (ad.add j) = some u)
  | .box a, e, vs, F => ∃ g cs ty Fx, vs = [.pointer (some ⟨g, 0, none⟩)] ∧ e.w.heap[g]? = some (.cells cs ty (0, 0)) ∧ VR a e.close cs.toList Fx ∧ F = g :: Fx
  | .rp p a, e, vs, F => F = [] ∧ ∃ ad us, vs = [.pointer (some ad)] ∧ e.ok p ad.block ∧ VR a (e.cl p) us [] ∧ ∀ j u, us[j]? = some u → e.w.cell? (ad.add j) = some u
  | .ref d s off len full, e, vs, F => F = [] ∧ e.ids d = true ∧ ∃ a c, vs = [.slice a len c] ∧ len ≤ c ∧ (len ≠ 0 → ∃ ad, a = some ad) ∧ (full = true → c = len) ∧
      ∀ l, e.loc d = some l → match l with
        | none => off = 0 ∧ len = 0 ∧ a = none ∧ c = 0
        | some g => (c = 0 ∧ off ≠ 0) ∨ (a = some ⟨g, off * s, none⟩ ∧ (full = false → (e.w.shape? g).map (·.2) = some ((off + c) * s)))
  | .aref d p s off len, e, vs, F => F = [] ∧ e.ids d = true ∧ ∃ a c, vs = [.slice a len c] ∧ len ≤ c ∧ (len ≠ 0 → ∃ ad, a = some ad) ∧
      ∀ l, e.loc d = some l → ∃ g, l = some g ∧ ((c = 0 ∧ off ≠ 0) ∨ a = some ⟨g, offP p + off * s, none⟩)
  | .ptr d p, e, vs, F => F = [] ∧ e.ids d = true ∧ ∃ ad, vs = [.pointer (some ad)] ∧ ∀ l, e.loc d = some l → ∃ g, l = some g ∧ ad = ⟨g, offP p, none⟩
  | .clo f first caps, e, vs, F => ∃ fvs cvs Ff Fc, vs = [.func f fvs.toArray cvs.toArray] ∧ F = Ff ++ Fc ∧ VVs first e fvs Ff ∧ VVs caps e cvs Fc
  | .ifc t a, e, vs, F => ∃ x, vs = [.iface t x] ∧ ((a.isAgg = true ∧ ∃ cs, x = .agg cs ∧ VR a e cs.toList F) ∨ (a.isAgg = false ∧ VR a e [x] F))
  | .tup _, _, _, _ => False
  | .mp ks vs, e, us, F => ∃ g es clock Fx, us = [.map (some g)] ∧ e.w.heap[g]? = some (.map es clock) ∧ bornOk es clock ∧ VVs ks e.shut (es.toList.map (·.key)) [] ∧ VVs vs e.shut (es.toList.map (·.val)) Fx ∧ F = g :: Fx
  | .mref d, e, vs, F => F = [] ∧ e.ids d = true ∧ ∃ g, vs = [.map (some g)] ∧ ∀ l, e.loc d = some l → l = some g
  | .yl R, e, vs, F => ∃ l o, vs = [.func (.yield l) #[] #[]] ∧ e.w.heap[l]? = some o ∧ l ∈ F ∧ ∀ e', e.close.Le e' F → R e'.close l F
  | .yref d, e, vs, F => F = [] ∧ e.ids d = true ∧ ∃ l, vs = [.func (.yield l) #[] #[]] ∧ ∀ l', e.loc d = some l' → l' = some l
def VRs : List A → Env → List Value → List Nat → Prop
  | [], _, vs, F => vs = [] ∧ F = []
  | x :: xs, e, vs, F => ∃ us vs' F1 F2, vs = us ++ vs' ∧ F = F1 ++ F2 ∧ VR x e us F1 ∧ VRs xs e vs' F2
def VVs : List A → Env → List Value → List Nat → Prop
  | [], _, vs, F => vs = [] ∧ F = []
  | x :: xs, e, vs, F => ∃ y vs' F1 F2, vs = y :: vs' ∧ F = F1 ++ F2 ∧
      ((x.isAgg = true ∧ ∃ cs, y = .agg cs ∧ VR x e cs.toList F1) ∨ (x.isAgg = false ∧ VR x e [y] F1)) ∧ VVs xs e vs' F2
end

/-- 'a' stands as one value. -/
def VV (a : A) (e : Env) (y : Value) (F : List Nat) : Prop :=
  (a.isAgg = true ∧ ∃ cs, y = .agg cs ∧ VR a e cs.toList F) ∨ (a.isAgg = false ∧ VR a e [y] F)

/-- What a slot may hold. -/
def TV (a : A) (e : Env) (y : Value) : Prop :=
  match a with
  | .und => y = undef
  | .tup xs => ∃ vs : List Value, y = .tuple vs.toArray ∧ VVs xs e vs []
  | a => VV a e y []

end Go.PA

/- PA2: lemmas on VR. -/
namespace Go.PA

mutual
theorem VR_len : ∀ (a : A) (e : Env) (vs : List Value) (F : List Nat), VR a e vs F → vs.length = a.sz
  | .v x, e, vs, F, h => by simp only [VR] at h; simp [h.2.1, A.sz]
  | .und, e, vs, F, h => by simp [VR] at h
  | .agg xs, e, vs, F, h => by simp only [VR] at h; simp only [A.sz]; exact VRs_len xs e vs F h
  | .arr tot xs, e, vs, F, h => by simp only [VR] at h; simp [A.sz, h.1]
  | .sl p xs, e, vs, F, h => by simp only [VR] at h; obtain ⟨_, a, c, us, rfl, _⟩ := h; simp [A.sz]
  | .osl s xs, e, vs, F, h => by
    simp only [VR] at h
    rcases h with ⟨_, _, ⟨_, rfl, _⟩ | ⟨g, cs, ty, c, us, Fx, rfl, _⟩⟩ <;> simp [A.sz]
  | .rp p a, e, vs, F, h => by simp only [VR] at h; obtain ⟨_, ad, us, rfl, _⟩ := h; simp [A.sz]
  | .box a, e, vs, F, h => by simp only [VR] at h; obtain ⟨g, cs, ty, Fx, rfl, _⟩ := h; simp [A.sz]
  | .ref .., e, vs, F, h => by simp only [VR] at h; obtain ⟨_, _, a, c, rfl, _⟩ := h; simp [A.sz]
  | .aref .., e, vs, F, h => by simp only [VR] at h; obtain ⟨_, _, a, c, rfl, _⟩ := h; simp [A.sz]
  | .ptr .., e, vs, F, h => by simp only [VR] at h; obtain ⟨_, _, a, rfl, _⟩ := h; simp [A.sz]
  | .clo .., e, vs, F, h => by simp only [VR] at h; obtain ⟨_, _, _, _, rfl, _⟩ := h; simp [A.sz]
  | .ifc .., e, vs, F, h => by simp only [VR] at h; obtain ⟨_, rfl, _⟩ := h; simp [A.sz]
  | .tup _, e, vs, F, h => by simp [VR] at h
  | .mp .., e, vs, F, h => by simp only [VR] at h; obtain ⟨_, _, _, _, rfl, _⟩ := h; simp [A.sz]
  | .mref _, e, vs, F, h => by simp only [VR] at h; obtain ⟨_, _, _, rfl, _⟩ := h; simp [A.sz]
  | .yl _, e, vs, F, h => by simp only [VR] at h; obtain ⟨_, _, rfl, _⟩ := h; simp [A.sz]
  | .yref _, e, vs, F, h => by simp only [VR] at h; obtain ⟨_, _, _, rfl, _⟩ := h; simp [A.sz]
theorem VRs_len : ∀ (xs : List A) (e : Env) (vs : List Value) (F : List Nat), VRs xs e vs F → vs.length = szs xs
  | [], e, vs, F, h => by simp only [VRs] at h; simp [h.1, szs]
  | x :: xs, e, vs, F, h => by
    simp only [VRs] at h
    obtain ⟨us, vs', F1, F2, rfl, rfl, h1, h2⟩ := h
    simp [szs, VR_len x e us F1 h1, VRs_len xs e vs' F2 h2]
end

theorem Env.Le.refl (e : Env) (F : List Nat) : e.Le e F := ⟨fun _ _ => rfl, fun _ h => h, fun _ h => .inr h, fun _ h => h, fun _ _ _ h => h, fun _ _ _ _ => rfl⟩
theorem Env.Le.trans {e e' e'' : Env} {F : List Nat} (h : e.Le e' F) (h' : e'.Le e'' F) : e.Le e'' F where
  heap := fun g hg => (h'.heap g (hg.imp id fun hg => hg.elim (fun x => .inl (h.S g x)) (fun x => (h.B g x).imp id id))).trans (h.heap g hg)
  S := fun g hg => h'.S g (h.S g hg)
  B := fun g hg => (h.B g hg).elim (fun x => .inl (h'.S g x)) (h'.B g)
  ids := fun d hd => h'.ids d (h.ids d hd)
  loc := fun d l hd hl => h.loc d l hd (h'.loc d l (h.ids d hd) hl)
  shp := fun d g hd hl => (h'.shp d g (h.ids d hd) hl).trans (h.shp d g hd (h'.loc d _ (h.ids d hd) hl))
theorem Env.Le.sub {e e' : Env} {F F' : List Nat} (h : e.Le e' F) (hs : ∀ g, g ∈ F' → g ∈ F) : e.Le e' F' :=
  ⟨fun g hg => h.heap g (hg.imp (hs g) id), h.S, h.B, h.ids, h.loc, h.shp⟩
theorem Env.Le.closed {e e' : Env} {F : List Nat} (h : e.Le e' F) : e.close.Le e'.close F :=
  ⟨h.heap, h.S, h.B, fun _ h => by simp [Env.close] at h, fun _ _ h => by simp [Env.close] at h, fun _ _ h => by simp [Env.close] at h⟩
theorem Env.Le.shut {e e' : Env} {F : List Nat} (h : e.Le e' F) : e.shut.Le e'.shut F :=
  ⟨fun g hg => h.heap g (hg.imp id (Or.imp id False.elim)), h.S, fun _ h => by simp [Env.shut] at h, fun _ h => by simp [Env.shut] at h, fun _ _ h => by simp [Env.shut] at h, fun _ _ h => by simp [Env.shut] at h⟩
theorem Env.Le.cl {e e' : Env} {F : List Nat} (h : e.Le e' F) (p : Bool) : (e.cl p).Le (e'.cl p) F := by
  cases p
  · exact h.closed
  · exact h.shut
theorem Env.Le.okk {e e' : Env} {F : List Nat} (h : e.Le e' F) {p : Bool} {g : Nat} (hg : e.ok p g) : e'.ok p g := by
  rcases hg with hg | ⟨hp, hg⟩
  · exact .inl (h.S g hg)
  · exact (h.B g hg).imp id fun x => ⟨hp, x⟩
theorem Env.ok_or {e : Env} {p : Bool} {g : Nat} (hg : e.ok p g) : e.S g ∨ e.B g := hg.imp id And.right
theorem Env.Le.cell {e e' : Env} {F : List Nat} (h : e.Le e' F) {p : Bool} {a : Addr} (hg : e.ok p a.block) : e'.w.cell? a = e.w.cell? a :=
  World.cell?_of_block (h.heap _ (.inr (Env.ok_or hg)))

theorem block_add (a : Addr) (n : Nat) : (a.add n).block = a.block := by unfold Addr.add; split <;> rfl

mutual
theorem VR_mono : ∀ (a : A) (e e' : Env) (vs : List Value) (F : List Nat), e.Le e' F → VR a e vs F → VR a e' vs F
  | .v x, e, e', vs, F, hl, h => by simpa only [VR] using h
  | .und, e, e', vs, F, hl, h => by simp [VR] at h
  | .agg xs, e, e', vs, F, hl, h => by simp only [VR] at h ⊢; exact VRs_mono xs e e' vs F hl h
  | .arr tot xs, e, e', vs, F, hl, h => by simp only [VR] at h ⊢; exact ⟨h.1, h.2.1, VRs_mono xs _ _ vs F hl.shut h.2.2⟩
  | .sl p xs, e, e', vs, F, hl, h => by
    simp only [VR] at h ⊢
    obtain ⟨rfl, a, c, us, rfl, hc, hs, hx, hh⟩ := h
    refine ⟨rfl, a, c, us, rfl, hc, hs, VRs_mono xs _ _ us [] (hl.cl p) hx, fun hne => ?_⟩
    obtain ⟨ad, rfl, hok, hcell⟩ := hh hne
    exact ⟨ad, rfl, hl.okk hok, fun j u hu => (hl.cell (a := ad.add j) (by rw [block_add]; exact hok)).trans (hcell j u hu)⟩
  | .osl s xs, e, e', vs, F, hl, h => by
    simp only [VR] at h ⊢
    refine ⟨h.1, h.2.1, h.2.2.imp id ?_⟩
    rintro ⟨g, cs, ty, c, us, Fx, rfl, h1, h2, h3, h4, h5, h6, rfl⟩
    exact ⟨g, cs, ty, c, us, Fx, rfl, h1, h2, (hl.heap g (.inl (by simp))).trans h3, h4, VRs_mono xs _ _ us Fx (hl.sub (fun x hx => by simp [hx])).shut h5, h6, rfl⟩
  | .rp p a, e, e', vs, F, hl, h => by
    simp only [VR] at h ⊢
    obtain ⟨rfl, ad, us, rfl, hok, hx, hcell⟩ := h
    exact ⟨rfl, ad, us, rfl, hl.okk hok, VR_mono a _ _ us [] (hl.cl p) hx, fun j u hu => (hl.cell (a := ad.add j) (by rw [block_add]; exact hok)).trans (hcell j u hu)⟩
  | .box a, e, e', vs, F, hl, h => by
    simp only [VR] at h ⊢
    obtain ⟨g, cs, ty, Fx, rfl, h3, h5, rfl⟩ := h
    exact ⟨g, cs, ty, Fx, rfl, (hl.heap g (.inl (by simp))).trans h3, VR_mono a _ _ _ Fx (hl.sub (fun x hx => by simp [hx])).closed h5, rfl⟩
  | .ref d s off len full, e, e', vs, F, hl, h => by
    simp only [VR] at h ⊢
    obtain ⟨rfl, hi, a, c, rfl, h1, h0, h2, h3⟩ := h
    refine ⟨rfl, hl.ids d hi, a, c, rfl, h1, h0, h2, fun l hloc => ?_⟩
    have := h3 l (hl.loc d l hi hloc)
    cases l with
    | none => exact this
    | some g => exact this.imp id fun ⟨x, y⟩ => ⟨x, fun hf => (hl.shp d g hi hloc).trans (y hf)⟩
  | .aref d p s off len, e, e', vs, F, hl, h => by
    simp only [VR] at h ⊢
    obtain ⟨rfl, hi, a, c, rfl, h1, h0, h3⟩ := h
    exact ⟨rfl, hl.ids d hi, a, c, rfl, h1, h0, fun l hloc => h3 l (hl.loc d l hi hloc)⟩
  | .ptr d p, e, e', vs, F, hl, h => by
    simp only [VR] at h ⊢
    obtain ⟨rfl, hi, ad, rfl, h3⟩ := h
    exact ⟨rfl, hl.ids d hi, ad, rfl, fun l hloc => h3 l (hl.loc d l hi hloc)⟩
  | .clo f first caps, e, e', vs, F, hl, h => by
    simp only [VR] at h ⊢
    obtain ⟨fvs, cvs, Ff, Fc, rfl, rfl, h1, h2⟩ := h
    exact ⟨fvs, cvs, Ff, Fc, rfl, rfl, VVs_mono first e e' fvs Ff (hl.sub (fun x hx => by simp [hx])) h1, VVs_mono caps e e' cvs Fc (hl.sub (fun x hx => by simp [hx])) h2⟩
  | .ifc t a, e, e', vs, F, hl, h => by
    simp only [VR] at h ⊢
    obtain ⟨x, rfl, h⟩ := h
    exact ⟨x, rfl, h.imp (fun ⟨h1, cs, h2, h3⟩ => ⟨h1, cs, h2, VR_mono a e e' _ F hl h3⟩) (fun ⟨h1, h2⟩ => ⟨h1, VR_mono a e e' _ F hl h2⟩)⟩
  | .tup _, e, e', vs, F, hl, h => by simp [VR] at h
  | .mp ks xs, e, e', vs, F, hl, h => by
    simp only [VR] at h ⊢
    obtain ⟨g, es, clock, Fx, rfl, h1, h2, h3, h4, rfl⟩ := h
    exact ⟨g, es, clock, Fx, rfl, (hl.heap g (.inl (by simp))).trans h1, h2, VVs_mono ks _ _ _ [] (hl.sub (by simp)).shut h3, VVs_mono xs _ _ _ Fx (hl.sub (fun x hx => by simp [hx])).shut h4, rfl⟩
  | .mref d, e, e', vs, F, hl, h => by
    simp only [VR] at h ⊢
    obtain ⟨rfl, hi, g, rfl, h3⟩ := h
    exact ⟨rfl, hl.ids d hi, g, rfl, fun l hloc => h3 l (hl.loc d l hi hloc)⟩
  | .yl R, e, e', vs, F, hl, h => by
    simp only [VR] at h ⊢
    obtain ⟨l, o, rfl, h1, h3, h⟩ := h
    exact ⟨l, o, rfl, (hl.heap l (.inl h3)).trans h1, h3, fun e2 h2 => h e2 (hl.closed.trans h2)⟩
  | .yref d, e, e', vs, F, hl, h => by
    simp only [VR] at h ⊢
    obtain ⟨rfl, hi, g, rfl, h3⟩ := h
    exact ⟨rfl, hl.ids d hi, g, rfl, fun l hloc => h3 l (hl.loc d l hi hloc)⟩
theorem VRs_mono : ∀ (xs : List A) (e e' : Env) (vs : List Value) (F : List Nat), e.Le e' F → VRs xs e vs F → VRs xs e' vs F
  | [], e, e', vs, F, hl, h => by simpa only [VRs] using h
  | x :: xs, e, e', vs, F, hl, h => by
    simp only [VRs] at h ⊢
    obtain ⟨us, vs', F1, F2, rfl, rfl, h1, h2⟩ := h
    exact ⟨us, vs', F1, F2, rfl, rfl, VR_mono x e e' us F1 (hl.sub (fun x hx => by simp [hx])) h1, VRs_mono xs e e' vs' F2 (hl.sub (fun x hx => by simp [hx])) h2⟩
theorem VVs_mono : ∀ (xs : List A) (e e' : Env) (vs : List Value) (F : List Nat), e.Le e' F → VVs xs e vs F → VVs xs e' vs F
  | [], e, e', vs, F, hl, h => by simpa only [VVs] using h
  | x :: xs, e, e', vs, F, hl, h => by
    simp only [VVs] at h ⊢
    obtain ⟨y, vs', F1, F2, rfl, rfl, h1, h2⟩ := h
    have hl1 : e.Le e' F1 := hl.sub (fun x hx => by simp [hx])
    exact ⟨y, vs', F1, F2, rfl, rfl, h1.imp (fun ⟨h1, cs, h2, h3⟩ => ⟨h1, cs, h2, VR_mono x e e' _ F1 hl1 h3⟩) (fun ⟨h1, h2⟩ => ⟨h1, VR_mono x e e' _ F1 hl1 h2⟩),
      VVs_mono xs e e' vs' F2 (hl.sub (fun x hx => by simp [hx])) h2⟩
end

theorem VV_mono {a : A} {e e' : Env} {y : Value} {F : List Nat} (hl : e.Le e' F) (h : VV a e y F) : VV a e' y F :=
  h.imp (fun ⟨h1, cs, h2, h3⟩ => ⟨h1, cs, h2, VR_mono a e e' _ F hl h3⟩) (fun ⟨h1, h2⟩ => ⟨h1, VR_mono a e e' _ F hl h2⟩)
theorem TV_mono {a : A} {e e' : Env} {y : Value} (hl : e.Le e' []) (h : TV a e y) : TV a e' y := by
  unfold TV at *
  split at h
  · exact h
  · obtain ⟨vs, h1, h2⟩ := h; exact ⟨vs, h1, VVs_mono _ e e' vs [] hl h2⟩
  · exact VV_mono hl h

mutual
def A.closed : A → Bool
  | .ref .. | .aref .. | .ptr .. | .mref _ | .yref _ | .und | .tup _ => false
  | .agg xs => closeds xs
  | .clo _ f c => closeds f && closeds c
  | .ifc _ a => a.closed
  | _ => true
def closeds : List A → Bool
  | [] => true
  | x :: xs => x.closed && closeds xs
end

@[simp] theorem close_close (e : Env) : e.close.close = e.close := rfl
@[simp] theorem close_shut (e : Env) : e.close.shut = e.shut := rfl
@[simp] theorem shut_shut (e : Env) : e.shut.shut = e.shut := rfl
@[simp] theorem shut_close (e : Env) : e.shut.close = e.shut := rfl
@[simp] theorem close_cl (e : Env) (p : Bool) : e.close.cl p = e.cl p := by cases p <;> rfl
@[simp] theorem shut_cl (e : Env) (p : Bool) : e.shut.cl p = e.shut := by cases p <;> rfl

mutual
/-- What names no block of the frame does not hang on the names. -/
theorem VR_close : ∀ (a : A) (e : Env) (vs : List Value) (F : List Nat), a.closed = true → (VR a e vs F ↔ VR a e.close vs F)
  | .v x, e, vs, F, hc => by simp only [VR]
  | .und, e, vs, F, hc => by simp [VR]
  | .agg xs, e, vs, F, hc => by simp only [VR]; exact VRs_close xs e vs F (by simpa [A.closed] using hc)
  | .arr tot xs, e, vs, F, hc => by simp only [VR, close_shut]
  | .sl p xs, e, vs, F, hc => by simp only [VR, close_cl]; rfl
  | .osl s xs, e, vs, F, hc => by simp only [VR, close_shut]; rfl
  | .rp p a, e, vs, F, hc => by simp only [VR, close_cl]; rfl
  | .box a, e, vs, F, hc => by simp only [VR, close_close]; rfl
  | .ref .., e, vs, F, hc => by simp [A.closed] at hc
  | .aref .., e, vs, F, hc => by simp [A.closed] at hc
  | .ptr .., e, vs, F, hc => by simp [A.closed] at hc
  | .clo f first caps, e, vs, F, hc => by
    simp only [A.closed, Bool.and_eq_true] at hc
    simp only [VR, VVs_close first e _ _ hc.1, VVs_close caps e _ _ hc.2]
  | .ifc t a, e, vs, F, hc => by
    simp only [A.closed] at hc
    simp only [VR, VR_close a e _ _ hc]
  | .tup _, e, vs, F, hc => by simp [VR]
  | .mp .., e, vs, F, hc => by simp only [VR, close_shut]; rfl
  | .mref _, e, vs, F, hc => by simp [A.closed] at hc
  | .yl _, e, vs, F, hc => by simp only [VR, close_close]; rfl
  | .yref _, e, vs, F, hc => by simp [A.closed] at hc
theorem VRs_close : ∀ (xs : List A) (e : Env) (vs : List Value) (F : List Nat), closeds xs = true → (VRs xs e vs F ↔ VRs xs e.close vs F)
  | [], e, vs, F, hc => by simp only [VRs]
  | x :: xs, e, vs, F, hc => by
    simp only [closeds, Bool.and_eq_true] at hc
    simp only [VRs, VR_close x e _ _ hc.1, VRs_close xs e _ _ hc.2]
theorem VVs_close : ∀ (xs : List A) (e : Env) (vs : List Value) (F : List Nat), closeds xs = true → (VVs xs e vs F ↔ VVs xs e.close vs F)
  | [], e, vs, F, hc => by simp only [VVs]
  | x :: xs, e, vs, F, hc => by
    simp only [closeds, Bool.and_eq_true] at hc
    simp only [VVs, VR_close x e _ _ hc.1, VVs_close xs e _ _ hc.2]
end
theorem VV_close {a : A} {e : Env} {y : Value} {F : List Nat} (hc : a.closed = true) : VV a e y F ↔ VV a e.close y F := by
  unfold VV; simp only [VR_close a e _ _ hc]


mutual
theorem VR_isclosed : ∀ (a : A) (e : Env) (vs : List Value) (F : List Nat), VR a e.close vs F → a.closed = true
  | .v x, e, vs, F, h => rfl
  | .und, e, vs, F, h => by simp [VR] at h
  | .agg xs, e, vs, F, h => by simp only [VR] at h; simpa [A.closed] using VRs_isclosed xs e vs F h
  | .arr tot xs, e, vs, F, h => rfl
  | .sl p xs, e, vs, F, h => rfl
  | .osl s xs, e, vs, F, h => rfl
  | .rp p a, e, vs, F, h => rfl
  | .box a, e, vs, F, h => rfl
  | .ref .., e, vs, F, h => by simp [VR, Env.close] at h
  | .aref .., e, vs, F, h => by simp [VR, Env.close] at h
  | .ptr .., e, vs, F, h => by simp [VR, Env.close] at h
  | .clo f first caps, e, vs, F, h => by
    simp only [VR] at h
    obtain ⟨fvs, cvs, Ff, Fc, _, _, h1, h2⟩ := h
    simp [A.closed, VVs_isclosed first e _ _ h1, VVs_isclosed caps e _ _ h2]
  | .ifc t a, e, vs, F, h => by
    simp only [VR] at h
    obtain ⟨x, _, ⟨_, cs, _, h3⟩ | ⟨_, h3⟩⟩ := h
    · simpa [A.closed] using VR_isclosed a e _ _ h3
    · simpa [A.closed] using VR_isclosed a e _ _ h3
  | .tup _, e, vs, F, h => by simp [VR] at h
  | .mp .., e, vs, F, h => rfl
  | .mref _, e, vs, F, h => by simp [VR, Env.close] at h
  | .yl _, e, vs, F, h => rfl
  | .yref _, e, vs, F, h => by simp [VR, Env.close] at h
theorem VRs_isclosed : ∀ (xs : List A) (e : Env) (vs : List Value) (F : List Nat), VRs xs e.close vs F → closeds xs = true
  | [], e, vs, F, h => rfl
  | x :: xs, e, vs, F, h => by
    simp only [VRs] at h
    obtain ⟨_, _, _, _, _, _, h1, h2⟩ := h
    simp [closeds, VR_isclosed x e _ _ h1, VRs_isclosed xs e _ _ h2]
theorem VVs_isclosed : ∀ (xs : List A) (e : Env) (vs : List Value) (F : List Nat), VVs xs e.close vs F → closeds xs = true
  | [], e, vs, F, h => rfl
  | x :: xs, e, vs, F, h => by
    simp only [VVs] at h
    obtain ⟨_, _, _, _, _, _, ⟨_, cs, _, h3⟩ | ⟨_, h3⟩, h2⟩ := h
    · simp [closeds, VR_isclosed x e _ _ h3, VVs_isclosed xs e _ _ h2]
    · simp [closeds, VR_isclosed x e _ _ h3, VVs_isclosed xs e _ _ h2]
end

mutual
def A.nobor : A → Bool
  | .sl p _ | .rp p _ => p
  | .box a => a.nobor
  | .agg xs => nobors xs
  | .clo _ f c => nobors f && nobors c
  | .ifc _ a => a.nobor
  | .yl _ => false
  | _ => true
def nobors : List A → Bool
  | [] => true
  | x :: xs => x.nobor && nobors xs
end

/-- Nothing is borrowed any more. -/
def Env.noB (e : Env) : Env := { e with B := fun _ => False }
theorem noB_shut (e : Env) : e.noB.shut = e.shut := rfl
theorem noB_close (e : Env) : e.noB.close = e.shut := rfl
theorem close_noB (e : Env) : e.close.noB = e.shut := rfl
theorem noB_cl_true (e : Env) : e.noB.cl true = e.cl true := rfl
theorem noB_ok_true {e : Env} {g : Nat} (h : e.ok true g) : e.noB.ok true g := by
  rcases h with h | ⟨h, _⟩
  · exact .inl h
  · cases h

mutual
theorem VR_noB : ∀ (a : A) (e : Env) (vs : List Value) (F : List Nat), a.nobor = true → VR a e vs F → VR a e.noB vs F
  | .v x, e, vs, F, hc, h => by simpa only [VR] using h
  | .und, e, vs, F, hc, h => by simp [VR] at h
  | .agg xs, e, vs, F, hc, h => by simp only [VR] at h ⊢; exact VRs_noB xs e vs F (by simpa [A.nobor] using hc) h
  | .arr tot xs, e, vs, F, hc, h => by simp only [VR, noB_shut] at h ⊢; exact h
  | .sl p xs, e, vs, F, hc, h => by
    simp only [A.nobor] at hc
    subst hc
    simp only [VR] at h ⊢
    obtain ⟨rfl, a, c, us, rfl, h1, h2, h3, h4⟩ := h
    exact ⟨rfl, a, c, us, rfl, h1, h2, h3, fun hne => let ⟨ad, x, y, z⟩ := h4 hne; ⟨ad, x, noB_ok_true y, z⟩⟩
  | .osl s xs, e, vs, F, hc, h => by simp only [VR, noB_shut] at h ⊢; exact h
  | .rp p a, e, vs, F, hc, h => by
    simp only [A.nobor] at hc
    subst hc
    simp only [VR] at h ⊢
    obtain ⟨rfl, ad, us, rfl, h1, h2, h3⟩ := h
    exact ⟨rfl, ad, us, rfl, noB_ok_true h1, h2, h3⟩
  | .box a, e, vs, F, hc, h => by
    simp only [A.nobor] at hc
    simp only [VR, noB_close] at h ⊢
    obtain ⟨g, cs, ty, Fx, rfl, h1, h2, rfl⟩ := h
    exact ⟨g, cs, ty, Fx, rfl, h1, by have := VR_noB a e.close _ _ hc h2; rwa [close_noB] at this, rfl⟩
  | .ref .., e, vs, F, hc, h => by simp only [VR] at h ⊢; exact h
  | .aref .., e, vs, F, hc, h => by simp only [VR] at h ⊢; exact h
  | .ptr .., e, vs, F, hc, h => by simp only [VR] at h ⊢; exact h
  | .clo f first caps, e, vs, F, hc, h => by
    simp only [A.nobor, Bool.and_eq_true] at hc
    simp only [VR] at h ⊢
    obtain ⟨fvs, cvs, Ff, Fc, rfl, rfl, h1, h2⟩ := h
    exact ⟨fvs, cvs, Ff, Fc, rfl, rfl, VVs_noB first e _ _ hc.1 h1, VVs_noB caps e _ _ hc.2 h2⟩
  | .ifc t a, e, vs, F, hc, h => by
    simp only [A.nobor] at hc
    simp only [VR] at h ⊢
    obtain ⟨x, rfl, h⟩ := h
    exact ⟨x, rfl, h.imp (fun ⟨h1, cs, h2, h3⟩ => ⟨h1, cs, h2, VR_noB a e _ F hc h3⟩) (fun ⟨h1, h2⟩ => ⟨h1, VR_noB a e _ F hc h2⟩)⟩
  | .tup _, e, vs, F, hc, h => by simp [VR] at h
  | .mp .., e, vs, F, hc, h => by simp only [VR, noB_shut] at h ⊢; exact h
  | .mref _, e, vs, F, hc, h => by simp only [VR] at h ⊢; exact h
  | .yl _, e, vs, F, hc, h => by simp [A.nobor] at hc
  | .yref _, e, vs, F, hc, h => by simp only [VR] at h ⊢; exact h
theorem VRs_noB : ∀ (xs : List A) (e : Env) (vs : List Value) (F : List Nat), nobors xs = true → VRs xs e vs F → VRs xs e.noB vs F
  | [], e, vs, F, hc, h => by simpa only [VRs] using h
  | x :: xs, e, vs, F, hc, h => by
    simp only [nobors, Bool.and_eq_true] at hc
    simp only [VRs] at h ⊢
    obtain ⟨us, vs', F1, F2, rfl, rfl, h1, h2⟩ := h
    exact ⟨us, vs', F1, F2, rfl, rfl, VR_noB x e us F1 hc.1 h1, VRs_noB xs e vs' F2 hc.2 h2⟩
theorem VVs_noB : ∀ (xs : List A) (e : Env) (vs : List Value) (F : List Nat), nobors xs = true → VVs xs e vs F → VVs xs e.noB vs F
  | [], e, vs, F, hc, h => by simpa only [VVs] using h
  | x :: xs, e, vs, F, hc, h => by
    simp only [nobors, Bool.and_eq_true] at hc
    simp only [VVs] at h ⊢
    obtain ⟨y, vs', F1, F2, rfl, rfl, h1, h2⟩ := h
    exact ⟨y, vs', F1, F2, rfl, rfl, h1.imp (fun ⟨h1, cs, h2, h3⟩ => ⟨h1, cs, h2, VR_noB x e _ F1 hc.1 h3⟩) (fun ⟨h1, h2⟩ => ⟨h1, VR_noB x e _ F1 hc.1 h2⟩),
      VVs_noB xs e vs' F2 hc.2 h2⟩
end

/-! lists -/
theorem VRs_append : ∀ (xs ys : List A) (e : Env) (us vs : List Value) (F G : List Nat), VRs xs e us F → VRs ys e vs G → VRs (xs ++ ys) e (us ++ vs) (F ++ G)
  | [], ys, e, us, vs, F, G, h, h' => by simp only [VRs] at h; simpa [h.1, h.2] using h'
  | x :: xs, ys, e, us, vs, F, G, h, h' => by
    simp only [VRs] at h
    obtain ⟨u1, u2, F1, F2, rfl, rfl, h1, h2⟩ := h
    simp only [List.cons_append, VRs]
    exact ⟨u1, u2 ++ vs, F1, F2 ++ G, by simp, by simp, h1, VRs_append xs ys e u2 vs F2 G h2 h'⟩
theorem VRs_split : ∀ (xs ys : List A) (e : Env) (vs : List Value) (F : List Nat), VRs (xs ++ ys) e vs F → ∃ us ws F1 F2, vs = us ++ ws ∧ F = F1 ++ F2 ∧ VRs xs e us F1 ∧ VRs ys e ws F2
  | [], ys, e, vs, F, h => ⟨[], vs, [], F, by simp, by simp, by simp [VRs], h⟩
  | x :: xs, ys, e, vs, F, h => by
    simp only [List.cons_append, VRs] at h
    obtain ⟨u1, u2, F1, F2, rfl, rfl, h1, h2⟩ := h
    obtain ⟨us, ws, G1, G2, rfl, rfl, h3, h4⟩ := VRs_split xs ys e u2 F2 h2
    exact ⟨u1 ++ us, ws, F1 ++ G1, G2, by simp, by simp, by simp only [VRs]; exact ⟨u1, us, F1, G1, rfl, rfl, h1, h3⟩, h4⟩
theorem VRs_cons {x : A} {xs : List A} {e : Env} {us vs : List Value} {F G : List Nat} (h : VR x e us F) (h' : VRs xs e vs G) : VRs (x :: xs) e (us ++ vs) (F ++ G) := by
  simp only [VRs]; exact ⟨us, vs, F, G, rfl, rfl, h, h'⟩
theorem szs_append (xs ys : List A) : szs (xs ++ ys) = szs xs + szs ys := by
  induction xs with
  | nil => simp [szs]
  | cons x xs ih => simp [szs, ih]; omega
theorem szs_const {xs : List A} {s : Nat} (h : ∀ x ∈ xs, x.sz = s) : szs xs = xs.length * s := by
  induction xs with
  | nil => simp [szs]
  | cons x xs ih =>
    simp only [szs, List.length_cons, Nat.add_mul, Nat.one_mul]
    rw [ih (fun y hy => h y (by simp [hy])), h x (by simp)]
    omega

end Go.PA

/- PA3: the frame's state, and what it stands for. -/
namespace Go.PA

inductive Blk where
  | row (s : Nat) (xs : List A)
  | froz (s : Nat) (xs : List A)
  | var (a : A)
  | mp (ks vs : List A)
  | yld (R : Env → Nat → List Nat → Prop)

structure St where
  sl : Nat → Option A
  bk : Nat → Option Blk
  ids : Nat → Bool
  ep : Nat
  gs : List (Array Value × (Nat → Option A)) := []

def BkR (e : Env) (d : Nat) : Blk → List Nat → Prop
  | .row s xs, F => 0 < s ∧ (∀ x ∈ xs, x.sz = s) ∧
      ((e.loc d = some none ∧ xs = [] ∧ F = []) ∨
       ∃ g cs ty c us Fx, e.loc d = some (some g) ∧ xs.length ≤ c ∧ c ≤ maxLen ∧ e.w.heap[g]? = some (.cells cs ty (0, 0)) ∧ cs.size = c * s ∧
         VRs xs e us Fx ∧ cs.toList.take us.length = us ∧ F = g :: Fx)
  | .froz s xs, F => F = [] ∧ 0 < s ∧ (∀ x ∈ xs, x.sz = s) ∧
      ((e.loc d = some none ∧ xs = []) ∨
       ∃ g cs ty us, e.loc d = some (some g) ∧ e.S g ∧ e.w.heap[g]? = some (.cells cs ty (0, 0)) ∧ (∃ c, xs.length ≤ c ∧ cs.size = c * s) ∧
         VRs xs e.shut us [] ∧ cs.toList.take us.length = us)
  | .var a, F => ∃ g cs ty Fx, e.loc d = some (some g) ∧ e.w.heap[g]? = some (.cells cs ty (0, 0)) ∧ VR a e cs.toList Fx ∧ F = g :: Fx
  | .mp ks vs, F => ∃ g es clock Fx, e.loc d = some (some g) ∧ e.w.heap[g]? = some (.map es clock) ∧ bornOk es clock ∧ VVs ks e.shut (es.toList.map (·.key)) [] ∧ VVs vs e (es.toList.map (·.val)) Fx ∧ F = g :: Fx
  | .yld R, F => ∃ l o, e.loc d = some (some l) ∧ e.w.heap[l]? = some o ∧ l ∈ F ∧ ∀ e', e.close.Le e' F → R e'.close l F

/-- What a call begins with. -/
structure Ctx where
  w0 : World
  F0 : List Nat
  S0 : Nat → Prop
  B : Nat → Prop
  n : Nat

def envOf (c : Ctx) (st : St) (w : World) (loc : Nat → Option (Option Nat)) (S : Nat → Prop) : Env := ⟨w, loc, st.ids, S, c.B⟩

/-- What of the world stays: all but the call's own. -/
structure Fram (c : Ctx) (w : World) (S : Nat → Prop) : Prop where
  heap : ∀ g, g < c.w0.heap.size → g ∉ c.F0 → w.heap[g]? = c.w0.heap[g]?
  size : c.w0.heap.size ≤ w.heap.size
  os : w.os = c.w0.os
  tape : w.tape = c.w0.tape
  output : w.output = c.w0.output
  sub : ∀ g, c.S0 g → S g
  new : ∀ g, S g → c.S0 g ∨ g ∈ c.F0 ∨ c.w0.heap.size ≤ g
  bd : ∀ g, S g ∨ c.B g → g < w.heap.size
  shp : ∀ g, g < c.w0.heap.size → (w.shape? g).map (·.2) = (c.w0.shape? g).map (·.2)
  fro : ∀ a, w.frozen? a = c.w0.frozen? a

theorem heapOld (w : World) (o : Obj) (i : Nat) (h : i < w.heap.size) : (w.alloc o).heap[i]? = w.heap[i]? := by
  simp only [World.alloc, Array.getElem?_push]
  rw [if_neg (by omega)]
/-- The mark of a loop over a function among the deferred calls. -/
def mark (D : Nat) : Deferred := { target := .collected D, args := #[] }
/-- The deferred calls are marks, whose blocks nobody owns. -/
def Marks (c : Ctx) (a : Act) (w : World) (S : Nat → Prop) (Fm : Nat → List Nat) (X : List Nat) : Prop :=
  ∃ Ds : List Nat, a.defers = Ds.map mark ∧ Ds.Nodup ∧ ∀ D ∈ Ds, c.w0.heap.size ≤ D ∧ w.heap[D]? = some (.deferred (some [])) ∧ ¬ S D ∧ (∀ d, D ∉ Fm d) ∧ D ∉ X

theorem Marks.next {c : Ctx} {a : Act} {w w' : World} {S S' : Nat → Prop} {Fm Fm' : Nat → List Nat} {X X' : List Nat} (h : Marks c a w S Fm X)
    (hh : ∀ g, g < w.heap.size → (∀ d, g ∉ Fm d) → g ∉ X → w'.heap[g]? = w.heap[g]?) (hS : ∀ g, S' g → S g ∨ (∃ d, g ∈ Fm d) ∨ g ∈ X ∨ w.heap.size ≤ g)
    (hF : ∀ d g, g ∈ Fm' d → (∃ d, g ∈ Fm d) ∨ g ∈ X ∨ w.heap.size ≤ g) (hX : ∀ g, g ∈ X' → (∃ d, g ∈ Fm d) ∨ g ∈ X ∨ w.heap.size ≤ g) : Marks c a w' S' Fm' X' := by
  obtain ⟨Ds, h1, h0, h2⟩ := h
  refine ⟨Ds, h1, h0, fun D hD => ?_⟩
  obtain ⟨h3, h4, h5, h6, h7⟩ := h2 D hD
  have hlt : D < w.heap.size := (Array.getElem?_eq_some_iff.1 h4).1
  have key : ∀ {p : Prop}, (∃ d, D ∈ Fm d) ∨ D ∈ X ∨ w.heap.size ≤ D → p := fun h => by
    rcases h with ⟨d, hd⟩ | h | h
    · exact absurd hd (h6 d)
    · exact absurd h h7
    · omega
  exact ⟨h3, (hh D hlt h6 h7).trans h4, fun h => (hS D h).elim h5 fun h => key h, fun d hd => key (hF d D hd), fun hx => key (hX D hx)⟩

structure RelW (c : Ctx) (st : St) (a : Act) (w : World) (loc : Nat → Option (Option Nat)) (S : Nat → Prop) (Fm : Nat → List Nat) : Prop where
  slots : ∀ t x, st.sl t = some x → TV x (envOf c st w loc S) (a.tmps.getD t undef)
  size : a.tmps.size = c.n
  defers : Marks c a w S Fm []
  ghosts : ∀ p, p ∈ st.gs → ∀ t x, p.2 t = some x → TV x (envOf c st w loc S) (p.1.getD t undef)
  bks : ∀ d b, st.bk d = some b → BkR (envOf c st w loc S) d b (Fm d)
  dead : ∀ d, st.bk d = none → Fm d = [] ∧ loc d = none
  known : ∀ d, st.bk d ≠ none → st.ids d = true
  nodup : ∀ d, (Fm d).Nodup
  disj : ∀ d d', d ≠ d' → ∀ g, g ∈ Fm d → g ∉ Fm d'
  own : ∀ d g, g ∈ Fm d → ¬ S g ∧ ¬ c.B g ∧ g < w.heap.size ∧ (g ∈ c.F0 ∨ c.w0.heap.size ≤ g)
  fram : Fram c w S

def Rel (c : Ctx) (st : St) (a : Act) (w : World) : Prop := ∃ loc S Fm, RelW c st a w loc S Fm

def upd {α : Type} (f : Nat → Option α) (t : Nat) (a : Option α) : Nat → Option α := fun u => if u = t then a else f u

theorem upd_app {α : Type} (f : Nat → Option α) (t : Nat) (a : Option α) (u : Nat) : upd f t a u = if u = t then a else f u := rfl

def St.put (st : St) (t : Option Nat) (x : Option A) : St :=
  match t with
  | none => st
  | some t => { st with sl := upd st.sl t x }

theorem getD_setIfInBounds (xs : Array Value) (t u : Nat) (v d : Value) :
    (xs.setIfInBounds t v).getD u d = if u = t ∧ t < xs.size then v else xs.getD u d := by
  simp only [Array.getD_eq_getD_getElem?, Array.getElem?_setIfInBounds]
  by_cases h : t = u
  · subst h
    by_cases h2 : t < xs.size <;> simp [h2]
  · simp only [h, if_false]
    rw [if_neg (fun hh => h hh.1.symm)]

/-- A slot is written: nothing else turns. -/
theorem RelW.put {c : Ctx} {st : St} {a : Act} {w : World} {loc S Fm} (R : RelW c st a w loc S Fm) (t : Option Nat) (x : Option A) (y : Value)
    (ht : ∀ d, t = some d → d < c.n) (hx : ∀ z, x = some z → TV z (envOf c st w loc S) y) : RelW c (st.put t x) (a.put t y) w loc S Fm := by
  cases t with
  | none => exact R
  | some t =>
    have he : envOf c (st.put (some t) x) w loc S = envOf c st w loc S := rfl
    refine ⟨fun u z hu => ?_, ?_, R.defers, R.ghosts, R.bks, R.dead, R.known, R.nodup, R.disj, R.own, R.fram⟩
    · rw [he]
      simp only [Act.put, getD_setIfInBounds]
      simp only [St.put, upd] at hu
      by_cases h : u = t
      · subst h
        have hsz : u < a.tmps.size := by rw [R.size]; exact ht u rfl
        simp only [if_true] at hu
        simp only [hsz, and_self, if_true]
        exact hx z hu
      · rw [if_neg h] at hu
        rw [if_neg (fun hh => h hh.1)]
        exact R.slots u z hu
    · simp [Act.put, R.size]

end Go.PA

/- PA4: what an operation does to a frame's state. -/
namespace Go.PA

/-! Reading the frame's blocks. -/
inductive RM (α : Type) where
  | ret (a : α)
  | fail
  | rd (d : Nat) (k : Blk → RM α)
  | req (p : Prop) (k : RM α)

def RM.bind {α β : Type} : RM α → (α → RM β) → RM β
  | .ret a, f => f a
  | .fail, _ => .fail
  | .rd d k, f => .rd d fun b => (k b).bind f
  | .req p k, f => .req p (k.bind f)

/-- What must hold so that 'm' comes to something that 'K' takes. -/
def RM.wp {α : Type} (bk : Nat → Option Blk) : RM α → (α → List Nat → Prop) → Prop
  | .ret a, K => K a []
  | .fail, _ => False
  | .rd d k, K => match bk d with
    | some b => (k b).wp bk fun a l => K a (d :: l)
    | none => False
  | .req p k, K => p ∧ k.wp bk K

inductive RM.Runs {α : Type} (bk : Nat → Option Blk) : RM α → α → List Nat → Prop
  | ret (a : α) : Runs bk (.ret a) a []
  | rd {d : Nat} {k : Blk → RM α} {b : Blk} {a : α} {l : List Nat} (h : bk d = some b) (r : Runs bk (k b) a l) : Runs bk (.rd d k) a (d :: l)
  | req {p : Prop} {k : RM α} {a : α} {l : List Nat} (h : p) (r : Runs bk k a l) : Runs bk (.req p k) a l

theorem RM.runs_of_wp {α : Type} {bk : Nat → Option Blk} {m : RM α} : ∀ {K : α → List Nat → Prop}, m.wp bk K → ∃ a l, RM.Runs bk m a l ∧ K a l := by
  induction m with
  | ret a => exact fun h => ⟨a, [], .ret a, h⟩
  | fail => exact fun h => h.elim
  | rd d k ih =>
    intro K h
    simp only [RM.wp] at h
    split at h
    · rename_i b hb
      obtain ⟨a, l, r, hk⟩ := ih b h
      exact ⟨a, d :: l, .rd hb r, hk⟩
    · exact h.elim
  | req p k ih =>
    intro K h
    obtain ⟨a, l, r, hk⟩ := ih h.2
    exact ⟨a, l, .req h.1 r, hk⟩

theorem RM.Runs.local {α : Type} {bk bk' : Nat → Option Blk} {m : RM α} {a : α} {l : List Nat} (r : RM.Runs bk m a l) (h : ∀ d ∈ l, bk' d = bk d) : RM.Runs bk' m a l := by
  induction r with
  | ret a => exact .ret a
  | rd hb r ih => exact .rd ((h _ (by simp)).trans hb) (ih fun d hd => h d (by simp [hd]))
  | req hp r ih => exact .req hp (ih h)

theorem RM.runs_bind {α β : Type} {bk : Nat → Option Blk} {f : α → RM β} : ∀ {m : RM α} {b : β} {l : List Nat}, RM.Runs bk (m.bind f) b l →
    ∃ a l1 l2, RM.Runs bk m a l1 ∧ RM.Runs bk (f a) b l2 ∧ l = l1 ++ l2 := by
  intro m
  induction m with
  | ret a => exact fun h => ⟨a, [], _, .ret a, h, rfl⟩
  | fail => intro b l h; cases h
  | rd d k ih =>
    intro b l h
    cases h with
    | rd hb r =>
      obtain ⟨a, l1, l2, r1, r2, rfl⟩ := ih _ r
      exact ⟨a, d :: l1, l2, .rd hb r1, r2, rfl⟩
  | req p k ih =>
    intro b l h
    cases h with
    | req hp r =>
      obtain ⟨a, l1, l2, r1, r2, rfl⟩ := ih r
      exact ⟨a, l1, l2, .req hp r1, r2, rfl⟩

structure Eff where
  val : A
  up : List (Nat × Option Blk)
  new : List Nat

/-! The program's tables. -/
def tSlice (P : Program) (t : TypeId) : Option (TypeId × Nat) :=
  match P.underlying t with
  | some (.slice e) => (P.info? e).map fun i => (e, i.size)
  | _ => none
def tArr (P : Program) (t : TypeId) : Option (Nat × TypeId × Nat) :=
  match P.underlying t with
  | some (.array n e) => (P.info? e).map fun i => (n, e, i.size)
  | _ => none
def tFld (P : Program) (t : TypeId) (k : Nat) : Option (Nat × TypeId × Nat) :=
  match P.underlying t with
  | some (.struct fs) => (fs[k]?).bind fun f => (P.info? f.type).map fun i => (f.offset, f.type, i.size)
  | _ => none
def tAgg (P : Program) (t : TypeId) : Option Bool :=
  (P.underlying t).map fun | .struct _ | .array _ _ => true | _ => false
def tSize (P : Program) (t : TypeId) : Option Nat := (P.info? t).map (·.size)
def tInt (P : Program) (t : TypeId) : Option IntKind :=
  match P.underlying t with
  | some (.int k) => some k
  | _ => none
def tBytes (P : Program) (t : TypeId) : Option Nat := (P.info? t).map (·.bytes)

mutual
/-- Nil slices, read-only: as they stand in an array's zero. -/
def nilS : A → A
  | .osl _ [] => .sl true []
  | .agg xs => .agg (nilSs xs)
  | a => a
def nilSs : List A → List A
  | [] => []
  | x :: xs => nilS x :: nilSs xs
end
/-- Zero trees. -/
def zTree (P : Program) : Nat → TypeId → Option A
  | 0, _ => none
  | n + 1, t =>
    match P.underlying t with
    | some (.struct fs) => (fs.toList.mapM fun f => zTree P n f.type).map A.agg
    | some (.array k e) => match zTree P n e, P.info? e with
      | some z, some i => some (.arr (k * i.size) (List.replicate k (nilS z)))
      | _, _ => none
    | some (.slice e) => (P.info? e).map fun i => .osl i.size []
    | some _ => match (P.info? t).bind (·.zero) with
      | some z => if plainV z then some (.v z) else none
      | none => none
    | none => none

def eqPlain : Value → Value → Bool
  | .bool a, .bool b => a == b
  | .int k a, .int l b => k == l && a == b
  | .float k a, .float l b => k == l && a == b
  | .string a, .string b => a.data.toList == b.data.toList
  | .pointer none, .pointer none => true
  | .map none, .map none => true
  | .nilFunc, .nilFunc => true
  | .nilIface, .nilIface => true
  | .slice none 0 0, .slice none 0 0 => true
  | _, _ => false
def eqPlains : List Value → List Value → Bool
  | [], [] => true
  | x :: xs, y :: ys => eqPlain x y && eqPlains xs ys
  | _, _ => false

mutual
/-- The cells of a zero tree. -/
def zFlat : A → Option (List Value)
  | .v x => if plainV x then some [x] else none
  | .agg xs => zFlats xs
  | .arr tot xs => (zFlats xs).bind fun vs => if vs.length = tot ∧ xs.all (fun x => x.sz == (xs.head?.map A.sz).getD 0) then some vs else none
  | .osl s [] => if 0 < s then some [.slice none 0 0] else none
  | .sl true [] => some [.slice none 0 0]
  | _ => none
def zFlats : List A → Option (List Value)
  | [] => some []
  | x :: xs => match zFlat x, zFlats xs with
    | some a, some b => some (a ++ b)
    | _, _ => none
end

def tZero (P : Program) (t : TypeId) : Option A :=
  match zTree P 12 t, (P.info? t).bind (·.zero) with
  | some z, some v => match zFlat z with
    | some cs => if eqPlains cs v.cells.toList then some z else none
    | none => none
  | _, _ => none

/-! Trees and paths. -/
def szAt (xs : List A) (i s : Nat) : Prop := ∃ x, xs[i]? = some x ∧ x.sz = s
/-- All are of that size. -/
def szAll (s : Nat) : List A → Prop
  | [] => True
  | x :: xs => x.sz = s ∧ szAll s xs

def getP : A → List PS → RM A
  | a, [] => .ret a
  | .agg xs, .fld k off :: p => match xs[k]? with
    | some x => if szs (xs.take k) = off then getP x p else .fail
    | none => .fail
  | .arr _ xs, .idx i s :: p => .req (szAt xs i s) (getP (xs.getD i .und) p)
  | .agg xs, .idx i s :: p => .req (i < xs.length ∧ szAll s xs) (getP (xs.getD i .und) p)
  | _, _ => .fail

def setP : A → List PS → A → RM A
  | a, [], b => if a.sz = b.sz then .ret b else .fail
  | .agg xs, .fld k off :: p, b => match xs[k]? with
    | some x => if szs (xs.take k) = off then (setP x p b).bind fun y => .ret (.agg (xs.set k y)) else .fail
    | none => .fail
  | .agg xs, .idx i s :: p, b => .req (i < xs.length ∧ szAll s xs) ((setP (xs.getD i .und) p b).bind fun y => .ret (.agg (xs.set i y)))
  | .arr t xs, .idx i s :: p, b => if b.closed && b.nobor then .req (szAt xs i s) ((setP (xs.getD i .und) p b).bind fun y => .ret (.arr t (xs.set i y))) else .fail
  | _, _, _ => .fail

/-- A row's element, and on. -/
def getR (xs : List A) (s : Nat) : List PS → RM A
  | .idx i s' :: p => if s' = s then .req (i < xs.length) (getP (xs.getD i .und) p) else .fail
  | _ => .fail
def setR (xs : List A) (s : Nat) (b : A) : List PS → RM (List A)
  | .idx i s' :: p => if s' = s then .req (i < xs.length) ((setP (xs.getD i .und) p b).bind fun y => .ret (xs.set i y)) else .fail
  | _ => .fail

mutual
/-- Whether a tree owns nothing. -/
def A.noown : A → Bool
  | .v _ | .sl .. | .rp .. | .ref .. | .aref .. | .ptr .. | .mref _ | .yref _ => true
  | .agg xs => noowns xs
  | .arr _ xs => noowns xs
  | .clo _ f c => noowns f && noowns c
  | .ifc _ a => a.noown
  | _ => false
def noowns : List A → Bool
  | [] => true
  | x :: xs => x.noown && noowns xs
end

/-! What a variable of a plain type holds. -/
def A.isInt (k : IntKind) (a : A) : Prop := ∃ n, a = .v (.int k n)
def A.asInt : A → Int
  | .v (.int _ n) => n
  | _ => 0
def A.isBool (a : A) : Prop := ∃ b, a = .v (.bool b)
def A.asBool : A → Bool
  | .v (.bool b) => b
  | _ => false
def A.isStr (a : A) : Prop := ∃ s, a = .v (.string s)
def A.asStr : A → ByteArray
  | .v (.string s) => s
  | _ => .empty

inductive TK where
  | int (k : IntKind)
  | bool
  | str
  | other
def tKind (P : Program) (t : TypeId) : TK :=
  match P.underlying t with
  | some (.int k) => .int k
  | some .bool => .bool
  | some .string => .str
  | _ => .other

/-- A tree of a known type, in the type's own form. -/
def shaped (k : TK) (a : A) : RM A :=
  match k with
  | .int k => .req (a.isInt k) (.ret (.v (.int k a.asInt)))
  | .bool => .req a.isBool (.ret (.v (.bool a.asBool)))
  | .str => .req a.isStr (.ret (.v (.string a.asStr)))
  | .other => .ret a

/-! What is at rest becomes blocks. -/
mutual
/-- The own parts of a tree become blocks with the names k, k + 1, .. -/
def unf : Nat → A → Option (A × List (Nat × Blk) × Nat)
  | k, .osl s xs => some (.ref k s 0 xs.length false, [(k, .row s xs)], k + 1)
  | k, .box a => some (.ptr k [], [(k, .var a)], k + 1)
  | k, .mp ks vs => some (.mref k, [(k, .mp ks vs)], k + 1)
  | k, .yl R => some (.yref k, [(k, .yld R)], k + 1)
  | k, .agg xs => (unfs k xs).map fun (ys, bs, k') => (.agg ys, bs, k')
  | k, .clo f a c => match unfs k a with
    | some (a', bs, k1) => match unfs k1 c with
      | some (c', bs', k2) => some (.clo f a' c', bs ++ bs', k2)
      | none => none
    | none => none
  | k, .ifc t a => (unf k a).map fun (y, bs, k') => (.ifc t y, bs, k')
  | k, .arr t xs => if noowns xs then some (.arr t xs, [], k) else none
  | k, a => if a.noown then some (a, [], k) else none
def unfs : Nat → List A → Option (List A × List (Nat × Blk) × Nat)
  | k, [] => some ([], [], k)
  | k, x :: xs => match unf k x with
    | some (y, bs, k1) => match unfs k1 xs with
      | some (ys, bs', k2) => some (y :: ys, bs ++ bs', k2)
      | none => none
    | none => none
end

/-! Blocks go to rest: 'rm' are those that are gone already. 'bor': may what is borrowed be in it? -/
def takesW (f : A → List Nat → RM (A × List Nat)) : List A → List Nat → RM (List A × List Nat)
  | [], rm => .ret ([], rm)
  | x :: xs, rm => (f x rm).bind fun q => (takesW f xs q.2).bind fun q' => .ret (q.1 :: q'.1, q'.2)

def takeA (bor : Bool) : Nat → A → List Nat → RM (A × List Nat)
  | 0, _, _ => .fail
  | n + 1, a, rm => match a with
    | .v x => .ret (.v x, rm)
    | .sl p xs => if p || bor then .ret (.sl p xs, rm) else .fail
    | .rp p a => if p || bor then .ret (.rp p a, rm) else .fail
    | .arr t xs => .ret (.arr t xs, rm)
    | .ref d s off len full => if rm.contains d then .fail else .rd d fun b => match b with
      | .row s' xs => if s = s' ∧ off = 0 ∧ full = false ∧ closeds xs = true ∧ nobors xs = true then .req (len ≤ xs.length) (.ret (.osl s (xs.take len), d :: rm)) else .fail
      | .froz s' xs => if s = s' then .req (off + len ≤ xs.length) (.ret (.sl true ((xs.drop off).take len), rm)) else .fail
      | _ => .fail
    | .mref d => if rm.contains d then .fail else .rd d fun b => match b with
      | .mp ks vs => if closeds vs = true ∧ nobors vs = true then .ret (.mp ks vs, d :: rm) else .fail
      | _ => .fail
    | .yref d => if rm.contains d || !bor then .fail else .rd d fun b => match b with
      | .yld R => .ret (.yl R, d :: rm)
      | _ => .fail
    | .mp ks vs => .ret (.mp ks vs, rm)
    | .yl R => if bor then .ret (.yl R, rm) else .fail
    | .ptr d [] => if rm.contains d then .fail else .rd d fun b => match b with
      | .var a => (takeA bor n a (d :: rm)).bind fun q => .ret (.box q.1, q.2)
      | _ => .fail
    | .agg xs => (takesW (takeA bor n) xs rm).bind fun q => .ret (.agg q.1, q.2)
    | .clo f a c => (takesW (takeA bor n) a rm).bind fun q => (takesW (takeA bor n) c q.2).bind fun q' => .ret (.clo f q.1 q'.1, q'.2)
    | .ifc t a => (takeA bor n a rm).bind fun q => .ret (.ifc t q.1, q.2)
    | .osl s xs => .ret (.osl s xs, rm)
    | .box a => if a.nobor || bor then .ret (.box a, rm) else .fail
    | _ => .fail

mutual
/-- What is lent of a tree that owns. -/
def lnd : A → A
  | .osl _ xs => .sl false (lnds xs)
  | .box a => .rp false (lnd a)
  | .agg xs => .agg (lnds xs)
  | .ifc t a => .ifc t (lnd a)
  | a => a
def lnds : List A → List A
  | [] => []
  | x :: xs => lnd x :: lnds xs
/-- May it be lent? -/
def lndOk : A → Bool
  | .osl _ xs => lndOks xs
  | .box a => lndOk a && a.closed
  | .agg xs => lndOks xs
  | .ifc _ a => lndOk a
  | .arr _ xs => noowns xs
  | .clo _ a b => noowns a && noowns b
  | .mp .. | .yl _ => false
  | _ => true
def lndOks : List A → Bool
  | [] => true
  | x :: xs => lndOk x && lndOks xs
end

/-! A read-only view, for the time of a call; 'rm' are the blocks that are gone. -/
def rosW (f : A → RM A) : List A → RM (List A)
  | [] => .ret []
  | x :: xs => (f x).bind fun y => (rosW f xs).bind fun ys => .ret (y :: ys)

def roA (rm : List Nat) : Nat → A → RM A
  | 0, _ => .fail
  | n + 1, a => match a with
    | .v x => .ret (.v x)
    | .sl p xs => .ret (.sl p xs)
    | .rp p a => .ret (.rp p a)
    | .arr t xs => if noowns xs then .ret (.arr t xs) else .fail
    | .ref d s off len _ => if rm.contains d then .fail else .rd d fun b => match b with
      | .row s' xs => if s = s' then
          if closeds xs = true then (if lndOks xs = true then .req (off + len ≤ xs.length) (.ret (.sl false (((lnds xs).drop off).take len))) else .fail)
          else (rosW (roA rm n) xs).bind fun ys => .req (off + len ≤ xs.length ∧ noowns xs = true ∧ closeds ys = true ∧ ∀ y ∈ ys, y.sz = s) (.ret (.sl false ((ys.drop off).take len)))
        else .fail
      | .froz s' xs => if s = s' then .req (off + len ≤ xs.length) (.ret (.sl true ((xs.drop off).take len))) else .fail
      | _ => .fail
    | .aref d p s off len => if rm.contains d then .fail else .rd d fun b => match b with
      | .var a => (getP a p).bind fun y => match y with
        | .arr _ xs => .req (off + len ≤ xs.length ∧ noowns xs = true ∧ ∀ x ∈ xs, x.sz = s) (.ret (.sl false ((xs.drop off).take len)))
        | _ => .fail
      | _ => .fail
    | .ptr d p => if rm.contains d then .fail else .rd d fun b => match b with
      | .var a => (getP a p).bind fun x => if x.noown && x.closed then .ret (.rp false x) else .fail
      | .row s xs => (getR xs s p).bind fun x => if x.noown && x.closed then .ret (.rp false x) else .fail
      | .froz s xs => (getR xs s p).bind fun x => .ret (.rp true x)
      | _ => .fail
    | .agg xs => (rosW (roA rm n) xs).bind fun ys => .ret (.agg ys)
    | .clo f a c => (rosW (roA rm n) a).bind fun a' => (rosW (roA rm n) c).bind fun c' => .ret (.clo f a' c')
    | .ifc t a => (roA rm n a).bind fun a' => .ret (.ifc t a')
    | _ => .fail

end Go.PA

/- PA5: the operations. -/
namespace Go.PA

def A.good : A → Bool
  | .und | .tup _ => false
  | _ => true

def effV (a : A) : RM Eff := .ret ⟨a, [], []⟩
def effN (a : A) (d : Nat) (b : Blk) : RM Eff := .ret ⟨a, [(d, some b)], [d]⟩

/-- bits -/
def iand (k : IntKind) (x y : Int) : Int := k.wrap (BitVec.ofInt k.bits x &&& BitVec.ofInt k.bits y).toNat
def ior (k : IntKind) (x y : Int) : Int := k.wrap (BitVec.ofInt k.bits x ||| BitVec.ofInt k.bits y).toNat
def ixor (k : IntKind) (x y : Int) : Int := k.wrap (BitVec.ofInt k.bits x ^^^ BitVec.ofInt k.bits y).toNat
def iandNot (k : IntKind) (x y : Int) : Int := k.wrap (BitVec.ofInt k.bits x &&& ~~~ BitVec.ofInt k.bits y).toNat
def ishl (k : IntKind) (x y : Int) : Int := k.wrap (x * 2 ^ min y.toNat k.bits)
def ishr (k : IntKind) (x y : Int) : Int := x.fdiv (2 ^ min y.toNat k.bits)

def intBin (op : BinOp) (k : IntKind) (x y : Int) : RM Eff :=
  match op with
  | .add => effV (.v (.int k (k.wrap (x + y))))
  | .sub => effV (.v (.int k (k.wrap (x - y))))
  | .mul => effV (.v (.int k (k.wrap (x * y))))
  | .quo => .req (y ≠ 0) (effV (.v (.int k (k.wrap (x.tdiv y)))))
  | .rem => .req (y ≠ 0) (effV (.v (.int k (x.tmod y))))
  | .and => effV (.v (.int k (iand k x y)))
  | .or => effV (.v (.int k (ior k x y)))
  | .xor => effV (.v (.int k (ixor k x y)))
  | .andNot => effV (.v (.int k (iandNot k x y)))
  | .eql => effV (.v (.bool (x == y)))
  | .neq => effV (.v (.bool (x != y)))
  | .lss => effV (.v (.bool (x < y)))
  | .leq => effV (.v (.bool (x ≤ y)))
  | .gtr => effV (.v (.bool (x > y)))
  | .geq => effV (.v (.bool (x ≥ y)))
  | .shl | .shr => .fail

def strBin (op : BinOp) (x y : ByteArray) : RM Eff :=
  match op with
  | .add => .req (x.size + y.size ≤ 9223372036854775807) (effV (.v (.string (x ++ y))))
  | .eql => effV (.v (.bool (x.toList == y.toList)))
  | .neq => effV (.v (.bool !(x.toList == y.toList)))
  | _ => .fail

def aBin (P : Program) (op : BinOp) (t : TypeId) (a b : A) : RM Eff :=
  match a, b with
  | .v (.int k x), .v (.int k' y) =>
    match op with
    | .shl => .req (0 ≤ y) (effV (.v (.int k (ishl k x y))))
    | .shr => .req (0 ≤ y) (effV (.v (.int k (ishr k x y))))
    | op => if k = k' then intBin op k x y else .fail
  | .v (.string x), .v (.string y) => strBin op x y
  | .v (.bool x), .v (.bool y) => match P.underlying t, op with
    | some .bool, .eql => effV (.v (.bool (x == y)))
    | some .bool, .neq => effV (.v (.bool !(x == y)))
    | _, _ => .fail
  | _, _ => .fail

def aUn (op : UnOp) (a : A) : RM Eff :=
  match op, a with
  | .not, .v (.bool x) => effV (.v (.bool !x))
  | .neg, .v (.int k x) => effV (.v (.int k (k.wrap (0 - x))))
  | .xor, .v (.int k x) => effV (.v (.int k (ixor k (if k.signed then -1 else k.max) x)))
  | _, _ => .fail

def aConv (P : Program) (s d : TypeId) (a : A) : RM Eff :=
  match tInt P s, tInt P d, a with
  | some _, some k, .v (.int _ n) => effV (.v (.int k (k.wrap n)))
  | _, _, _ => .fail

def aLoad (P : Program) (t : TypeId) (p : A) : RM Eff :=
  match p with
  | .ptr d ps => .rd d fun b => match b with
    | .var a => (getP a ps).bind fun x => if tSize P t = some x.sz ∧ tAgg P t = some x.isAgg then (shaped (tKind P t) x).bind fun x =>
        if x.noown then effV x else .fail
      else .fail
    | .row s xs => (getR xs s ps).bind fun x => (shaped (tKind P t) x).bind fun x => if tSize P t = some x.sz ∧ tAgg P t = some x.isAgg ∧ x.noown then effV x else .fail
    | .froz s xs => (getR xs s ps).bind fun x => (shaped (tKind P t) x).bind fun x => if tSize P t = some x.sz ∧ tAgg P t = some x.isAgg ∧ x.noown then effV x else .fail
    | _ => .fail
  | .rp _ a => (shaped (tKind P t) a).bind fun a => if tSize P t = some a.sz ∧ tAgg P t = some a.isAgg ∧ a.noown then effV a else .fail
  | _ => .fail

def aStore (P : Program) (t : TypeId) (p a : A) : RM Eff :=
  if tSize P t = some a.sz ∧ a.good then
    match p with
    | .ptr d ps => .rd d fun b => match b with
      | .var c => (setP c ps a).bind fun c' => .ret ⟨.und, [(d, some (.var c'))], []⟩
      | .row s xs => (setR xs s a ps).bind fun xs' => .ret ⟨.und, [(d, some (.row s xs'))], []⟩
      | _ => .fail
    | _ => .fail
  else .fail

def aFieldAddr (P : Program) (t : TypeId) (p : A) (k : Nat) : RM Eff :=
  match tFld P t k with
  | some (off, _, fs) =>
    if fs = 0 then .fail else
    match p with
    | .ptr d ps => effV (.ptr d (ps ++ [.fld k off]))
    | .rp q (.agg xs) => match xs[k]? with
      | some x => if szs (xs.take k) = off then effV (.rp q x) else .fail
      | none => .fail
    | _ => .fail
  | none => .fail

def aField (P : Program) (t : TypeId) (a : A) (k : Nat) : RM Eff :=
  match tFld P t k, a with
  | some (off, ft, fs), .agg xs => match xs[k]? with
    | some x => if szs (xs.take k) = off ∧ x.sz = fs then (shaped (tKind P ft) x).bind fun x => if tAgg P ft = some x.isAgg then effV x else .fail else .fail
    | none => .fail
  | _, _ => .fail

def aIndexAddr (P : Program) (t : TypeId) (x : A) (n : Int) : RM Eff :=
  match tSlice P t, x with
  | some (_, es), .ref d s off len _ => if s = es then .req (0 ≤ n ∧ n < len) (effV (.ptr d [.idx (off + n.toNat) s])) else .fail
  | some (_, es), .aref d p s off len => if s = es then .req (0 ≤ n ∧ n < len) (effV (.ptr d (p ++ [.idx (off + n.toNat) s]))) else .fail
  | some (_, es), .sl q xs => .req (0 ≤ n ∧ n < xs.length ∧ szAt xs n.toNat es) (effV (.rp q (xs.getD n.toNat .und)))
  | none, x => match tArr P t, x with
    | some (len, _, es), .ptr d p => .req (0 ≤ n ∧ n < len) (effV (.ptr d (p ++ [.idx n.toNat es])))
    | some (len, _, es), .rp q (.arr _ xs) => .req (0 ≤ n ∧ n < len ∧ szAt xs n.toNat es) (effV (.rp q (xs.getD n.toNat .und)))
    | _, _ => .fail
  | _, _ => .fail

def aIndex (P : Program) (t : TypeId) (x : A) (n : Int) : RM Eff :=
  match x with
  | .arr _ xs => match tArr P t with
    | some (len, e, es) => .req (0 ≤ n ∧ n < len ∧ szAt xs n.toNat es) ((shaped (tKind P e) (xs.getD n.toNat .und)).bind fun x => if tAgg P e = some x.isAgg then effV x else .fail)
    | none => .fail
  | .v (.string s) => match P.underlying t with
    | some .string => .req (0 ≤ n ∧ n < s.size) (effV (.v (.int .u8 (s.data.toList.getD n.toNat 0).toNat)))
    | _ => .fail
  | _ => .fail

def aLen (P : Program) (t : TypeId) (x : A) : RM Eff :=
  match P.underlying t, x with
  | some .string, .v (.string s) => effV (.v (.int .i64 s.size))
  | some (.array n _), _ => effV (.v (.int .i64 n))
  | some (.slice _), .sl _ xs => effV (.v (.int .i64 xs.length))
  | some (.slice _), .osl _ xs => effV (.v (.int .i64 xs.length))
  | some (.slice _), .ref _ _ _ len _ => effV (.v (.int .i64 len))
  | some (.slice _), .aref _ _ _ _ len => effV (.v (.int .i64 len))
  | _, _ => .fail

/-- Elements that a row may hold. -/
def rowable (s : Nat) (x : A) : Bool := x.sz == s && x.closed && x.nobor && x.good

/-- What an append puts behind: the elements, as they are copied. -/
def appSrc (x : A) : RM (List A) :=
  match x with
  | .sl p xs => if p then .ret xs else .req (nobors xs = true) (.ret xs)
  | .ref d s off len _ => .rd d fun b => match b with
    | .row s' xs => if s = s' then .req (off + len ≤ xs.length ∧ noowns xs = true) (.ret ((xs.drop off).take len)) else .fail
    | .froz s' xs => if s = s' then .req (off + len ≤ xs.length) (.ret ((xs.drop off).take len)) else .fail
    | _ => .fail
  | .aref d p s off len => .rd d fun b => match b with
    | .var a => (getP a p).bind fun y => match y with
      | .arr _ xs => .req (off + len ≤ xs.length ∧ noowns xs = true ∧ ∀ x ∈ xs, x.sz = s) (.ret ((xs.drop off).take len))
      | _ => .fail
    | _ => .fail
  | _ => .fail

def roomy (n m b : Nat) : Prop := n + m ≤ 9223372036854775807 ∧ (n + m) * b ≤ 140737488355328

def aAppend (P : Program) (nid : Nat) (nilC : Bool) (t : TypeId) (a x : A) : RM Eff :=
  match tSlice P t with
  | some (e, s) => if 0 < s then
      match tBytes P e, tZero P e with
      | some eb, some z => if z.sz = s then
        if nilC then (appSrc x).bind fun ys => .req ((∀ y ∈ ys, y.sz = s) ∧ roomy 0 ys.length eb) (effN (.ref nid s 0 ys.length false) nid (.row s ys))
        else match a with
        | .ref d s' off len full => if s' = s ∧ off = 0 ∧ full = false then .rd d fun b => match b with
            | .row s2 xs => if s2 = s then (appSrc x).bind fun ys =>
                .req (len = xs.length ∧ (∀ y ∈ ys, y.sz = s) ∧ roomy len ys.length eb)
                  (.ret ⟨.ref nid s 0 (len + ys.length) false, [(d, none), (nid, some (.row s (xs ++ ys)))], [nid]⟩) else .fail
            | _ => .fail
          else .fail
        | _ => .fail
        else .fail
      | _, _ => .fail
    else .fail
  | none => .fail

def tConcrete (P : Program) (t : TypeId) : Bool :=
  match P.underlying t with
  | some (.interface _) => false
  | some _ => true
  | none => false

def sBound (x : Option A) : Option (Option Int) :=
  match x with
  | none => some none
  | some (.v (.int _ n)) => some (some n)
  | _ => none

/-- x[lo:hi]; without a third index -/
def aSlice (P : Program) (t : TypeId) (x : A) (lo hi : Option Int) : RM Eff :=
  match x with
  | .ref d s off len full => match tSlice P t with
    | some (_, es) => if es = s ∧ (full && hi.isSome) = false then
        let l := lo.getD 0
        let h := hi.getD len
        .req (0 ≤ l ∧ l ≤ h ∧ h ≤ len) (effV (.ref d s (off + l.toNat) (h.toNat - l.toNat) full)) else .fail
    | none => .fail
  | .sl p xs => match tSlice P t with
    | some (_, es) =>
        let l := lo.getD 0
        let h := hi.getD xs.length
        .req (0 ≤ l ∧ l ≤ h ∧ h ≤ xs.length ∧ (∀ x ∈ xs, x.sz = es)) (effV (.sl p ((xs.drop l.toNat).take (h.toNat - l.toNat))))
    | none => .fail
  | .v (.string s) => match P.underlying t with
    | some .string =>
        let l := lo.getD 0
        let h := hi.getD s.size
        .req (0 ≤ l ∧ l ≤ h ∧ h ≤ s.size) (effV (.v (.string (s.extract l.toNat h.toNat))))
    | _ => .fail
  | _ => .fail

/-- fields by parts -/
def putParts (pl : Nat → Option (Nat × Nat)) : List A → List (Nat × A) → Option (List A)
  | zs, [] => some zs
  | zs, (i, x) :: ps => match zs[i]?, pl i with
    | some z, some (off, s) => if z.sz = x.sz ∧ s = x.sz ∧ off = szs (zs.take i) ∧ x.good then putParts pl (zs.set i x) ps else none
    | _, _ => none

def tPlaces (P : Program) (t : TypeId) : Option (List (Nat × Nat)) :=
  match P.underlying t with
  | some (.struct fs) => fs.toList.mapM fun f => (P.info? f.type).map fun i => (f.offset, i.size)
  | _ => none

def aBuild (P : Program) (t : TypeId) (parts : List (Nat × A)) : RM Eff :=
  match tZero P t with
  | some (.agg zs) => match tPlaces P t with
    | some pl => match putParts (fun i => pl[i]?) zs parts with
      | some xs => effV (.agg xs)
      | none => .fail
    | none => .fail
  | some (.arr n zs) => match tArr P t with
    | some (_, _, s) => match putParts (fun i => some (i * s, s)) zs parts with
      | some xs => if parts.all (fun q => q.2.closed && q.2.nobor) then effV (.arr n xs) else effV (.agg xs)
      | none => .fail
    | none => .fail
  | _ => .fail

def aBuildSlice (P : Program) (nid : Nat) (t : TypeId) (len : Nat) (parts : List (Nat × A)) : RM Eff :=
  match tSlice P t with
  | some (e, s) => match tZero P e with
    | some z => if z.sz = s ∧ 0 < s ∧ len * s ≤ 4096 then
        match putParts (fun i => some (i * s, s)) (List.replicate len z) parts with
        | some xs => effN (.ref nid s 0 xs.length false) nid (.row s xs)
        | none => .fail
      else .fail
    | none => .fail
  | none => .fail

def aMake (P : Program) (nid : Nat) (t : TypeId) (l c : Int) : RM Eff :=
  match tSlice P t with
  | some (e, s) => match tZero P e, tBytes P e with
    | some z, some eb => if z.sz = s ∧ 0 < s then
        .req (0 ≤ l ∧ l ≤ c ∧ c ≤ 9223372036854775807 ∧ eb * c ≤ 281474976710656) (effN (.ref nid s 0 (List.replicate l.toNat z).length false) nid (.row s (List.replicate l.toNat z)))
      else .fail
    | _, _ => .fail
  | none => .fail

def aBuiltin (P : Program) (nid : Nat) (c : Call) (b : Builtin) (xs : List A) : RM Eff :=
  match b, xs with
  | .len, [x] => match c.argTypes[0]? with
    | some t => aLen P t x
    | none => .fail
  | .append, [a, x] => match c.argTypes.toList with
    | [t, t'] => if t = t' then
        aAppend P nid (match c.args.toList with | .const (.slice none 0 0) :: _ => true | _ => false) t a x
      else .fail
    | _ => .fail
  | _, _ => .fail

/-! == and != of structs, arrays, pointers beside nil. -/
mutual
inductive EqT where
  | bool
  | int (k : IntKind)
  | ints (n : Nat) (k : IntKind)
  | agg (fs : EqFs)
inductive EqFs where
  | nil
  | cons (off sz : Nat) (ag : Bool) (t : EqT) (r : EqFs)
end

def eqTs (P : Program) (f : TypeId → Option EqT) : List Field → Option EqFs
  | [] => some .nil
  | x :: xs => if x.name = "_" then none else
    match f x.type, tSize P x.type, tAgg P x.type, eqTs P f xs with
    | some k, some s, some g, some r => some (.cons x.offset s g k r)
    | _, _, _, _ => none

def eqT (P : Program) : Nat → TypeId → Option EqT
  | 0, _ => none
  | d + 1, t => match P.underlying t with
    | some .bool => some .bool
    | some (.int k) => some (.int k)
    | some (.array n e) => match tInt P e, tSize P e with
      | some k, some s => if s = 1 then some (.ints n k) else none
      | _, _ => none
    | some (.struct fs) => if P.stoodInHeld t then none else (eqTs P (eqT P d) fs.toList).map .agg
    | _ => none

/-- a list of integers of one kind -/
def intsOk (k : IntKind) (n : Nat) (xs : List A) : Prop := xs.length = n ∧ ∀ x ∈ xs, ∃ v, x = .v (.int k v)

mutual
/-- a tree of the form -/
def fitE : EqT → A → Prop
  | .bool, .v (.bool _) => True
  | .int k, .v (.int k' _) => k' = k
  | .ints n k, .arr m xs => m = n ∧ intsOk k n xs
  | .agg fs, .agg xs => fitEs fs 0 xs
  | _, _ => False
def fitEs : EqFs → Nat → List A → Prop
  | .nil, _, [] => True
  | .cons off sz ag t r, o, x :: xs => (off = o ∧ x.sz = sz ∧ x.isAgg = ag) ∧ fitE t x ∧ fitEs r (o + sz) xs
  | _, _, _ => False
end

open Classical in
noncomputable def eqOut (op : BinOp) (p : Prop) : RM Eff :=
  match op with
  | .eql => effV (.v (.bool (decide p)))
  | .neq => effV (.v (.bool (!decide p)))
  | _ => .fail

noncomputable def aEqOp (P : Program) (op : BinOp) (t : TypeId) (a b : A) : RM Eff :=
  match eqT P 8 t with
  | some k => if P.eqGuardType P.depth t = false then .req (fitE k a ∧ fitE k b) (eqOut op (a = b)) else .fail
  | none => .fail

def tPtr (P : Program) (t : TypeId) : Bool := match P.underlying t with
  | some (.pointer _) => true
  | _ => false
noncomputable def aNilOp (P : Program) (op : BinOp) (t : TypeId) (p : Prop) : RM Eff := if tPtr P t then eqOut op p else .fail

inductive EK where
  | add
  | sub
/-- numbers of 64 bits with a carry: Go's library has no body for them here -/
def aExt : EK → List A → RM Eff
  | .add, [.v (.int .u64 x), .v (.int .u64 y), .v (.int .u64 c)] =>
    .req (0 ≤ x ∧ 0 ≤ y ∧ (c = 0 ∨ c = 1)) (effV (.tup [.v (.int .u64 ((x + y + c) % 18446744073709551616)), .v (.int .u64 ((x + y + c) / 18446744073709551616))]))
  | .sub, [.v (.int .u64 x), .v (.int .u64 y), .v (.int .u64 c)] =>
    .req (0 ≤ x ∧ x < 18446744073709551616 ∧ 0 ≤ y ∧ y < 18446744073709551616 ∧ (c = 0 ∨ c = 1)) (effV (.tup [.v (.int .u64 ((x + 18446744073709551616 - y - c) % 18446744073709551616)), .v (.int .u64 (if x < y + c then 1 else 0))]))
  | _, _ => .fail
/-- a function without a body that is covered -/
def extFn (P : Program) (f : FuncId) : Option EK :=
  match P.funcs[f]? with
  | some fn => if fn.body.isNone && (Extern.findNext fn).isNone then (if fn.name = "math/bits.Add64" then some .add else if fn.name = "math/bits.Sub64" then some .sub else none) else none
  | none => none

/-! Maps whose keys are structs or arrays, whose values own nothing. -/
def tMap (P : Program) (t : TypeId) : Option (TypeId × TypeId) :=
  match P.underlying t with
  | some (.map k e) => some (k, e)
  | _ => none
def wideKey (P : Program) (t : TypeId) : Bool := match P.underlying t with
  | some (.array _ _) | some (.struct _) => true
  | _ => false
open Classical in
noncomputable def findA (k : A) : List A → List A → Option A
  | q :: ks, v :: vs => if k = q then some v else findA k ks vs
  | _, _ => none
def keysFit (q : EqT) (ks : List A) : Prop := ∀ y ∈ ks, fitE q y
def valsOk (vs : List A) : Prop := ∀ v ∈ vs, v.good = true ∧ v.noown = true
def lookOut (ok : Bool) (z : A) (r : Option A) : RM Eff := effV (if ok then .tup [r.getD z, .v (.bool r.isSome)] else r.getD z)
noncomputable def aLookup (P : Program) (t : TypeId) (ok : Bool) (m k : A) : RM Eff :=
  match m with
  | .mref d => .rd d fun b => match b with
    | .mp ks vs => match tMap P t with
      | some (kt, et) => match eqT P 8 kt, tZero P et with
        | some q, some z => if wideKey P kt && z.good && z.isAgg && z.sz != 1 then .req (fitE q k ∧ keysFit q ks ∧ valsOk vs) (lookOut ok z (findA k ks vs)) else .fail
        | _, _ => .fail
      | none => .fail
    | _ => .fail
  | _ => .fail
/-- a new key -/
noncomputable def aMapAdd (P : Program) (t : TypeId) (m k v : A) : RM Eff :=
  match m with
  | .mref d => .rd d fun b => match b with
    | .mp ks vs => match tMap P t with
      | some (kt, _) => match eqT P 8 kt with
        | some q => if wideKey P kt && k.good && k.closed && k.nobor && v.good then .req (fitE q k ∧ keysFit q ks ∧ k ∉ ks) (.ret ⟨.und, [(d, some (.mp (ks ++ [k]) (vs ++ [v])))], []⟩) else .fail
        | none => .fail
      | none => .fail
    | _ => .fail
  | _ => .fail

def partsOf (ps : List (Nat × Operand)) (xs : List A) : List (Nat × A) := (ps.map (·.1)).zip xs

noncomputable def aeff (P : Program) (nid : Nat) (o : Oper) (xs : List A) : RM Eff :=
  match o.op with
  | .move _ => match xs with | [a] => effV a | _ => .fail
  | .assign x =>
    match x with
    | .const (.slice none 0 0) => match tSlice P o.type with
      | some (_, s) => if 0 < s then effN (.ref nid s 0 0 false) nid (.row s []) else .fail
      | none => .fail
    | _ => match xs with | [a] => effV a | _ => .fail
  | .pick .. => match xs with
    | [.v (.bool t), a, b] => match a, b with
      | .v (.bool x), .v (.bool y) => effV (.v (.bool (cond t x y)))
      | a, b => effV (cond t a b)
    | _ => .fail
  | .alloc t => match tZero P t with
    | some z => effN (.ptr nid []) nid (.var z)
    | none => .fail
  | .box _ _ => match xs with
    | [a] => if a.good then effN (.ptr nid []) nid (.var a) else .fail
    | _ => .fail
  | .build t ps => aBuild P t (partsOf ps.toList xs)
  | .buildSlice t n ps => aBuildSlice P nid t n (partsOf ps.toList xs)
  | .load t _ => match xs with | [p] => aLoad P t p | _ => .fail
  | .store t _ _ => match xs with | [p, a] => aStore P t p a | _ => .fail
  | .nilCheck _ => match xs with
    | [.ptr d p] => effV (.ptr d p)
    | [.rp q a] => effV (.rp q a)
    | [.clo (.func f) a c] => effV (.clo (.func f) a c)
    | _ => .fail
  | .binOp op t _ _ _ => match xs with
    | [.agg xs, .agg ys] => aEqOp P op t (.agg xs) (.agg ys)
    | [.arr n xs, .arr m ys] => aEqOp P op t (.arr n xs) (.arr m ys)
    | [.v (.pointer none), .v (.pointer none)] => aNilOp P op t True
    | [.ptr _ _, .v (.pointer none)] => aNilOp P op t False
    | [.rp _ _, .v (.pointer none)] => aNilOp P op t False
    | [a, b] => aBin P op t a b
    | _ => .fail
  | .unOp op _ _ => match xs with | [a] => aUn op a | _ => .fail
  | .convert s d _ => match xs with | [a] => aConv P s d a | _ => .fail
  | .makeFunc fn first _ => if xs.all A.good then effV (.clo fn (xs.take first.size) (xs.drop first.size)) else .fail
  | .makeSlice t _ _ => match xs with | [.v (.int _ l), .v (.int _ c)] => aMake P nid t l c | _ => .fail
  | .slice t _ lo hi mx => match mx, lo, hi, xs with
    | none, none, none, [x] => aSlice P t x none none
    | none, some _, none, [x, .v (.int _ l)] => aSlice P t x (some l) none
    | none, none, some _, [x, .v (.int _ h)] => aSlice P t x none (some h)
    | none, some _, some _, [x, .v (.int _ l), .v (.int _ h)] => aSlice P t x (some l) (some h)
    | _, _, _, _ => .fail
  | .fieldAddr t _ k => match xs with | [p] => aFieldAddr P t p k | _ => .fail
  | .field t _ k => match xs with | [a] => aField P t a k | _ => .fail
  | .indexAddr t _ _ => match xs with | [x, .v (.int _ n)] => aIndexAddr P t x n | _ => .fail
  | .index t _ _ => match xs with | [x, .v (.int _ n)] => aIndex P t x n | _ => .fail
  | .makeMap t none => (match tMap P t with | some _ => effN (.mref nid) nid (.mp [] []) | none => .fail)
  | .lookup t _ _ ok => match xs with | [m, k] => aLookup P t ok m k | _ => .fail
  | .mapUpdate t _ _ _ => match xs with | [m, k, v] => aMapAdd P t m k v | _ => .fail
  | .extract _ i => match xs with | [.tup ys] => (match ys[i]? with | some y => effV y | none => .fail) | _ => .fail
  | .makeInterface t _ => match xs with | [a] => if a.good && tConcrete P t then effV (.ifc t a) else .fail | _ => .fail
  | .call c => match c.callee with
    | .builtin b => aBuiltin P nid c b xs
    | .value _ => match xs with
      | .clo (.func f) [] [] :: args => (match extFn P f with | some n => aExt n args | none => .fail)
      | _ => .fail
    | _ => .fail
  | _ => .fail

/-! Operands. -/
def constCell : Value → Option A
  | .slice none 0 0 => some (.sl true [])
  | c => if plainV c then some (.v c) else none
def constA : Value → Option A
  | .agg cs => (cs.toList.mapM constCell).map A.agg
  | c => constCell c
def aval (sl : Nat → Option A) : Operand → Option A
  | .tmp t => sl t
  | .const c => constA c
  | .func f => some (.clo (.func f) [] [])
  | .global _ => none

end Go.PA

/- PA6: the operations are sound: values. -/
namespace Go.PA

theorem TV_v {x y : Value} {e : Env} : TV (.v x) e y ↔ plainV x = true ∧ y = x := by
  unfold TV
  simp only [VV, A.isAgg, VR, Bool.false_eq_true, false_and, false_or, true_and, List.cons.injEq, and_true]

theorem TV_good {a : A} {e : Env} {y : Value} (h : a.good = true) : TV a e y ↔ VV a e y [] := by
  cases a <;> simp_all [TV, A.good]

theorem VV_mk {a : A} {e : Env} {y : Value} {F : List Nat} (h : a.isAgg = false) : VV a e y F ↔ VR a e [y] F := by
  simp [VV, h]
theorem VV_mk_agg {a : A} {e : Env} {y : Value} {F : List Nat} (h : a.isAgg = true) : VV a e y F ↔ ∃ cs, y = .agg cs ∧ VR a e cs.toList F := by
  simp [VV, h]

theorem VV_isAgg {a : A} {e : Env} {y : Value} {F : List Nat} (h : VV a e y F) : a.good = true := by
  rcases h with ⟨h, _⟩ | ⟨_, h⟩
  · cases a <;> simp_all [A.isAgg, A.good]
  · cases a <;> simp_all [VR, A.good]

inductive All2 {α β : Type} (R : α → β → Prop) : List α → List β → Prop
  | nil : All2 R [] []
  | cons {x : α} {y : β} {xs : List α} {ys : List β} (h : R x y) (t : All2 R xs ys) : All2 R (x :: xs) (y :: ys)

theorem mapM_aval {sl : Nat → Option A} {f : Operand → Value} {e : Env} (hf : ∀ x z, aval sl x = some z → TV z e (f x)) :
    ∀ (l : List Operand) (xs : List A), l.mapM (aval sl) = some xs → All2 (fun x z => TV z e (f x)) l xs
  | [], xs, h => by simp at h; subst h; exact .nil
  | x :: l, xs, h => by
    simp only [List.mapM_cons, Option.bind_eq_bind, Option.pure_def] at h
    cases hx : aval sl x with
    | none => simp [hx] at h
    | some z =>
      cases hl : l.mapM (aval sl) with
      | none => simp [hx, hl] at h
      | some zs =>
        simp [hx, hl] at h
        subst h
        exact .cons (hf x z hx) (mapM_aval hf l zs hl)

theorem constCell_VR {c : Value} {x : A} (e : Env) (h : constCell c = some x) : VR x e [c] [] ∧ x.isAgg = false ∧ x.good = true := by
  unfold constCell at h
  split at h
  · simp at h; subst h
    refine ⟨?_, rfl, rfl⟩
    simp only [VR]
    exact ⟨trivial, none, 0, [], rfl, by simp, ⟨0, by simp⟩, by simp [VRs], by simp⟩
  · rename_i c' _
    split at h
    · rename_i hp
      simp at h; subst h
      exact ⟨by simp [VR, hp], rfl, rfl⟩
    · simp at h

theorem constCells_VRs (e : Env) : ∀ (cs : List Value) (xs : List A), cs.mapM constCell = some xs → VRs xs e cs []
  | [], xs, h => by simp at h; subst h; simp [VRs]
  | c :: cs, xs, h => by
    simp only [List.mapM_cons, Option.bind_eq_bind, Option.pure_def] at h
    cases hx : constCell c with
    | none => simp [hx] at h
    | some z =>
      cases hl : cs.mapM constCell with
      | none => simp [hx, hl] at h
      | some zs =>
        simp [hx, hl] at h
        subst h
        have := VRs_cons (constCell_VR e hx).1 (constCells_VRs e cs zs hl)
        simpa using this

theorem constA_TV {c : Value} {x : A} (e : Env) (h : constA c = some x) : TV x e c := by
  unfold constA at h
  split at h
  · rename_i cs
    cases hm : cs.toList.mapM constCell with
    | none => simp [hm] at h
    | some xs =>
      simp [hm] at h
      subst h
      rw [TV_good rfl, VV_mk_agg rfl]
      exact ⟨cs, rfl, by simp only [VR]; exact constCells_VRs e _ _ hm⟩
  · obtain ⟨h1, h2, h3⟩ := constCell_VR e h
    rw [TV_good h3, VV_mk h2]
    exact h1

def St.app (st : St) (e : Eff) : St :=
  { sl := st.sl, bk := e.up.foldl (fun f q => upd f q.1 q.2) st.bk, ids := fun d => st.ids d || e.new.contains d, ep := st.ep, gs := st.gs }

theorem St.app_nil (st : St) (z : A) : st.app ⟨z, [], []⟩ = st := by
  simp [St.app]

section
variable {P : Program} {c : Ctx} {st : St} {a : Act} {w : World} {loc : Nat → Option (Option Nat)} {S : Nat → Prop} {Fm : Nat → List Nat}

theorem RelW.eval (R : RelW c st a w loc S Fm) (x : Operand) (z : A) (h : aval st.sl x = some z) : TV z (envOf c st w loc S) (a.eval x) := by
  cases x with
  | tmp t => exact R.slots t z h
  | const v => exact constA_TV _ h
  | global g => simp [aval] at h
  | func f =>
    simp [aval] at h
    subst h
    rw [TV_good rfl, VV_mk rfl]
    simp only [VR]
    exact ⟨[], [], [], [], rfl, rfl, by simp [VVs], by simp [VVs]⟩

/-- An operation is done: it runs to an end, and the state behind it stands for the world behind it. -/
def Done (P : Program) (c : Ctx) (st' : St) (a : Act) (o : Oper) (w : World) (z : A) : Prop :=
  ∃ nx y w' loc S Fm, (execOp a.eval o).run P w = .ok nx w' ∧ (nx = .value y ∨ nx = .skip ∧ y = undef) ∧
    RelW c st' a w' loc S Fm ∧ TV z (envOf c st' w' loc S) y

theorem done_val {o : Oper} {z : A} {y : Value} (R : RelW c st a w loc S Fm) (h : (execOp a.eval o).run P w = .ok (.value y) w)
    (ht : TV z (envOf c st w loc S) y) : Done P c (st.app ⟨z, [], []⟩) a o w z := by
  rw [St.app_nil]
  exact ⟨_, y, w, loc, S, Fm, h, .inl rfl, R, ht⟩

theorem runs_ret {α : Type} {bk : Nat → Option Blk} {x y : α} {l : List Nat} (h : RM.Runs bk (.ret x) y l) : y = x ∧ l = [] := by cases h; exact ⟨rfl, rfl⟩
theorem runs_fail {α : Type} {bk : Nat → Option Blk} {y : α} {l : List Nat} (h : RM.Runs bk .fail y l) : False := by cases h
theorem runs_req {α : Type} {bk : Nat → Option Blk} {p : Prop} {k : RM α} {y : α} {l : List Nat} (h : RM.Runs bk (.req p k) y l) : p ∧ RM.Runs bk k y l := by cases h; exact ⟨‹_›, ‹_›⟩
theorem runs_rd {α : Type} {bk : Nat → Option Blk} {d : Nat} {k : Blk → RM α} {y : α} {l : List Nat} (h : RM.Runs bk (.rd d k) y l) : ∃ b l', bk d = some b ∧ RM.Runs bk (k b) y l' ∧ l = d :: l' := by
  cases h; exact ⟨_, _, ‹_›, ‹_›, rfl⟩
theorem runs_effV {bk : Nat → Option Blk} {z : A} {y : Eff} {l : List Nat} (h : RM.Runs bk (effV z) y l) : y = ⟨z, [], []⟩ ∧ l = [] := runs_ret h

theorem done_effV {o : Oper} {z : A} {eff : Eff} {l : List Nat} {y : Value} (R : RelW c st a w loc S Fm) (r : RM.Runs st.bk (effV z) eff l)
    (h : (execOp a.eval o).run P w = .ok (.value y) w) (ht : TV z (envOf c st w loc S) y) : Done P c (st.app eff) a o w eff.val := by
  obtain ⟨rfl, _⟩ := runs_effV r
  exact done_val R h ht

/-! binary -/
theorem run_intBin {op : BinOp} {k : IntKind} {x y : Int} {eff : Eff} {l : List Nat} (r : RM.Runs st.bk (intBin op k x y) eff l) :
    ∃ z, eff = ⟨.v z, [], []⟩ ∧ plainV z = true ∧ ∀ w, (binOp op 0 (.int k x) (.int k y)).run P w = .ok z w ∧ op ≠ .shl ∧ op ≠ .shr := by
  cases op <;> simp only [intBin] at r <;>
    first
      | exact (runs_fail r).elim
      | (obtain ⟨rfl, _⟩ := runs_effV r; exact ⟨_, rfl, rfl, fun w => ⟨by simp [binOp, Op.intArith, Op.intCmp, Op.intBits, iand, ior, ixor, iandNot], by simp, by simp⟩⟩)
      | (obtain ⟨hy, r⟩ := runs_req r; obtain ⟨rfl, _⟩ := runs_effV r; exact ⟨_, rfl, rfl, fun w => ⟨by simp [binOp, Op.intDiv, hy], by simp, by simp⟩⟩)

end
end Go.PA

/- PA7: the operations are sound: values, on. -/
namespace Go.PA
section
variable {P : Program} {c : Ctx} {st : St} {a : Act} {w : World} {loc : Nat → Option (Option Nat)} {S : Nat → Prop} {Fm : Nat → List Nat}

theorem exec_value {o : Oper} {x : Operand} (h : o.op = .move x ∨ o.op = .assign x) : (execOp a.eval o).run P w = .ok (.value (a.eval x)) w := by
  rcases h with h | h <;> simp [execOp, h]

def noEq : Value → Bool
  | .agg _ | .nilIface => false
  | _ => true
theorem eqGuard_other {op : BinOp} {t : TypeId} {x y : Operand} {u v : Value} (h : noEq u = true) : (eqGuard op t x y u v).run P w = .ok () w := by
  cases u <;> first | (simp [noEq] at h; done) | (cases op <;> rfl)

theorem exec_binOp {o : Oper} {op : BinOp} {t t' : TypeId} {x y : Operand} {u v z : Value} (ho : o.op = .binOp op t x y t') (hu : a.eval x = u) (hv : a.eval y = v)
    (h : noEq u = true) (hr : (binOp op t u v).run P w = .ok z w) : (execOp a.eval o).run P w = .ok (.value z) w := by
  simp only [execOp, ho, hu, hv, Sem.run_bind, eqGuard_other h, Result.andThen_ok, hr, Sem.run_pure]

theorem run_equal_bool {t : TypeId} {n m : Bool} (hu : P.underlying t = some .bool) (w : World) : (Op.equal t (.bool n) (.bool m)).run P w = .ok (n == m) w := by
  have h : ∀ d, (Op.equalIn (d + 1) t (.bool n) (.bool m)).run P w = .ok (n == m) w := by
    intro d
    simp only [Op.equalIn, Sem.run_bind, run_underlying hu, Result.andThen_ok, Sem.run_pure]
  exact h 9999

theorem aBin_sound {o : Oper} {op : BinOp} {t t' : TypeId} {x y : Operand} {u v : A} {eff : Eff} {l : List Nat} (ho : o.op = .binOp op t x y t') (R : RelW c st a w loc S Fm)
    (hx : TV u (envOf c st w loc S) (a.eval x)) (hy : TV v (envOf c st w loc S) (a.eval y)) (r : RM.Runs st.bk (aBin P op t u v) eff l) : Done P c (st.app eff) a o w eff.val := by
  unfold aBin at r
  split at r
  · rename_i k n k' m
    rw [TV_v] at hx hy
    have ex : ∀ z, (binOp op t (.int k n) (.int k' m)).run P w = .ok z w → (execOp a.eval o).run P w = .ok (.value z) w := fun z hz =>
      exec_binOp ho hx.2 hy.2 rfl hz
    split at r
    · obtain ⟨h0, r⟩ := runs_req r
      refine done_effV R r (ex _ ?_) (by rw [TV_v]; exact ⟨rfl, rfl⟩)
      simp [binOp, Op.shift, ishl, Int.not_lt.2 h0]
    · obtain ⟨h0, r⟩ := runs_req r
      refine done_effV R r (ex _ ?_) (by rw [TV_v]; exact ⟨rfl, rfl⟩)
      simp [binOp, Op.shift, ishr, Int.not_lt.2 h0]
    · split at r
      · rename_i hk
        subst hk
        obtain ⟨z, rfl, hz, hr⟩ := run_intBin (P := P) r
        have hb := hr w
        refine done_val R (ex z ?_) (by rw [TV_v]; exact ⟨hz, rfl⟩)
        rw [← hb.1]
        cases op <;> first | rfl | (exact absurd rfl hb.2.1) | (exact absurd rfl hb.2.2)
      · exact (runs_fail r).elim
  · rename_i n m
    rw [TV_v] at hx hy
    have ex : ∀ z, (binOp op t (.string n) (.string m)).run P w = .ok z w → (execOp a.eval o).run P w = .ok (.value z) w := fun z hz =>
      exec_binOp ho hx.2 hy.2 rfl hz
    cases op <;> simp only [strBin] at r <;> first
      | exact (runs_fail r).elim
      | (refine done_effV R r (ex _ ?_) (by rw [TV_v]; exact ⟨rfl, rfl⟩); simp [binOp, Op.stringOp]; done)
      | (obtain ⟨h0, r⟩ := runs_req r
         refine done_effV R r (ex _ ?_) (by rw [TV_v]; exact ⟨rfl, rfl⟩)
         have h1 : ¬ (((n.size + m.size : Nat) : Int) > IntKind.i64.max) := by
           have : IntKind.i64.max = 9223372036854775807 := by decide
           omega
         simp only [binOp, Op.stringOp, if_neg h1, Sem.run_pure])
  · rename_i n m
    rw [TV_v] at hx hy
    have ex : ∀ z, (binOp op t (.bool n) (.bool m)).run P w = .ok z w → (execOp a.eval o).run P w = .ok (.value z) w := fun z hz =>
      exec_binOp ho hx.2 hy.2 rfl hz
    split at r
    · rename_i hu
      refine done_effV R r (ex _ ?_) (by rw [TV_v]; exact ⟨rfl, rfl⟩)
      simp only [binOp, Sem.run_bind, run_equal_bool hu, Result.andThen_ok, Sem.run_pure]
    · rename_i hu
      refine done_effV R r (ex _ ?_) (by rw [TV_v]; exact ⟨rfl, rfl⟩)
      simp only [binOp, Sem.run_bind, run_equal_bool hu, Result.andThen_ok, Sem.run_pure]
    · exact (runs_fail r).elim
  · exact (runs_fail r).elim

theorem aUn_sound {o : Oper} {op : UnOp} {t : TypeId} {x : Operand} {u : A} {eff : Eff} {l : List Nat} (ho : o.op = .unOp op t x) (R : RelW c st a w loc S Fm)
    (hx : TV u (envOf c st w loc S) (a.eval x)) (r : RM.Runs st.bk (aUn op u) eff l) : Done P c (st.app eff) a o w eff.val := by
  unfold aUn at r
  split at r
  · rw [TV_v] at hx
    refine done_effV R r ?_ (by rw [TV_v]; exact ⟨rfl, rfl⟩)
    simp [execOp, ho, hx.2, Op.unary]
  · rw [TV_v] at hx
    refine done_effV R r ?_ (by rw [TV_v]; exact ⟨rfl, rfl⟩)
    simp [execOp, ho, hx.2, Op.unary, Op.intArith]
  · rw [TV_v] at hx
    refine done_effV R r ?_ (by rw [TV_v]; exact ⟨rfl, rfl⟩)
    simp [execOp, ho, hx.2, Op.unary, Op.intBits, ixor]
  · exact (runs_fail r).elim

theorem aConv_sound {o : Oper} {s d : TypeId} {x : Operand} {u : A} {eff : Eff} {l : List Nat} (ho : o.op = .convert s d x) (R : RelW c st a w loc S Fm)
    (hx : TV u (envOf c st w loc S) (a.eval x)) (r : RM.Runs st.bk (aConv P s d u) eff l) : Done P c (st.app eff) a o w eff.val := by
  unfold aConv at r
  split at r
  · rename_i k' k _ n hk' hk
    rw [TV_v] at hx
    have hs : P.underlying s = some (.int k') := by
      unfold tInt at hk'; split at hk' <;> simp_all
    have hd : P.underlying d = some (.int k) := by
      unfold tInt at hk; split at hk <;> simp_all
    refine done_effV R r ?_ (by rw [TV_v]; exact ⟨rfl, rfl⟩)
    simp [execOp, ho, hx.2, convert, run_underlying hs, run_underlying hd, Conv.intToInt]
  · exact (runs_fail r).elim
end
end Go.PA

/- PA8: how the state's meaning goes on from world to world. -/
namespace Go.PA
section
variable {P : Program} {c : Ctx} {st : St} {a : Act} {w : World} {loc : Nat → Option (Option Nat)} {S : Nat → Prop} {Fm : Nat → List Nat}

theorem BkR_mono {e e' : Env} {d : Nat} {b : Blk} {F : List Nat} (hl : e.Le e' F) (hloc : e'.loc d = e.loc d) (h : BkR e d b F) : BkR e' d b F := by
  cases b with
  | row s xs =>
    refine ⟨h.1, h.2.1, h.2.2.imp (fun ⟨h1, h2⟩ => ⟨hloc.trans h1, h2⟩) ?_⟩
    rintro ⟨g, cs, ty, k, us, Fx, h1, h2, h3, h4, h5, h6, h7, rfl⟩
    exact ⟨g, cs, ty, k, us, Fx, hloc.trans h1, h2, h3, (hl.heap g (.inl (by simp))).trans h4, h5, VRs_mono xs _ _ us Fx (hl.sub (F' := Fx) (fun x hx => by simp [hx])) h6, h7, rfl⟩
  | froz s xs =>
    obtain ⟨rfl, h1, h2, h3⟩ := h
    refine ⟨rfl, h1, h2, h3.imp (fun ⟨h1, h2⟩ => ⟨hloc.trans h1, h2⟩) ?_⟩
    rintro ⟨g, cs, ty, us, h4, h5, h6, h7, h8, h9⟩
    exact ⟨g, cs, ty, us, hloc.trans h4, hl.S g h5, (hl.heap g (.inr (.inl h5))).trans h6, h7, VRs_mono xs _ _ us [] hl.shut h8, h9⟩
  | var a =>
    obtain ⟨g, cs, ty, Fx, h1, h2, h3, rfl⟩ := h
    exact ⟨g, cs, ty, Fx, hloc.trans h1, (hl.heap g (.inl (by simp))).trans h2, VR_mono a e e' _ Fx (hl.sub (fun x hx => by simp [hx])) h3, rfl⟩
  | mp ks xs =>
    obtain ⟨g, es, clock, Fx, h0, h1, h2, h3, h4, rfl⟩ := h
    exact ⟨g, es, clock, Fx, hloc.trans h0, (hl.heap g (.inl (by simp))).trans h1, h2, VVs_mono ks _ _ _ [] (hl.sub (by simp)).shut h3, VVs_mono xs _ _ _ Fx (hl.sub (fun x hx => by simp [hx])) h4, rfl⟩
  | yld R =>
    obtain ⟨l, o, h1, h2, h3, h4⟩ := h
    exact ⟨l, o, hloc.trans h1, (hl.heap l (.inl h3)).trans h2, h3, fun e2 he => h4 e2 (hl.closed.trans he)⟩

theorem BkR_lt {e : Env} {d : Nat} {b : Blk} {F : List Nat} (h : BkR e d b F) {g : Nat} (hg : e.loc d = some (some g)) : g < e.w.heap.size := by
  have key : ∀ {g' : Nat} {o : Obj}, e.loc d = some (some g') → e.w.heap[g']? = some o → g < e.w.heap.size := by
    intro g' o h1 h2
    rw [hg] at h1
    injection h1 with h1; injection h1 with h1; subst h1
    exact (Array.getElem?_eq_some_iff.1 h2).1
  cases b with
  | row s xs =>
    rcases h.2.2 with ⟨h1, _⟩ | ⟨g', cs, ty, k, us, Fx, h1, h2, h3, h4, _⟩
    · rw [hg] at h1; cases h1
    · exact key h1 h4
  | froz s xs =>
    rcases h.2.2.2 with ⟨h1, _⟩ | ⟨g', cs, ty, us, h1, h2, h4, _⟩
    · rw [hg] at h1; cases h1
    · exact key h1 h4
  | var a =>
    obtain ⟨g', cs, ty, Fx, h1, h2, h3, rfl⟩ := h
    exact key h1 h2
  | mp ks xs =>
    obtain ⟨g', es, clock, Fx, h0, h1, _⟩ := h
    exact key h0 h1
  | yld R =>
    obtain ⟨l, o, h1, h2, _⟩ := h
    exact key h1 h2

theorem RelW.locLt (R : RelW c st a w loc S Fm) {d g : Nat} (h : loc d = some (some g)) : g < w.heap.size := by
  cases hb : st.bk d with
  | none => have := (R.dead d hb).2; rw [h] at this; cases this
  | some b => exact BkR_lt (R.bks d b hb) h
theorem RelW.fmLt (R : RelW c st a w loc S Fm) {d g : Nat} (h : g ∈ Fm d) : g < w.heap.size := (R.own d g h).2.2.1
theorem RelW.live (R : RelW c st a w loc S Fm) {d : Nat} {l : Option Nat} (h : loc d = some l) : ∃ b, st.bk d = some b := by
  cases hb : st.bk d with
  | none => have := (R.dead d hb).2; rw [h] at this; cases this
  | some b => exact ⟨b, rfl⟩

structure Step (c : Ctx) (st : St) (w : World) (loc : Nat → Option (Option Nat)) (S : Nat → Prop) (Fm : Nat → List Nat) (T : Nat → Prop)
    (st' : St) (w' : World) (loc' : Nat → Option (Option Nat)) (S' : Nat → Prop) (Fm' : Nat → List Nat) : Prop where
  sl : ∀ t, st'.sl t = st.sl t
  gs : st'.gs = st.gs
  touch : ∀ g, T g → ∃ d, g ∈ Fm d
  heap : ∀ g, g < w.heap.size → ¬ T g → w'.heap[g]? = w.heap[g]?
  shp : ∀ g, g < w.heap.size → (w'.shape? g).map (·.2) = (w.shape? g).map (·.2)
  size : w.heap.size ≤ w'.heap.size
  os : w'.os = w.os
  tape : w'.tape = w.tape
  output : w'.output = w.output
  sta : ∀ g, S g → S' g
  sta' : ∀ g, S' g → S g ∨ (∃ d, g ∈ Fm d) ∨ w.heap.size ≤ g
  stbd : ∀ g, S' g → g < w'.heap.size
  kn : ∀ d, st.ids d = true → st'.ids d = true
  lc : ∀ d l, st.ids d = true → loc' d = some l → loc d = some l
  fro : ∀ a, w'.frozen? a = w.frozen? a

theorem Step.le {T : Nat → Prop} {st' : St} {w' : World} {loc' : Nat → Option (Option Nat)} {S' : Nat → Prop} {Fm' : Nat → List Nat}
    (R : RelW c st a w loc S Fm) (h : Step c st w loc S Fm T st' w' loc' S' Fm') {F : List Nat} (hF : ∀ g ∈ F, g < w.heap.size ∧ ¬ T g) :
    (envOf c st w loc S).Le (envOf c st' w' loc' S') F := by
  have hSB : ∀ g, S g ∨ c.B g → g < w.heap.size ∧ ¬ T g := by
    intro g hg
    refine ⟨R.fram.bd g hg, fun ht => ?_⟩
    obtain ⟨d, hd⟩ := h.touch g ht
    have := R.own d g hd
    exact hg.elim this.1 this.2.1
  refine ⟨fun g hg => ?_, h.sta, fun g hg => .inr hg, h.kn, h.lc, fun d g hd hl => ?_⟩
  · have : g < w.heap.size ∧ ¬ T g := by
      rcases hg with hg | hg
      · exact hF g hg
      · exact hSB g hg
    exact h.heap g this.1 this.2
  · exact h.shp g (R.locLt (h.lc d _ hd hl))

/-- The state goes on: what is not touched stays. -/
theorem RelW.next {T : Nat → Prop} {st' : St} {w' : World} {loc' : Nat → Option (Option Nat)} {S' : Nat → Prop} {Fm' : Nat → List Nat}
    (R : RelW c st a w loc S Fm) (h : Step c st w loc S Fm T st' w' loc' S' Fm')
    (hbk : ∀ d b, st'.bk d = some b → (st.bk d = some b ∧ loc' d = loc d ∧ Fm' d = Fm d ∧ ∀ g ∈ Fm d, ¬ T g) ∨ BkR (envOf c st' w' loc' S') d b (Fm' d))
    (hdead : ∀ d, st'.bk d = none → Fm' d = [] ∧ loc' d = none)
    (hknown : ∀ d, st'.bk d ≠ none → st'.ids d = true)
    (hnodup : ∀ d, (Fm' d).Nodup)
    (hdisj : ∀ d d', d ≠ d' → ∀ g, g ∈ Fm' d → g ∉ Fm' d')
    (hown : ∀ d g, g ∈ Fm' d → ((∃ d0, g ∈ Fm d0) ∨ w.heap.size ≤ g) ∧ ¬ S' g ∧ g < w'.heap.size) : RelW c st' a w' loc' S' Fm' := by
  refine ⟨fun t x hx => ?_, R.size, ?df, fun p hp t x hx => ?gh, fun d b hb => ?_, hdead, hknown, hnodup, hdisj, fun d g hg => ?_, ?_⟩
  case df =>
    refine R.defers.next (fun g hg hn _ => h.heap g hg fun ht => ?_) (fun g hg => (h.sta' g hg).imp id fun x => x.imp id .inr) (fun d g hg => (hown d g hg).1.imp id .inr) (fun g hg => by simp at hg)
    obtain ⟨d, hd⟩ := h.touch g ht
    exact hn d hd
  case gh =>
    rw [h.gs] at hp
    exact TV_mono (h.le R (F := []) (by simp)) (R.ghosts p hp t x hx)
  · rw [h.sl] at hx
    exact TV_mono (h.le R (F := []) (by simp)) (R.slots t x hx)
  · rcases hbk d b hb with ⟨h1, h2, h3, h4⟩ | h1
    · rw [h3]
      exact BkR_mono (h.le R fun g hg => ⟨R.fmLt hg, h4 g hg⟩) h2 (R.bks d b h1)
    · exact h1
  · obtain ⟨h1, h2, h3⟩ := hown d g hg
    have hw : g ∈ c.F0 ∨ c.w0.heap.size ≤ g := by
      rcases h1 with ⟨d0, h1⟩ | h1
      · exact (R.own d0 g h1).2.2.2
      · exact .inr (Nat.le_trans R.fram.size h1)
    refine ⟨h2, fun hB => ?_, h3, hw⟩
    rcases h1 with ⟨d0, h1⟩ | h1
    · exact (R.own d0 g h1).2.1 hB
    · have := R.fram.bd g (.inr hB); omega
  · refine ⟨fun g hg hF => ?_, Nat.le_trans R.fram.size h.size, h.os.trans R.fram.os, h.tape.trans R.fram.tape, h.output.trans R.fram.output,
      fun g hg => h.sta g (R.fram.sub g hg), fun g hg => ?_, fun g hg => ?_, fun g hg => (h.shp g (Nat.lt_of_lt_of_le hg R.fram.size)).trans (R.fram.shp g hg), fun x => (h.fro x).trans (R.fram.fro x)⟩
    · have hlt : g < w.heap.size := Nat.lt_of_lt_of_le hg R.fram.size
      refine (h.heap g hlt fun ht => ?_).trans (R.fram.heap g hg hF)
      obtain ⟨d, hd⟩ := h.touch g ht
      rcases (R.own d g hd).2.2.2 with hx | hx
      · exact hF hx
      · omega
    · rcases h.sta' g hg with hx | ⟨d, hd⟩ | hx
      · exact R.fram.new g hx
      · exact .inr (R.own d g hd).2.2.2
      · exact .inr (.inr (Nat.le_trans R.fram.size hx))
    · rcases hg with hx | hx
      · exact h.stbd g hx
      · exact Nat.lt_of_lt_of_le (R.fram.bd g (.inr hx)) h.size

theorem frozen_heap {w w' : World} {a : Addr} (h : w'.heap[a.block]? = w.heap[a.block]?) : w'.frozen? a = w.frozen? a := by unfold World.frozen?; rw [h]
theorem frozen_plain {w : World} {a : Addr} {cs : Array Value} {ty : TypeId} (h : w.heap[a.block]? = some (.cells cs ty (0, 0))) : w.frozen? a = false := by
  unfold World.frozen?
  rw [h]
  simp
theorem frozen_none {w : World} {a : Addr} (h : w.heap[a.block]? = none) : w.frozen? a = false := by
  unfold World.frozen?
  rw [h]
theorem frozen_alloc {w w1 : World} {cs : Array Value} {ty : TypeId} (hw : w1.heap = w.heap) (a : Addr) : (w1.alloc (.cells cs ty)).frozen? a = w.frozen? a := by
  rcases Nat.lt_trichotomy a.block w.heap.size with h | h | h
  · exact frozen_heap (by rw [heapOld _ _ _ (by rw [hw]; exact h), hw])
  · rw [frozen_none (w := w) (by rw [h]; simp)]
    refine frozen_plain (cs := cs) (ty := ty) ?_
    rw [h, ← hw]
    exact heap_alloc_new _ _
  · rw [frozen_none (w := w) (Array.getElem?_eq_none (by omega))]
    refine frozen_none (Array.getElem?_eq_none ?_)
    rw [World.size_alloc, hw]
    omega

theorem shape_of_heap {w w' : World} {g : Nat} (h : w'.heap[g]? = w.heap[g]?) : w'.shape? g = w.shape? g := by unfold World.shape?; rw [h]

/-- A new block under a new name. -/
theorem RelW.alloc (R : RelW c st a w loc S Fm) {n : Nat} (hn : st.ids n = false) (b : Blk) (cs : Array Value) (ty : TypeId) (w1 : World)
    (hw : w1.heap = w.heap) (hos : w1.os = w.os) (ht : w1.tape = w.tape) (ho : w1.output = w.output) (z : A)
    (hb : ∀ e, e.w = w1.alloc (.cells cs ty) → e.loc n = some (some w.heap.size) → (envOf c st w loc S).Le e [] → e.B = c.B → BkR e n b [w.heap.size]) :
    RelW c (st.app ⟨z, [(n, some b)], [n]⟩) a (w1.alloc (.cells cs ty)) (fun d => if d = n then some (some w.heap.size) else loc d) S (fun d => if d = n then [w.heap.size] else Fm d) := by
  have hsz : (w1.alloc (.cells cs ty)).heap.size = w.heap.size + 1 := by rw [World.size_alloc, hw]
  have hold : ∀ g, g < w.heap.size → (w1.alloc (.cells cs ty)).heap[g]? = w.heap[g]? := fun g hg => by
    rw [heapOld _ _ _ (by rw [hw]; exact hg), hw]
  have hst : Step c st w loc S Fm (fun _ => False) (st.app ⟨z, [(n, some b)], [n]⟩) (w1.alloc (.cells cs ty)) (fun d => if d = n then some (some w.heap.size) else loc d) S (fun d => if d = n then [w.heap.size] else Fm d) := by
    refine ⟨fun t => rfl, rfl, fun g h => h.elim, fun g hg _ => hold g hg, fun g hg => by rw [shape_of_heap (hold g hg)], by omega, hos, ht, ho, fun _ h => h, fun _ h => .inl h,
      fun g hg => by have := R.fram.bd g (.inl hg); omega, fun d hd => by simp [St.app, hd], fun d l hd hl => ?_, frozen_alloc hw⟩
    have hne : d ≠ n := fun e => by subst e; rw [hn] at hd; cases hd
    simpa [hne] using hl
  refine R.next hst (fun d b' hb' => ?_) (fun d hd => ?_) (fun d hd => ?_) (fun d => ?_) (fun d d' hne g hg => ?_) (fun d g hg => ?_)
  · by_cases hd : d = n
    · subst hd
      simp only [St.app, List.foldl_cons, List.foldl_nil, upd, if_true] at hb'
      injection hb' with hb'
      subst hb'
      right
      simp only [if_true]
      exact hb _ rfl (by simp [envOf]) (hst.le R (by simp)) rfl
    · simp only [St.app, List.foldl_cons, List.foldl_nil, upd, if_neg hd] at hb'
      exact .inl ⟨hb', by simp [hd], by simp [hd], by simp⟩
  · have hne : d ≠ n := fun e => by subst e; simp [St.app, upd] at hd
    simp only [St.app, List.foldl_cons, List.foldl_nil, upd, if_neg hne] at hd
    simpa [hne] using R.dead d hd
  · by_cases hdn : d = n
    · simp [St.app, hdn]
    · simp only [St.app, List.foldl_cons, List.foldl_nil, upd, if_neg hdn] at hd
      simp [St.app, R.known d hd]
  · by_cases hdn : d = n <;> simp [hdn, R.nodup d]
  · have hlt : ∀ d g, g ∈ Fm d → g < w.heap.size := fun d g h => R.fmLt h
    by_cases h1 : d = n <;> by_cases h2 : d' = n <;> simp only [h1, h2, if_true, if_false, List.mem_singleton] at hg ⊢
    · exact absurd (h1.trans h2.symm) hne
    · intro h; have := hlt _ _ h; omega
    · have := hlt _ _ hg; omega
    · exact R.disj d d' hne g hg
  · by_cases hdn : d = n
    · simp only [hdn, if_true, List.mem_singleton] at hg
      subst hg
      exact ⟨.inr (Nat.le_refl _), fun hS => by have := R.fram.bd _ (.inl hS); omega, by omega⟩
    · simp only [if_neg hdn] at hg
      exact ⟨.inl ⟨d, hg⟩, (R.own d g hg).1, by have := R.fmLt hg; omega⟩

/-- A new name for a row that is nil. -/
theorem RelW.nilRow (R : RelW c st a w loc S Fm) {n s : Nat} (hn : st.ids n = false) (hs : 0 < s) (z : A) :
    RelW c (st.app ⟨z, [(n, some (.row s []))], [n]⟩) a w (fun d => if d = n then some none else loc d) S (fun d => if d = n then [] else Fm d) := by
  have hst : Step c st w loc S Fm (fun _ => False) (st.app ⟨z, [(n, some (.row s []))], [n]⟩) w (fun d => if d = n then some none else loc d) S (fun d => if d = n then [] else Fm d) := by
    refine ⟨fun t => rfl, rfl, fun g h => h.elim, fun g hg _ => rfl, fun g hg => rfl, Nat.le_refl _, rfl, rfl, rfl, fun _ h => h, fun _ h => .inl h,
      fun g hg => R.fram.bd g (.inl hg), fun d hd => by simp [St.app, hd], fun d l hd hl => ?_, fun _ => rfl⟩
    have hne : d ≠ n := fun e => by subst e; rw [hn] at hd; cases hd
    simpa [hne] using hl
  refine R.next hst (fun d b' hb' => ?_) (fun d hd => ?_) (fun d hd => ?_) (fun d => ?_) (fun d d' hne g hg => ?_) (fun d g hg => ?_)
  · by_cases hd : d = n
    · subst hd
      simp only [St.app, List.foldl_cons, List.foldl_nil, upd, if_true] at hb'
      injection hb' with hb'
      subst hb'
      right
      exact ⟨hs, by simp, .inl ⟨by simp [envOf], rfl, by simp⟩⟩
    · simp only [St.app, List.foldl_cons, List.foldl_nil, upd, if_neg hd] at hb'
      exact .inl ⟨hb', by simp [hd], by simp [hd], by simp⟩
  · have hne : d ≠ n := fun e => by subst e; simp [St.app, upd] at hd
    simp only [St.app, List.foldl_cons, List.foldl_nil, upd, if_neg hne] at hd
    simpa [hne] using R.dead d hd
  · by_cases hdn : d = n
    · simp [St.app, hdn]
    · simp only [St.app, List.foldl_cons, List.foldl_nil, upd, if_neg hdn] at hd
      simp [St.app, R.known d hd]
  · by_cases hdn : d = n <;> simp [hdn, R.nodup d]
  · by_cases h1 : d = n <;> by_cases h2 : d' = n <;> simp only [h1, h2, if_true, if_false] at hg ⊢
    · cases hg
    · cases hg
    · simp
    · exact R.disj d d' hne g hg
  · by_cases hdn : d = n
    · simp [hdn] at hg
    · simp only [if_neg hdn] at hg
      exact ⟨.inl ⟨d, hg⟩, (R.own d g hg).1, R.fmLt hg⟩

end
end Go.PA

/- PA9: paths into trees; loads. -/
namespace Go.PA

theorem Env.shut_le (e : Env) (F : List Nat) : e.shut.Le e F :=
  ⟨fun _ _ => rfl, fun _ h => h, fun _ h => h.elim, fun _ h => by simp [Env.shut] at h, fun _ _ h => by simp [Env.shut] at h, fun _ _ h => by simp [Env.shut] at h⟩
theorem Env.close_le (e : Env) (F : List Nat) : e.close.Le e F :=
  ⟨fun _ _ => rfl, fun _ h => h, fun _ h => .inr h, fun _ h => by simp [Env.close] at h, fun _ _ h => by simp [Env.close] at h, fun _ _ h => by simp [Env.close] at h⟩
theorem VR_open {a : A} {e : Env} {vs : List Value} {F : List Nat} (h : VR a e.shut vs F) : VR a e vs F := VR_mono a _ _ _ _ (e.shut_le F) h
theorem VRs_open {xs : List A} {e : Env} {vs : List Value} {F : List Nat} (h : VRs xs e.shut vs F) : VRs xs e vs F := VRs_mono xs _ _ _ _ (e.shut_le F) h
theorem VR_shut {a : A} {e : Env} {vs : List Value} {F : List Nat} (hc : a.closed = true) (hb : a.nobor = true) (h : VR a e vs F) : VR a e.shut vs F := by
  have := VR_noB a _ _ _ hb ((VR_close a e vs F hc).1 h)
  rwa [close_noB] at this

mutual
theorem VR_noown : ∀ (a : A) (e : Env) (vs : List Value) (F : List Nat), a.noown = true → VR a e vs F → F = []
  | .v x, e, vs, F, hc, h => by simp only [VR] at h; exact h.2.2
  | .und, e, vs, F, hc, h => by simp [VR] at h
  | .agg xs, e, vs, F, hc, h => by simp only [VR] at h; exact VRs_noown xs e vs F (by simpa [A.noown] using hc) h
  | .arr tot xs, e, vs, F, hc, h => by simp only [VR] at h; exact VRs_noown xs _ vs F (by simpa [A.noown] using hc) h.2.2
  | .sl p xs, e, vs, F, hc, h => by simp only [VR] at h; exact h.1
  | .osl s xs, e, vs, F, hc, h => by simp [A.noown] at hc
  | .rp p a, e, vs, F, hc, h => by simp only [VR] at h; exact h.1
  | .box a, e, vs, F, hc, h => by simp [A.noown] at hc
  | .ref .., e, vs, F, hc, h => by simp only [VR] at h; exact h.1
  | .aref .., e, vs, F, hc, h => by simp only [VR] at h; exact h.1
  | .ptr .., e, vs, F, hc, h => by simp only [VR] at h; exact h.1
  | .clo f first caps, e, vs, F, hc, h => by
    simp only [A.noown, Bool.and_eq_true] at hc
    simp only [VR] at h
    obtain ⟨fvs, cvs, Ff, Fc, _, rfl, h1, h2⟩ := h
    simp [VVs_noown first e _ _ hc.1 h1, VVs_noown caps e _ _ hc.2 h2]
  | .ifc t a, e, vs, F, hc, h => by
    simp only [A.noown] at hc
    simp only [VR] at h
    obtain ⟨x, _, ⟨_, cs, _, h3⟩ | ⟨_, h3⟩⟩ := h
    · exact VR_noown a e _ F hc h3
    · exact VR_noown a e _ F hc h3
  | .tup _, e, vs, F, hc, h => by simp [VR] at h
  | .mp .., e, vs, F, hc, h => by simp [A.noown] at hc
  | .mref _, e, vs, F, hc, h => by simp only [VR] at h; exact h.1
  | .yl _, e, vs, F, hc, h => by simp [A.noown] at hc
  | .yref _, e, vs, F, hc, h => by simp only [VR] at h; exact h.1
theorem VRs_noown : ∀ (xs : List A) (e : Env) (vs : List Value) (F : List Nat), noowns xs = true → VRs xs e vs F → F = []
  | [], e, vs, F, hc, h => by simp only [VRs] at h; exact h.2
  | x :: xs, e, vs, F, hc, h => by
    simp only [noowns, Bool.and_eq_true] at hc
    simp only [VRs] at h
    obtain ⟨us, vs', F1, F2, _, rfl, h1, h2⟩ := h
    simp [VR_noown x e us F1 hc.1 h1, VRs_noown xs e vs' F2 hc.2 h2]
theorem VVs_noown : ∀ (xs : List A) (e : Env) (vs : List Value) (F : List Nat), noowns xs = true → VVs xs e vs F → F = []
  | [], e, vs, F, hc, h => by simp only [VVs] at h; exact h.2
  | x :: xs, e, vs, F, hc, h => by
    simp only [noowns, Bool.and_eq_true] at hc
    simp only [VVs] at h
    obtain ⟨y, vs', F1, F2, _, rfl, ⟨_, cs, _, h1⟩ | ⟨_, h1⟩, h2⟩ := h
    · simp [VR_noown x e _ F1 hc.1 h1, VVs_noown xs e vs' F2 hc.2 h2]
    · simp [VR_noown x e _ F1 hc.1 h1, VVs_noown xs e vs' F2 hc.2 h2]
end

theorem VRs_at : ∀ (xs : List A) (e : Env) (vs : List Value) (F : List Nat) (k : Nat) (x : A), VRs xs e vs F → xs[k]? = some x →
    ∃ pre us post F1 Fx F2, vs = pre ++ us ++ post ∧ F = F1 ++ Fx ++ F2 ∧ pre.length = szs (xs.take k) ∧ VR x e us Fx ∧
      ∀ y us' Fy, VR y e us' Fy → VRs (xs.set k y) e (pre ++ us' ++ post) (F1 ++ Fy ++ F2)
  | [], e, vs, F, k, x, h, hx => by simp at hx
  | z :: xs, e, vs, F, 0, x, h, hx => by
    simp at hx
    subst hx
    simp only [VRs] at h
    obtain ⟨us, vs', F1, F2, rfl, rfl, h1, h2⟩ := h
    exact ⟨[], us, vs', [], F1, F2, by simp, by simp, by simp [szs], h1, fun y us' Fy hy => by simpa using VRs_cons hy h2⟩
  | z :: xs, e, vs, F, k + 1, x, h, hx => by
    simp at hx
    simp only [VRs] at h
    obtain ⟨us, vs', F1, F2, rfl, rfl, h1, h2⟩ := h
    obtain ⟨pre, ux, post, G1, Gx, G2, rfl, rfl, h3, h4, h5⟩ := VRs_at xs e vs' F2 k x h2 hx
    refine ⟨us ++ pre, ux, post, F1 ++ G1, Gx, G2, by simp, by simp, ?_, h4, fun y us' Fy hy => ?_⟩
    · simp [szs, h3, VR_len z e us F1 h1]
    · have := VRs_cons h1 (h5 y us' Fy hy)
      simpa using this

theorem szs_take_const {xs : List A} {s : Nat} (h : ∀ x ∈ xs, x.sz = s) {k : Nat} (hk : k ≤ xs.length) : szs (xs.take k) = k * s := by
  rw [szs_const (s := s) (fun x hx => h x (List.mem_of_mem_take hx))]
  simp [Nat.min_eq_left hk]

theorem szs_set {xs : List A} {k : Nat} {x y : A} (hx : xs[k]? = some x) (h : y.sz = x.sz) : szs (xs.set k y) = szs xs := by
  induction xs generalizing k with
  | nil => simp at hx
  | cons z xs ih =>
    cases k with
    | zero => simp at hx; subst hx; simp [szs, h]
    | succ k => simp at hx; simp [szs, ih hx]

theorem szAll_mem {xs : List A} {s : Nat} (h : szAll s xs) : ∀ x ∈ xs, x.sz = s := by
  induction xs with
  | nil => exact fun _ h => nomatch h
  | cons y ys ih =>
    simp only [szAll] at h
    intro x hx
    rcases List.mem_cons.1 hx with rfl | hx
    · exact h.1
    · exact ih h.2 x hx
theorem szAt_elim {xs : List A} {i s : Nat} (h : szAt xs i s) : ∃ x, xs[i]? = some x ∧ x.sz = s ∧ xs.getD i .und = x ∧ i < xs.length := by
  obtain ⟨x, h1, h2⟩ := h
  exact ⟨x, h1, h2, by simp [List.getD_eq_getElem?_getD, h1], (List.getElem?_eq_some_iff.1 h1).1⟩

/-- What lies at a path. -/
theorem getP_sound {bk : Nat → Option Blk} {e : Env} : ∀ (ps : List PS) (a : A) (vs : List Value) (F : List Nat) (x : A) (l : List Nat), VR a e vs F → RM.Runs bk (getP a ps) x l →
    ∃ pre us post Fx, vs = pre ++ us ++ post ∧ pre.length = offP ps ∧ VR x e us Fx ∧ ∀ g ∈ Fx, g ∈ F := by
  intro ps
  induction ps with
  | nil =>
    intro a vs F x l h r
    have hg : getP a [] = .ret a := by cases a <;> rfl
    rw [hg] at r
    obtain ⟨rfl, _⟩ := runs_ret r
    exact ⟨[], vs, [], F, by simp, by simp [offP], h, fun _ h => h⟩
  | cons p ps ih =>
    intro a vs F x l h r
    cases a with
    | agg xs =>
      cases p with
      | fld k off =>
        simp only [getP] at r
        split at r
        · rename_i y hy
          split at r
          · rename_i ho
            simp only [VR] at h
            obtain ⟨pre, us, post, F1, Fx, F2, rfl, rfl, h1, h2, _⟩ := VRs_at xs e vs F k y h hy
            obtain ⟨pre', us', post', Fx', rfl, h3, h4, h5⟩ := ih y us Fx x l h2 r
            exact ⟨pre ++ pre', us', post' ++ post, Fx', by simp, by simp [offP, PS.off, h1, h3, ho], h4, fun g hg => by simp [h5 g hg]⟩
          · exact (runs_fail r).elim
        · exact (runs_fail r).elim
      | idx i s =>
        simp only [getP] at r
        obtain ⟨⟨hi, hs⟩, r⟩ := runs_req r
        have h00 := szAll_mem hs
        have hy : xs[i]? = some (xs.getD i .und) := by simp [List.getD_eq_getElem?_getD, List.getElem?_eq_getElem hi]
        simp only [VR] at h
        obtain ⟨pre, us, post, F1, Fx, F2, rfl, rfl, h1, h2, _⟩ := VRs_at xs e vs F i _ h hy
        obtain ⟨pre', us', post', Fx', rfl, h3, h4, h5⟩ := ih _ us Fx x l h2 r
        refine ⟨pre ++ pre', us', post' ++ post, Fx', by simp, ?_, h4, fun g hg => by simp [h5 g hg]⟩
        rw [szs_take_const h00 (Nat.le_of_lt hi)] at h1
        simp [offP, PS.off, h1, h3]
    | arr t xs =>
      cases p with
      | fld k off => simp only [getP] at r; exact (runs_fail r).elim
      | idx i s =>
        simp only [getP] at r
        obtain ⟨hs, r⟩ := runs_req r
        obtain ⟨y, hy, hys, hyd, hyl⟩ := szAt_elim hs
        rw [hyd] at r
        simp only [VR] at h
        obtain ⟨h0, ⟨s', h00⟩, h⟩ := h
        obtain ⟨pre, us, post, F1, Fx, F2, rfl, rfl, h1, h2, _⟩ := VRs_at xs e.shut vs F i y h hy
        obtain ⟨pre', us', post', Fx', rfl, h3, h4, h5⟩ := ih y us Fx x l (VR_open h2) r
        refine ⟨pre ++ pre', us', post' ++ post, Fx', by simp, ?_, h4, fun g hg => by simp [h5 g hg]⟩
        have : s' = s := by rw [← hys]; exact (h00 y (List.mem_of_getElem? hy)).symm
        subst this
        rw [szs_take_const h00 (Nat.le_of_lt hyl)] at h1
        simp [offP, PS.off, h1, h3]
    | _ => cases p <;> (simp only [getP] at r; exact (runs_fail r).elim)

/-- A part is put at a path. -/
theorem setP_sound {bk : Nat → Option Blk} : ∀ (ps : List PS) (a b : A) (e : Env) (vs : List Value) (F : List Nat) (a' : A) (l : List Nat), VR a e vs F → RM.Runs bk (setP a ps b) a' l →
    ∃ pre us post F1 Fx F2 x, vs = pre ++ us ++ post ∧ F = F1 ++ Fx ++ F2 ∧ pre.length = offP ps ∧ us.length = b.sz ∧ VR x e us Fx ∧ a'.sz = a.sz ∧ RM.Runs bk (getP a ps) x [] ∧
      ∀ us' Fy, VR b e us' Fy → VR a' e (pre ++ us' ++ post) (F1 ++ Fy ++ F2) := by
  intro ps
  induction ps with
  | nil =>
    intro a b e vs F a' l h r
    have hg : setP a [] b = if a.sz = b.sz then .ret b else .fail := by cases a <;> rfl
    have hg' : getP a [] = .ret a := by cases a <;> rfl
    rw [hg] at r
    split at r
    · rename_i hs
      obtain ⟨rfl, _⟩ := runs_ret r
      exact ⟨[], vs, [], [], F, [], a, by simp, by simp, by simp [offP], (VR_len a e vs F h).trans hs, h, hs.symm, hg' ▸ .ret a, fun us' Fy hy => by simpa using hy⟩
    · exact (runs_fail r).elim
  | cons p ps ih =>
    intro a b e vs F a' l h r
    cases a with
    | agg xs =>
      cases p with
      | fld k off =>
        simp only [setP] at r
        split at r
        · rename_i y hy
          split at r
          · rename_i ho
            obtain ⟨y', l1, l2, r1, r2, rfl⟩ := RM.runs_bind r
            obtain ⟨rfl, _⟩ := runs_ret r2
            simp only [VR] at h
            obtain ⟨pre, us, post, F1, Fx, F2, rfl, rfl, h1, h2, h3⟩ := VRs_at xs e vs F k y h hy
            obtain ⟨pre', us', post', G1, Gx, G2, x, rfl, rfl, h4, h5, h6, h7, h8, h9⟩ := ih y b e us Fx y' l1 h2 r1
            refine ⟨pre ++ pre', us', post' ++ post, F1 ++ G1, Gx, G2 ++ F2, x, by simp, by simp, by simp [offP, PS.off, h1, h4, ho], h5, h6, ?_, ?_, fun us'' Fy hy' => ?_⟩
            · simp [A.sz, szs_set hy h7]
            · simp only [getP, hy, ho, if_true]; exact h8
            · have := h3 y' _ _ (h9 us'' Fy hy')
              simpa [VR] using this
          · exact (runs_fail r).elim
        · exact (runs_fail r).elim
      | idx i s =>
        simp only [setP] at r
        obtain ⟨⟨hi, hs⟩, r⟩ := runs_req r
        have h00 := szAll_mem hs
        have hy : xs[i]? = some (xs.getD i .und) := by simp [List.getD_eq_getElem?_getD, List.getElem?_eq_getElem hi]
        obtain ⟨y', l1, l2, r1, r2, rfl⟩ := RM.runs_bind r
        obtain ⟨rfl, _⟩ := runs_ret r2
        simp only [VR] at h
        obtain ⟨pre, us, post, F1, Fx, F2, rfl, rfl, h1, h2, h3⟩ := VRs_at xs e vs F i _ h hy
        rw [szs_take_const h00 (Nat.le_of_lt hi)] at h1
        obtain ⟨pre', us', post', G1, Gx, G2, x, e1, e2, h4, h5, h6, h7, h8, h9⟩ := ih _ b e us Fx y' l1 h2 r1
        subst e1; subst e2
        refine ⟨pre ++ pre', us', post' ++ post, F1 ++ G1, Gx, G2 ++ F2, x, by simp, by simp, by simp [offP, PS.off, h1, h4], h5, h6, ?_, ?_, fun us'' Fy hy' => ?_⟩
        · simp [A.sz, szs_set hy h7]
        · simp only [getP]
          exact .req ⟨hi, hs⟩ h8
        · have := h3 y' _ _ (h9 us'' Fy hy')
          simpa [VR] using this
    | arr t xs =>
      cases p with
      | fld k off => simp only [setP] at r; exact (runs_fail r).elim
      | idx i s =>
        simp only [setP] at r
        split at r
        · rename_i hcl
          simp only [Bool.and_eq_true] at hcl
          obtain ⟨hs, r⟩ := runs_req r
          obtain ⟨y, hy, hys, hyd, hyl⟩ := szAt_elim hs
          rw [hyd] at r
          obtain ⟨y', l1, l2, r1, r2, rfl⟩ := RM.runs_bind r
          obtain ⟨rfl, _⟩ := runs_ret r2
          simp only [VR] at h
          obtain ⟨h0, ⟨s', h00⟩, h⟩ := h
          obtain ⟨pre, us, post, F1, Fx, F2, rfl, rfl, h1, h2, h3⟩ := VRs_at xs e.shut vs F i y h hy
          have hss : s' = s := by rw [← hys]; exact (h00 y (List.mem_of_getElem? hy)).symm
          subst hss
          rw [szs_take_const h00 (Nat.le_of_lt hyl)] at h1
          obtain ⟨pre', us', post', G1, Gx, G2, x, e1, e2, h4, h5, h6, h7, h8, h9⟩ := ih y b e.shut us Fx y' l1 h2 r1
          subst e1; subst e2
          refine ⟨pre ++ pre', us', post' ++ post, F1 ++ G1, Gx, G2 ++ F2, x, by simp, by simp, by simp [offP, PS.off, h1, h4], h5, VR_open h6, by simp [A.sz], ?_, fun us'' Fy hy' => ?_⟩
          · simp only [getP]
            rw [hyd]
            exact .req hs h8
          · have hy2 := VR_shut hcl.1 hcl.2 hy'
            have := h3 y' _ _ (h9 us'' Fy hy2)
            simp only [VR]
            refine ⟨?_, ⟨s', fun z hz => ?_⟩, by simpa using this⟩
            · rw [← h0]
              have := VR_len b e us'' Fy hy'
              simp; omega
            · rcases List.mem_or_eq_of_mem_set hz with hz | hz
              · exact h00 z hz
              · subst hz; rw [h7]; exact hys
        · exact (runs_fail r).elim
    | _ => cases p <;> (simp only [setP] at r; exact (runs_fail r).elim)

end Go.PA

/- PA10: loads. -/
namespace Go.PA
section
variable {P : Program} {c : Ctx} {st : St} {a : Act} {w : World} {loc : Nat → Option (Option Nat)} {S : Nat → Prop} {Fm : Nat → List Nat}

theorem tSize_some {t : TypeId} {n : Nat} (h : tSize P t = some n) : ∃ i, P.info? t = some i ∧ i.size = n := by
  unfold tSize at h
  cases hi : P.info? t with
  | none => simp [hi] at h
  | some i => exact ⟨i, rfl, by simpa [hi] using h⟩
theorem run_sizeOf {t : TypeId} {n : Nat} (h : tSize P t = some n) (w : World) : (sizeOf t).run P w = .ok n w := by
  obtain ⟨i, h1, rfl⟩ := tSize_some h
  simp [sizeOf, typeInfo, h1]
theorem run_isAgg {t : TypeId} {b : Bool} (h : tAgg P t = some b) (w : World) : (isAgg t).run P w = .ok b w := by
  unfold tAgg at h
  cases hu : P.underlying t with
  | none => simp [hu] at h
  | some d =>
    simp [hu] at h
    subst h
    unfold isAgg
    rw [Sem.run_bind, run_underlying hu w]
    cases d <;> rfl

theorem run_load_VV {x : A} {e : Env} {t : TypeId} {us : List Value} {Fx : List Nat} {ad : Addr} (hs : tSize P t = some x.sz) (ha : tAgg P t = some x.isAgg) (hx : VR x e us Fx)
    (hc : ∀ j u, us[j]? = some u → w.cell? (ad.add j) = some u) : ∃ y, (loadVar t ad).run P w = .ok y w ∧ VV x e y Fx := by
  have hl := VR_len x e us Fx hx
  cases hag : x.isAgg with
  | true =>
    rw [hag] at ha
    have := run_loadCells_list (P := P) w ad us hc
    rw [hl] at this
    refine ⟨.agg us.toArray, ?_, (VV_mk_agg hag).2 ⟨_, rfl, by simpa using hx⟩⟩
    simp [loadVar, run_isAgg ha, run_sizeOf hs, this]
  | false =>
    rw [hag] at ha
    have h1 : us.length = 1 := by
      rw [hl]
      cases x <;> simp_all [A.isAgg, A.sz, VR]
    obtain ⟨u, rfl⟩ : ∃ u, us = [u] := List.length_eq_one_iff.1 h1
    have h0 := hc 0 u (by simp)
    have hadd : ad.add 0 = ad := by simp [Addr.add]
    rw [hadd] at h0
    refine ⟨u, ?_, (VV_mk hag).2 hx⟩
    simp [loadVar, run_isAgg ha, h0]

theorem shaped_eq {bk : Nat → Option Blk} {k : TK} {x y : A} {l : List Nat} (r : RM.Runs bk (shaped k x) y l) : y = x := by
  cases k <;> simp only [shaped] at r
  case int k => obtain ⟨⟨n, rfl⟩, r⟩ := runs_req r; obtain ⟨rfl, _⟩ := runs_ret r; rfl
  case bool => obtain ⟨⟨n, rfl⟩, r⟩ := runs_req r; obtain ⟨rfl, _⟩ := runs_ret r; rfl
  case str => obtain ⟨⟨n, rfl⟩, r⟩ := runs_req r; obtain ⟨rfl, _⟩ := runs_ret r; rfl
  case other => obtain ⟨rfl, _⟩ := runs_ret r; rfl

theorem exec_load {o : Oper} {t : TypeId} {x : Operand} {ad : Addr} {y : Value} (ho : o.op = .load t x) (hx : a.eval x = .pointer (some ad)) (hr : (loadVar t ad).run P w = .ok y w) :
    (execOp a.eval o).run P w = .ok (.value y) w := by
  simp [execOp, ho, hx, Instr.loadAt, Instr.sureAddr, hr]

theorem add_cell {g o j : Nat} : (⟨g, o, none⟩ : Addr).add j = ⟨g, o + j, none⟩ := by
  unfold Addr.add; split <;> simp_all

theorem cells_at {cs : Array Value} {g : Nat} {ty : TypeId} {pre us post : List Value} {o : Nat} (hg : w.heap[g]? = some (.cells cs ty (0, 0))) (hcs : ∃ rest, cs.toList = pre ++ us ++ post ++ rest) (hp : pre.length = o) :
    ∀ j u, us[j]? = some u → w.cell? ((⟨g, o, none⟩ : Addr).add j) = some u := by
  intro j u hu
  obtain ⟨rest, hcs⟩ := hcs
  rw [add_cell, cell_of_row w g _ cs ty _ hg, ← Array.getElem?_toList, hcs, ← hp, List.append_assoc, List.append_assoc, List.getElem?_append_right (by omega)]
  have hj : j < us.length := (List.getElem?_eq_some_iff.1 hu).1
  rw [show pre.length + j - pre.length = j by omega, List.getElem?_append_left hj]
  exact hu

theorem TV_ptr {d : Nat} {p : List PS} {e : Env} {y : Value} (h : TV (.ptr d p) e y) : e.ids d = true ∧ ∃ ad, y = .pointer (some ad) ∧ ∀ l, e.loc d = some l → ∃ g, l = some g ∧ ad = ⟨g, offP p, none⟩ := by
  rw [TV_good rfl, VV_mk rfl] at h
  simp only [VR] at h
  obtain ⟨_, hi, ad, h1, h2⟩ := h
  injection h1 with h1
  exact ⟨hi, ad, h1, h2⟩

/-- What a row's path leads to. -/
theorem getR_sound {bk : Nat → Option Blk} {e : Env} {xs : List A} {s : Nat} {ps : List PS} {x : A} {l : List Nat} {us : List Value} {F : List Nat} (hs : ∀ x ∈ xs, x.sz = s)
    (h : VRs xs e us F) (r : RM.Runs bk (getR xs s ps) x l) : ∃ pre us' post Fx, us = pre ++ us' ++ post ∧ pre.length = offP ps ∧ VR x e us' Fx ∧ ∀ g ∈ Fx, g ∈ F := by
  cases ps with
  | nil => simp only [getR] at r; exact (runs_fail r).elim
  | cons p ps =>
    cases p with
    | fld k off => simp only [getR] at r; exact (runs_fail r).elim
    | idx i s' =>
      simp only [getR] at r
      split at r
      · rename_i hss
        subst hss
        obtain ⟨hi, r⟩ := runs_req r
        have hx : xs[i]? = some (xs.getD i .und) := by
          simp [List.getD_eq_getElem?_getD, List.getElem?_eq_getElem hi]
        obtain ⟨pre, u1, post, F1, Fx, F2, rfl, rfl, h1, h2, _⟩ := VRs_at xs e us F i _ h hx
        obtain ⟨pre', us', post', Fx', rfl, h3, h4, h5⟩ := getP_sound ps _ _ _ x l h2 r
        refine ⟨pre ++ pre', us', post' ++ post, Fx', by simp, ?_, h4, fun g hg => by simp [h5 g hg]⟩
        rw [szs_take_const hs (Nat.le_of_lt hi)] at h1
        simp [offP, PS.off, h1, h3]
      · exact (runs_fail r).elim

theorem take_append_drop' {cs : List Value} {us : List Value} (h : cs.take us.length = us) : ∃ rest, cs = us ++ rest :=
  ⟨cs.drop us.length, by conv => lhs; rw [← List.take_append_drop us.length cs, h]⟩

end
end Go.PA

/- PA11: loads and stores are sound. -/
namespace Go.PA
section
variable {P : Program} {c : Ctx} {st : St} {a : Act} {w : World} {loc : Nat → Option (Option Nat)} {S : Nat → Prop} {Fm : Nat → List Nat}

theorem VV_TV {x : A} {e : Env} {y : Value} (h : VV x e y []) : TV x e y := (TV_good (VV_isAgg h)).2 h

theorem VV_open {x : A} {e : Env} {y : Value} {F : List Nat} (h : VV x e.shut y F) : VV x e y F := VV_mono (e.shut_le F) h

theorem aLoad_sound {o : Oper} {t : TypeId} {x : Operand} {p : A} {eff : Eff} {l : List Nat} (ho : o.op = .load t x) (R : RelW c st a w loc S Fm)
    (hx : TV p (envOf c st w loc S) (a.eval x)) (r : RM.Runs st.bk (aLoad P t p) eff l) : Done P c (st.app eff) a o w eff.val := by
  unfold aLoad at r
  split at r
  · rename_i d ps
    obtain ⟨hid, ad, hy, hloc⟩ := TV_ptr hx
    obtain ⟨b, l', hb, r, _⟩ := runs_rd r
    have hB := R.bks d b hb
    cases b with
    | mp _ _ => exact (runs_fail r).elim
    | yld _ => exact (runs_fail r).elim
    | var z =>
      obtain ⟨z1, l1, l2, r1, r, _⟩ := RM.runs_bind r
      split at r
      · rename_i hty
        obtain ⟨z2, l3, l4, r2, r3, _⟩ := RM.runs_bind r
        have := shaped_eq r2; subst this; clear r
        split at r3
        · rename_i hno
          obtain ⟨g, cs, ty, Fx, h1, h2, h3, h4⟩ := hB
          obtain ⟨pre, us, post, Fy, h5, h6, h7, h8⟩ := getP_sound ps _ _ _ _ _ h3 r1
          obtain ⟨g', hg', rfl⟩ := hloc _ h1
          injection hg' with hg'; subst hg'
          obtain ⟨y, hr, hv⟩ := run_load_VV (P := P) (w := w) hty.1 hty.2 h7 (cells_at h2 ⟨[], by simpa using h5⟩ h6)
          obtain rfl := VR_noown _ _ _ _ hno h7
          exact done_effV R r3 (exec_load ho hy hr) (VV_TV hv)
        · exact (runs_fail r3).elim
      · exact (runs_fail r).elim
    | row s xs =>
      obtain ⟨z1, l1, l2, r1, r, _⟩ := RM.runs_bind r
      obtain ⟨z2, l3, l4, r2, r3, _⟩ := RM.runs_bind r
      have := shaped_eq r2; subst this; clear r
      split at r3
      · rename_i hty
        obtain ⟨h0, hss, ⟨_, h2, _⟩ | ⟨g, cs, ty, k, us, Fx, h1, h2, h3, h4, h5, h6, h7, h8⟩⟩ := hB
        · subst h2
          cases ps with
          | nil => simp only [getR] at r1; exact (runs_fail r1).elim
          | cons p ps =>
            cases p <;> simp only [getR] at r1
            · exact (runs_fail r1).elim
            · split at r1
              · have := (runs_req r1).1; simp at this
              · exact (runs_fail r1).elim
        · obtain ⟨pre, us', post, Fy, h9, h10, h11, h12⟩ := getR_sound hss h6 r1
          obtain ⟨g', hg', rfl⟩ := hloc _ h1
          injection hg' with hg'; subst hg'
          obtain ⟨rest, hrest⟩ := take_append_drop' h7
          obtain ⟨y, hr, hv⟩ := run_load_VV (P := P) (w := w) hty.1 hty.2.1 h11 (cells_at h4 ⟨rest, by rw [hrest, h9]⟩ h10)
          obtain rfl := VR_noown _ _ _ _ hty.2.2 h11
          exact done_effV R r3 (exec_load ho hy hr) (VV_TV hv)
      · exact (runs_fail r3).elim
    | froz s xs =>
      obtain ⟨z1, l1, l2, r1, r, _⟩ := RM.runs_bind r
      obtain ⟨z2, l3, l4, r2, r3, _⟩ := RM.runs_bind r
      have := shaped_eq r2; subst this; clear r
      split at r3
      · rename_i hty
        obtain ⟨h0, h00, hss, ⟨_, h2⟩ | ⟨g, cs, ty, us, h1, h3, h4, h5, h6, h7⟩⟩ := hB
        · subst h2
          cases ps with
          | nil => simp only [getR] at r1; exact (runs_fail r1).elim
          | cons p ps =>
            cases p <;> simp only [getR] at r1
            · exact (runs_fail r1).elim
            · split at r1
              · have := (runs_req r1).1; simp at this
              · exact (runs_fail r1).elim
        · obtain ⟨pre, us', post, Fy, h9, h10, h11, h12⟩ := getR_sound hss h6 r1
          obtain ⟨g', hg', rfl⟩ := hloc _ h1
          injection hg' with hg'; subst hg'
          obtain ⟨rest, hrest⟩ := take_append_drop' h7
          obtain ⟨y, hr, hv⟩ := run_load_VV (P := P) (w := w) hty.1 hty.2.1 h11 (cells_at h4 ⟨rest, by rw [hrest, h9]⟩ h10)
          obtain rfl := VR_noown _ _ _ _ hty.2.2 h11
          exact done_effV R r3 (exec_load ho hy hr) (VV_TV (VV_open hv))
      · exact (runs_fail r3).elim
  · rename_i q z
    obtain ⟨z2, l3, l4, r2, r3, _⟩ := RM.runs_bind r
    have := shaped_eq r2; subst this; clear r
    split at r3
    · rename_i hty
      rw [TV_good rfl, VV_mk rfl] at hx
      simp only [VR] at hx
      obtain ⟨_, ad, us, hy, hok, hz, hcell⟩ := hx
      injection hy with hy
      obtain ⟨y, hr, hv⟩ := run_load_VV (P := P) (w := w) hty.1 hty.2.1 hz hcell
      refine done_effV R r3 (exec_load ho hy hr) (VV_TV (VV_mono ?_ hv))
      cases q
      · exact Env.close_le _ _
      · exact Env.shut_le _ _
    · exact (runs_fail r3).elim
  · exact (runs_fail r).elim

/-! stores -/
theorem plain_oneCell {x : Value} (h : plainV x = true) : x.oneCell' = true := by cases x <;> simp_all [plainV, Value.oneCell']
mutual
theorem VR_one : ∀ (x : A) (e : Env) (us : List Value) (F : List Nat), VR x e us F → ∀ u ∈ us, u.oneCell' = true
  | .v x, e, us, F, h => by simp only [VR] at h; obtain ⟨h1, rfl, _⟩ := h; simp [plain_oneCell h1]
  | .und, e, us, F, h => by simp [VR] at h
  | .agg xs, e, us, F, h => by simp only [VR] at h; exact VRs_one xs e us F h
  | .arr tot xs, e, us, F, h => by simp only [VR] at h; exact VRs_one xs _ us F h.2.2
  | .sl p xs, e, us, F, h => by simp only [VR] at h; obtain ⟨_, a, k, ws, rfl, _⟩ := h; simp [Value.oneCell']
  | .osl s xs, e, us, F, h => by
    simp only [VR] at h
    rcases h with ⟨_, _, ⟨_, rfl, _⟩ | ⟨g, cs, ty, k, ws, Fx, rfl, _⟩⟩ <;> simp [Value.oneCell']
  | .rp p a, e, us, F, h => by simp only [VR] at h; obtain ⟨_, ad, ws, rfl, _⟩ := h; simp [Value.oneCell']
  | .box a, e, us, F, h => by simp only [VR] at h; obtain ⟨g, cs, ty, Fx, rfl, _⟩ := h; simp [Value.oneCell']
  | .ref .., e, us, F, h => by simp only [VR] at h; obtain ⟨_, _, a, k, rfl, _⟩ := h; simp [Value.oneCell']
  | .aref .., e, us, F, h => by simp only [VR] at h; obtain ⟨_, _, a, k, rfl, _⟩ := h; simp [Value.oneCell']
  | .ptr .., e, us, F, h => by simp only [VR] at h; obtain ⟨_, _, a, rfl, _⟩ := h; simp [Value.oneCell']
  | .clo .., e, us, F, h => by simp only [VR] at h; obtain ⟨_, _, _, _, rfl, _⟩ := h; simp [Value.oneCell']
  | .ifc .., e, us, F, h => by simp only [VR] at h; obtain ⟨_, rfl, _⟩ := h; simp [Value.oneCell']
  | .tup _, e, us, F, h => by simp [VR] at h
  | .mp .., e, us, F, h => by simp only [VR] at h; obtain ⟨_, _, _, _, rfl, _⟩ := h; simp [Value.oneCell']
  | .mref _, e, us, F, h => by simp only [VR] at h; obtain ⟨_, _, _, rfl, _⟩ := h; simp [Value.oneCell']
  | .yl _, e, us, F, h => by simp only [VR] at h; obtain ⟨_, _, rfl, _⟩ := h; simp [Value.oneCell']
  | .yref _, e, us, F, h => by simp only [VR] at h; obtain ⟨_, _, _, rfl, _⟩ := h; simp [Value.oneCell']
theorem VRs_one : ∀ (xs : List A) (e : Env) (us : List Value) (F : List Nat), VRs xs e us F → ∀ u ∈ us, u.oneCell' = true
  | [], e, us, F, h => by simp only [VRs] at h; simp [h.1]
  | x :: xs, e, us, F, h => by
    simp only [VRs] at h
    obtain ⟨us1, us2, F1, F2, rfl, rfl, h1, h2⟩ := h
    intro u hu
    rcases List.mem_append.1 hu with hu | hu
    · exact VR_one x e us1 F1 h1 u hu
    · exact VRs_one xs e us2 F2 h2 u hu
end

theorem VV_cells {x : A} {e : Env} {y : Value} {F : List Nat} (h : VV x e y F) : VR x e y.cells.toList F ∧ y.cells.size = x.sz := by
  rcases h with ⟨h1, cs, rfl, h2⟩ | ⟨h1, h2⟩
  · exact ⟨h2, by have := VR_len _ _ _ _ h2; simpa [Value.cells] using this⟩
  · have hone := VR_one _ _ _ _ h2 y (by simp)
    have hc : y.cells = #[y] := by cases y <;> first | rfl | (simp [Value.oneCell'] at hone)
    rw [hc]
    exact ⟨h2, by have := VR_len _ _ _ _ h2; simpa using this⟩

theorem setRow_cells {w : World} {g : Nat} {cs : Array Value} {ty : TypeId} (cs' : Array Value) (hg : w.heap[g]? = some (.cells cs ty (0, 0))) : (w.setRow g cs').heap[g]? = some (.cells cs' ty (0, 0)) :=
  setRow_heap w g cs cs' ty _ hg

theorem run_storeVar {t : TypeId} {y : Value} {n g off : Nat} {cs : Array Value} {ty : TypeId} (hs : tSize P t = some n) (hy : y.cells.size = n) (h1 : ∀ u ∈ y.cells.toList, u.oneCell' = true)
    (hg : w.heap[g]? = some (.cells cs ty (0, 0))) (hfit : off + n ≤ cs.size) :
    (storeVar t ⟨g, off, none⟩ y).run P w = .ok () (w.setRow g (cs.toList.take off ++ y.cells.toList ++ cs.toList.drop (off + n)).toArray) := by
  have hst := run_storeCells_at P g off ty y.cells.toList 0 cs w hg (by simp; omega) h1
  simp only [Nat.add_zero] at hst
  have ha : (⟨g, off, none⟩ : Addr) = (⟨g, 0, none⟩ : Addr).add off := by rw [add_cell]; simp
  simp only [storeVar, Sem.run_bind, run_sizeOf hs, Result.andThen_ok, hy, ne_eq, not_true_eq_false, if_false]
  rw [hst]
  simp [hy]

end
end Go.PA

/- PA12: stores are sound; allocations. -/
namespace Go.PA
section
variable {P : Program} {c : Ctx} {st : St} {a : Act} {w : World} {loc : Nat → Option (Option Nat)} {S : Nat → Prop} {Fm : Nat → List Nat}

theorem shape_cells {w : World} {g : Nat} {cs : Array Value} {ty : TypeId} {fr : Nat × Nat} (h : w.heap[g]? = some (.cells cs ty fr)) : w.shape? g = some (ty, cs.size) := by
  simp [World.shape?, h]

/-- A block of the frame's own is written over. -/
theorem RelW.rewrite (R : RelW c st a w loc S Fm) {d g : Nat} {b' : Blk} {cs cs' : Array Value} {ty : TypeId} {F' : List Nat}
    (hlive : st.bk d ≠ none) (hg : w.heap[g]? = some (.cells cs ty (0, 0))) (hgF : g ∈ Fm d) (hsz : cs'.size = cs.size) (hF' : ∀ x ∈ F', x ∈ Fm d) (hnd : F'.Nodup) (z : A)
    (hB : ∀ e', e'.w = w.setRow g cs' → e'.loc = loc → (∀ F : List Nat, (∀ x ∈ F, x < w.heap.size ∧ x ≠ g) → (envOf c st w loc S).Le e' F) → BkR e' d b' F') :
    RelW c (st.app ⟨z, [(d, some b')], []⟩) a (w.setRow g cs') loc S (fun d' => if d' = d then F' else Fm d') := by
  have hother : ∀ x, x ≠ g → (w.setRow g cs').heap[x]? = w.heap[x]? := fun x hx => setRow_other w g x cs' hx
  have hst : Step c st w loc S Fm (fun x => x = g) (st.app ⟨z, [(d, some b')], []⟩) (w.setRow g cs') loc S (fun d' => if d' = d then F' else Fm d') := by
    refine ⟨fun t => rfl, rfl, fun x hx => ⟨d, by rw [hx]; exact hgF⟩, fun x _ hx => hother x hx, fun x hx => ?_, by simp, rfl, rfl, rfl, fun _ h => h, fun _ h => .inl h,
      fun x hx => by simpa using R.fram.bd x (.inl hx), fun d hd => by simp [St.app, hd], fun _ _ _ h => h, fun x => ?_⟩
    rotate_left
    · by_cases hxg : x.block = g
      · rw [frozen_plain (cs := cs') (ty := ty) (by rw [hxg]; exact setRow_cells cs' hg), frozen_plain (cs := cs) (ty := ty) (by rw [hxg]; exact hg)]
      · exact frozen_heap (hother _ hxg)
    by_cases hxg : x = g
    · subst hxg
      rw [shape_cells hg, shape_cells (setRow_cells cs' hg), hsz]
    · rw [shape_of_heap (hother x hxg)]
  refine R.next hst (fun d' b hb' => ?_) (fun d' hd => ?_) (fun d' hd => ?_) (fun d' => ?_) (fun d1 d2 hne x hx => ?_) (fun d' x hx => ?_)
  · by_cases hd : d' = d
    · subst hd
      simp only [St.app, List.foldl_cons, List.foldl_nil, upd, if_true] at hb'
      injection hb' with hb'
      subst hb'
      right
      simp only [if_true]
      exact hB _ rfl rfl fun F hF => hst.le R hF
    · simp only [St.app, List.foldl_cons, List.foldl_nil, upd, if_neg hd] at hb'
      exact .inl ⟨hb', rfl, by simp [hd], fun x hx hxg => R.disj d' d hd x hx (hxg ▸ hgF)⟩
  · have hne : d' ≠ d := fun e => by subst e; simp [St.app, upd] at hd
    simp only [St.app, List.foldl_cons, List.foldl_nil, upd, if_neg hne] at hd
    simpa [hne] using R.dead d' hd
  · by_cases hdn : d' = d
    · subst hdn; simp [St.app, R.known d' hlive]
    · simp only [St.app, List.foldl_cons, List.foldl_nil, upd, if_neg hdn] at hd
      simp [St.app, R.known d' hd]
  · by_cases hdn : d' = d <;> simp [hdn, R.nodup d', hnd]
  · by_cases h1 : d1 = d <;> by_cases h2 : d2 = d <;> simp only [h1, h2, if_true, if_false] at hx ⊢
    · exact absurd (h1.trans h2.symm) hne
    · exact R.disj d d2 (fun e => h2 e.symm) x (hF' x hx)
    · exact fun h => R.disj d1 d h1 x hx (hF' x h)
    · exact R.disj d1 d2 hne x hx
  · by_cases hdn : d' = d
    · simp only [hdn, if_true] at hx
      exact ⟨.inl ⟨d, hF' x hx⟩, (R.own d x (hF' x hx)).1, by simpa using R.fmLt (hF' x hx)⟩
    · simp only [if_neg hdn] at hx
      exact ⟨.inl ⟨d', hx⟩, (R.own d' x hx).1, by simpa using R.fmLt hx⟩

theorem exec_store {o : Oper} {t : TypeId} {x v : Operand} {ad : Addr} {y : Value} {w' : World} (ho : o.op = .store t x v) (hx : a.eval x = .pointer (some ad)) (hv : a.eval v = y) (hr : (storeVar t ad y).run P w = .ok () w') :
    (execOp a.eval o).run P w = .ok .skip w' := by
  simp [execOp, ho, hx, hv, Instr.storeAt, Instr.sureAddr, hr]

theorem done_skip {o : Oper} {st' : St} {w' : World} {loc' : Nat → Option (Option Nat)} {S' : Nat → Prop} {Fm' : Nat → List Nat} (h : (execOp a.eval o).run P w = .ok .skip w') (R : RelW c st' a w' loc' S' Fm') : Done P c st' a o w .und :=
  ⟨_, undef, w', loc', S', Fm', h, .inr ⟨rfl, rfl⟩, R, by simp [TV]⟩

theorem setR_sound {bk : Nat → Option Blk} {e : Env} {xs : List A} {s : Nat} {ps : List PS} {b : A} {xs' : List A} {l : List Nat} {us : List Value} {F : List Nat} (hs : ∀ x ∈ xs, x.sz = s)
    (h : VRs xs e us F) (r : RM.Runs bk (setR xs s b ps) xs' l) : ∃ pre u0 post F1 Fx F2, us = pre ++ u0 ++ post ∧ F = F1 ++ Fx ++ F2 ∧ pre.length = offP ps ∧ u0.length = b.sz ∧ (∀ x ∈ xs', x.sz = s) ∧ xs'.length = xs.length ∧
      ∀ us' Fy, VR b e us' Fy → VRs xs' e (pre ++ us' ++ post) (F1 ++ Fy ++ F2) := by
  cases ps with
  | nil => simp only [setR] at r; exact (runs_fail r).elim
  | cons p ps =>
    cases p with
    | fld k off => simp only [setR] at r; exact (runs_fail r).elim
    | idx i s' =>
      simp only [setR] at r
      split at r
      · rename_i hss
        subst hss
        obtain ⟨hi, r⟩ := runs_req r
        obtain ⟨y, l1, l2, r1, r2, _⟩ := RM.runs_bind r
        obtain ⟨rfl, _⟩ := runs_ret r2
        have hx : xs[i]? = some (xs.getD i .und) := by
          simp [List.getD_eq_getElem?_getD, List.getElem?_eq_getElem hi]
        obtain ⟨pre, u1, post, F1, Fx, F2, rfl, rfl, h1, h2, h3⟩ := VRs_at xs e us F i _ h hx
        obtain ⟨pre', us', post', G1, Gx, G2, x, rfl, rfl, h4, h5, h6, h7, h8, h9⟩ := setP_sound ps _ b e _ _ y l1 h2 r1
        rw [szs_take_const hs (Nat.le_of_lt hi)] at h1
        refine ⟨pre ++ pre', us', post' ++ post, F1 ++ G1, Gx, G2 ++ F2, by simp, by simp, by simp [offP, PS.off, h1, h4], h5, fun z hz => ?_, by simp, fun us'' Fy hy => ?_⟩
        · rcases List.mem_or_eq_of_mem_set hz with hz | hz
          · exact hs z hz
          · subst hz; rw [h7]; exact hs _ (List.mem_of_getElem? hx)
        · have := h3 y _ _ (h9 us'' Fy hy)
          simpa using this
      · exact (runs_fail r).elim

theorem nodup_mid {F1 Fx F2 : List Nat} {g : Nat} (h : (g :: (F1 ++ Fx ++ F2)).Nodup) : (g :: (F1 ++ F2)).Nodup := by
  simp only [List.nodup_cons, List.mem_append, List.nodup_append] at h ⊢
  grind

theorem aStore_sound {o : Oper} {t : TypeId} {x v : Operand} {p z : A} {eff : Eff} {l : List Nat} (ho : o.op = .store t x v) (R : RelW c st a w loc S Fm)
    (hx : TV p (envOf c st w loc S) (a.eval x)) (hv : TV z (envOf c st w loc S) (a.eval v)) (r : RM.Runs st.bk (aStore P t p z) eff l) : Done P c (st.app eff) a o w eff.val := by
  unfold aStore at r
  split at r
  · rename_i hty
    rw [TV_good hty.2] at hv
    obtain ⟨hvc, hvs⟩ := VV_cells hv
    have h1c := VR_one _ _ _ _ hvc
    split at r
    · rename_i d ps
      obtain ⟨hid, ad, hy, hloc⟩ := TV_ptr hx
      obtain ⟨b, l', hb, r, _⟩ := runs_rd r
      have hB := R.bks d b hb
      cases b with
      | mp _ _ => exact (runs_fail r).elim
      | yld _ => exact (runs_fail r).elim
      | var q =>
        obtain ⟨q', l1, l2, r1, r2, _⟩ := RM.runs_bind r
        obtain ⟨rfl, _⟩ := runs_ret r2
        obtain ⟨g, cs, ty, Fx, h1, h2, h3, h4⟩ := hB
        obtain ⟨g', hg', rfl⟩ := hloc _ h1
        injection hg' with hg'; subst hg'
        obtain ⟨pre, us, post, F1, Fy, F2, x', e1, e2, h5, h6, h7, h8, h9, h10⟩ := setP_sound ps _ z _ _ _ q' l1 h3 r1
        have hsz : cs.size = pre.length + us.length + post.length := by rw [← Array.length_toList, e1]; simp; omega
        have hnew : cs.toList.take (offP ps) ++ (a.eval v).cells.toList ++ cs.toList.drop (offP ps + z.sz) = pre ++ (a.eval v).cells.toList ++ post := by
          rw [e1, ← h5, ← h6]
          simp
        have hrun := run_storeVar (P := P) (off := offP ps) hty.1 hvs h1c h2 (by omega)
        rw [hnew] at hrun
        subst e2
        refine done_skip (exec_store ho hy rfl hrun) (R.rewrite (F' := g :: (F1 ++ F2)) (by rw [hb]; simp) h2 (by rw [h4]; simp) ?_ (fun x hx => ?_) (nodup_mid (h4 ▸ R.nodup d)) _ fun e' he1 he2 he3 => ?_)
        · simp [hsz, hvs, h6]; omega
        · rw [h4]; simp at hx ⊢; rcases hx with hx | hx | hx <;> simp [hx]
        · have hnd := h4 ▸ R.nodup d
          refine ⟨g, _, ty, F1 ++ F2, by rw [he2]; exact h1, by rw [he1]; exact setRow_cells _ h2, ?_, rfl⟩
          have := h10 _ [] hvc
          simp only [List.append_nil] at this
          refine VR_mono _ _ _ _ _ (he3 _ fun x hx => ⟨R.fmLt (d := d) (by rw [h4]; simp at hx ⊢; rcases hx with hx | hx <;> simp [hx]), fun hxg => ?_⟩) this
          subst hxg
          simp only [List.nodup_cons, List.mem_append] at hnd
          simp at hx
          rcases hx with hx | hx <;> simp [hx] at hnd
      | row s xs =>
        · obtain ⟨xs', l1, l2, r1, r2, _⟩ := RM.runs_bind r
          obtain ⟨rfl, _⟩ := runs_ret r2
          obtain ⟨h0, hss, ⟨_, hnil, _⟩ | ⟨g, cs, ty, k, us, Fx, h1, h2, h3, h4, h5, h6, h7, h8⟩⟩ := hB
          · subst hnil
            cases ps with
            | nil => simp only [setR] at r1; exact (runs_fail r1).elim
            | cons p ps =>
              cases p <;> simp only [setR] at r1
              · exact (runs_fail r1).elim
              · split at r1
                · have := (runs_req r1).1; simp at this
                · exact (runs_fail r1).elim
          · obtain ⟨g', hg', rfl⟩ := hloc _ h1
            injection hg' with hg'; subst hg'
            obtain ⟨pre, u0, post, F1, Fy, F2, e1, e2, h9, h10, h11, h12, h13⟩ := setR_sound hss h6 r1
            obtain ⟨rest, hrest⟩ := take_append_drop' h7
            have hsz : cs.size = pre.length + u0.length + post.length + rest.length := by rw [← Array.length_toList, hrest, e1]; simp; omega
            have hnew : cs.toList.take (offP ps) ++ (a.eval v).cells.toList ++ cs.toList.drop (offP ps + z.sz) = pre ++ (a.eval v).cells.toList ++ post ++ rest := by
              rw [hrest, e1, ← h9, ← h10]
              simp
            have hrun := run_storeVar (P := P) (off := offP ps) hty.1 hvs h1c h4 (by omega)
            rw [hnew] at hrun
            subst e2
            refine done_skip (exec_store ho hy rfl hrun) (R.rewrite (F' := g :: (F1 ++ F2)) (by rw [hb]; simp) h4 (by rw [h8]; simp) ?_ (fun x hx => ?_) (nodup_mid (h8 ▸ R.nodup d)) _ fun e' he1 he2 he3 => ?_)
            · simp [hsz, hvs, h10]; omega
            · rw [h8]; simp at hx ⊢; rcases hx with hx | hx | hx <;> simp [hx]
            · have hnd := h8 ▸ R.nodup d
              have := h13 _ [] hvc
              simp only [List.append_nil] at this
              refine ⟨h0, h11, .inr ⟨g, _, ty, k, pre ++ (a.eval v).cells.toList ++ post, F1 ++ F2, by rw [he2]; exact h1, by omega, h3, by rw [he1]; exact setRow_cells _ h4, ?_, ?_, ?_, rfl⟩⟩
              · simp [← h5, hsz, hvs, h10]; omega
              · refine VRs_mono _ _ _ _ _ (he3 _ fun x hx => ⟨R.fmLt (d := d) (by rw [h8]; simp at hx ⊢; rcases hx with hx | hx <;> simp [hx]), fun hxg => ?_⟩) this
                subst hxg
                simp only [List.nodup_cons, List.mem_append] at hnd
                simp at hx
                rcases hx with hx | hx <;> simp [hx] at hnd
              · rw [List.toList_toArray]
                exact List.take_left' rfl
      | froz s xs => exact (runs_fail r).elim
    · exact (runs_fail r).elim
  · exact (runs_fail r).elim

end
end Go.PA

/- PA13: new memory. -/
namespace Go.PA
section
variable {P : Program} {c : Ctx} {st : St} {a : Act} {w : World} {loc : Nat → Option (Option Nat)} {S : Nat → Prop} {Fm : Nat → List Nat}

theorem eqPlain_eq {x y : Value} (h : eqPlain x y = true) : x = y := by
  unfold eqPlain at h
  split at h <;> simp_all
  rename_i a b
  cases a; cases b; simp_all
theorem eqPlains_eq : ∀ {xs ys : List Value}, eqPlains xs ys = true → xs = ys
  | [], [], _ => rfl
  | [], _ :: _, h => by simp [eqPlains] at h
  | _ :: _, [], h => by simp [eqPlains] at h
  | x :: xs, y :: ys, h => by
    simp only [eqPlains, Bool.and_eq_true] at h
    rw [eqPlain_eq h.1, eqPlains_eq h.2]

mutual
theorem zFlat_VR (e : Env) : ∀ (z : A) (cs : List Value), zFlat z = some cs → VR z e cs []
  | .v x, cs, h => by
    simp only [zFlat] at h
    split at h
    · rename_i hp; simp at h; subst h; simp [VR, hp]
    · simp at h
  | .agg xs, cs, h => by simp only [zFlat] at h; simp only [VR]; exact zFlats_VRs e xs cs h
  | .arr tot xs, cs, h => by
    simp only [zFlat] at h
    cases hx : zFlats xs with
    | none => simp [hx] at h
    | some vs =>
      simp only [hx, Option.bind_some] at h
      split at h
      · rename_i hc
        injection h with h
        subst h
        simp only [VR]
        refine ⟨hc.1, ⟨(xs.head?.map A.sz).getD 0, fun x hx' => ?_⟩, zFlats_VRs _ xs vs hx⟩
        have := List.all_eq_true.1 hc.2 x hx'
        exact eq_of_beq this
      · simp at h
  | .osl s [], cs, h => by
    simp only [zFlat] at h
    split at h
    · rename_i hs
      injection h with h
      subst h
      simp only [VR]
      exact ⟨hs, by simp, .inl ⟨trivial, trivial, trivial⟩⟩
    · simp at h
  | .osl s (x :: xs), cs, h => by simp [zFlat] at h
  | .und, cs, h => by simp [zFlat] at h
  | .sl true [], cs, h => by
    simp only [zFlat] at h
    injection h with h
    subst h
    simp only [VR]
    refine ⟨?_, none, 0, [], ?_, ?_, ⟨0, ?_⟩, ?_, fun h => absurd rfl h⟩ <;> simp [VRs]
  | .sl true (_ :: _), cs, h => by simp [zFlat] at h
  | .sl false _, cs, h => by simp [zFlat] at h
  | .rp .., cs, h => by simp [zFlat] at h
  | .box .., cs, h => by simp [zFlat] at h
  | .ref .., cs, h => by simp [zFlat] at h
  | .aref .., cs, h => by simp [zFlat] at h
  | .ptr .., cs, h => by simp [zFlat] at h
  | .clo .., cs, h => by simp [zFlat] at h
  | .ifc .., cs, h => by simp [zFlat] at h
  | .tup .., cs, h => by simp [zFlat] at h
  | .mp .., cs, h => by simp [zFlat] at h
  | .mref .., cs, h => by simp [zFlat] at h
theorem zFlats_VRs (e : Env) : ∀ (zs : List A) (cs : List Value), zFlats zs = some cs → VRs zs e cs []
  | [], cs, h => by simp [zFlats] at h; subst h; simp [VRs]
  | z :: zs, cs, h => by
    simp only [zFlats] at h
    split at h
    · rename_i a b h1 h2
      injection h with h
      subst h
      have := VRs_cons (zFlat_VR e z a h1) (zFlats_VRs e zs b h2)
      simpa using this
    · simp at h
end

theorem tZero_some {t : TypeId} {z : A} (h : tZero P t = some z) : ∃ v, (∀ w, (zeroValue t).run P w = .ok v w) ∧ (∀ e, VR z e v.cells.toList []) := by
  unfold tZero at h
  split at h
  · rename_i z' v h1 h2
    split at h
    · rename_i cs h3
      split at h
      · rename_i h4
        injection h with h
        subst h
        refine ⟨v, fun w => ?_, fun e => ?_⟩
        · cases hi : P.info? t with
          | none => simp [hi] at h2
          | some i =>
            simp only [hi, Option.bind_some] at h2
            simp [zeroValue, typeInfo, hi, h2]
        · rw [← eqPlains_eq h4]; exact zFlat_VR e _ _ h3
      · simp at h
    · simp at h
  · simp at h

theorem TV_new {n : Nat} {e : Env} {g : Nat} (hi : e.ids n = true) (hl : e.loc n = some (some g)) : TV (.ptr n []) e (.pointer (some ⟨g, 0, none⟩)) := by
  rw [TV_good rfl, VV_mk rfl]
  simp only [VR]
  exact ⟨trivial, hi, ⟨g, 0, none⟩, rfl, fun l hl' => ⟨g, by rw [hl] at hl'; injection hl' with h; exact h.symm, rfl⟩⟩

theorem done_var {o : Oper} {n : Nat} {z : A} {cs : Array Value} {ty : TypeId} (R : RelW c st a w loc S Fm) (hn : st.ids n = false) (hz : VR z (envOf c st w loc S) cs.toList [])
    (h : (execOp a.eval o).run P w = .ok (.value (.pointer (some ⟨w.heap.size, 0, none⟩))) (w.alloc (.cells cs ty))) :
    Done P c (st.app ⟨.ptr n [], [(n, some (.var z))], [n]⟩) a o w (.ptr n []) := by
  refine ⟨_, _, _, _, _, _, h, .inl rfl, R.alloc hn (.var z) cs ty w rfl rfl rfl rfl _ fun e he hl hle hB => ?_, ?_⟩
  · refine ⟨w.heap.size, cs, ty, [], hl, by rw [he]; exact heap_alloc_new w _, VR_mono _ _ _ _ _ hle hz, rfl⟩
  · exact TV_new (by simp [envOf, St.app]) (by simp [envOf])

theorem alloc_sound {o : Oper} {t : TypeId} {n : Nat} {z : A} (ho : o.op = .alloc t) (R : RelW c st a w loc S Fm) (hn : st.ids n = false) (hz : tZero P t = some z) :
    Done P c (st.app ⟨.ptr n [], [(n, some (.var z))], [n]⟩) a o w (.ptr n []) := by
  obtain ⟨v, h1, h2⟩ := tZero_some hz
  refine done_var R hn (h2 _) ?_ (ty := t)
  simp [execOp, ho, Instr.alloc, h1, newVar, newRow]

theorem box_sound {o : Oper} {t : TypeId} {x : Operand} {n : Nat} {z : A} (ho : o.op = .box t x) (R : RelW c st a w loc S Fm) (hn : st.ids n = false) (hg : z.good = true)
    (hx : TV z (envOf c st w loc S) (a.eval x)) : Done P c (st.app ⟨.ptr n [], [(n, some (.var z))], [n]⟩) a o w (.ptr n []) := by
  rw [TV_good hg] at hx
  refine done_var R hn (VV_cells hx).1 ?_ (ty := t)
  simp [execOp, ho, Instr.box, newVar, newRow]

/-! rows -/
theorem tSlice_some {t e : TypeId} {s : Nat} (h : tSlice P t = some (e, s)) : P.underlying t = some (.slice e) ∧ tSize P e = some s := by
  unfold tSlice at h
  split at h
  · rename_i e' hu
    cases hi : P.info? e' with
    | none => simp [hi] at h
    | some i =>
      simp [hi] at h
      obtain ⟨rfl, rfl⟩ := h
      exact ⟨hu, by simp [tSize, hi]⟩
  · simp at h

theorem TV_newRow {n s len : Nat} {e : Env} {g k : Nat} {ty : TypeId} {cs : Array Value} (hi : e.ids n = true) (hl : e.loc n = some (some g)) (hk : len ≤ k)
    (hg : e.w.heap[g]? = some (.cells cs ty (0, 0))) (hs : cs.size = k * s) :
    TV (.ref n s 0 len false) e (.slice (some ⟨g, 0, none⟩) len k) := by
  rw [TV_good rfl, VV_mk rfl]
  simp only [VR]
  refine ⟨trivial, hi, some ⟨g, 0, none⟩, k, rfl, hk, fun _ => ⟨_, rfl⟩, by simp, fun l hl' => ?_⟩
  rw [hl] at hl'
  injection hl' with h
  subst h
  exact .inr ⟨by simp, fun _ => by rw [shape_cells hg]; simp [hs]⟩

theorem done_row {o : Oper} {n s k : Nat} {xs : List A} {cs : Array Value} {ty : TypeId} {w1 : World} {us : List Value} (R : RelW c st a w loc S Fm) (hn : st.ids n = false)
    (hw : w1.heap = w.heap) (hos : w1.os = w.os) (ht : w1.tape = w.tape) (hout : w1.output = w.output)
    (hs : 0 < s) (hsz : ∀ x ∈ xs, x.sz = s) (hxs : VRs xs (envOf c st w loc S) us []) (hk : xs.length ≤ k) (hm : k ≤ maxLen) (hcs : cs.size = k * s) (htake : cs.toList.take us.length = us)
    (h : (execOp a.eval o).run P w = .ok (.value (.slice (some ⟨w.heap.size, 0, none⟩) xs.length k)) (w1.alloc (.cells cs ty))) :
    Done P c (st.app ⟨.ref n s 0 xs.length false, [(n, some (.row s xs))], [n]⟩) a o w (.ref n s 0 xs.length false) := by
  have hnew : (w1.alloc (.cells cs ty)).heap[w.heap.size]? = some (.cells cs ty (0, 0)) := by rw [← hw]; exact heap_alloc_new w1 _
  refine ⟨_, _, _, _, _, _, h, .inl rfl, R.alloc hn (.row s xs) cs ty w1 hw hos ht hout _ fun e he hl hle hB => ?_, ?_⟩
  · exact ⟨hs, hsz, .inr ⟨w.heap.size, cs, ty, k, us, [], hl, hk, hm, by rw [he]; exact hnew, hcs, VRs_mono _ _ _ _ _ hle hxs, htake, rfl⟩⟩
  · exact TV_newRow (by simp [envOf, St.app]) (by simp [envOf]) hk hnew hcs

end
end Go.PA

/- PA14: addresses, parts, slices. -/
namespace Go.PA
section
variable {P : Program} {c : Ctx} {st : St} {a : Act} {w : World} {loc : Nat → Option (Option Nat)} {S : Nat → Prop} {Fm : Nat → List Nat}

theorem offP_append (p q : List PS) : offP (p ++ q) = offP p + offP q := by
  induction p with
  | nil => simp [offP]
  | cons x p ih => simp [offP, ih]; omega

theorem TV_mkptr {d : Nat} {p : List PS} {e : Env} {ad : Addr} (hi : e.ids d = true) (h : ∀ l, e.loc d = some l → ∃ g, l = some g ∧ ad = ⟨g, offP p, none⟩) : TV (.ptr d p) e (.pointer (some ad)) := by
  rw [TV_good rfl, VV_mk rfl]
  simp only [VR]
  exact ⟨trivial, hi, ad, rfl, h⟩

theorem tFld_some {t ft : TypeId} {k off fs : Nat} (h : tFld P t k = some (off, ft, fs)) : ∃ fields f, P.underlying t = some (.struct fields) ∧ fields[k]? = some f ∧ f.offset = off ∧ f.type = ft ∧ tSize P ft = some fs := by
  unfold tFld at h
  split at h
  · rename_i fields hu
    cases hf : fields[k]? with
    | none => simp [hf] at h
    | some f =>
      simp only [hf, Option.bind_some] at h
      cases hi : P.info? f.type with
      | none => simp [hi] at h
      | some i =>
        simp only [hi, Option.map_some, Option.some.injEq, Prod.mk.injEq] at h
        obtain ⟨h1, h2, h3⟩ := h
        exact ⟨fields, f, hu, hf, h1, h2, by simp [tSize, ← h2, hi, h3]⟩
  · simp at h

theorem exec_fieldAddr {o : Oper} {t ft : TypeId} {x : Operand} {k off fs : Nat} {ad : Addr} (ho : o.op = .fieldAddr t x k) (ht : tFld P t k = some (off, ft, fs)) (hfs : fs ≠ 0) (hx : a.eval x = .pointer (some ad)) :
    (execOp a.eval o).run P w = .ok (.value (.pointer (some (ad.add off)))) w := by
  obtain ⟨fields, f, hu, hf, rfl, rfl, hsz⟩ := tFld_some ht
  simp [execOp, ho, hx, Instr.fieldAt, run_underlying hu, hf, Instr.sureAddr, fieldPlace, run_sizeOf hsz, hfs]

theorem aFieldAddr_sound {o : Oper} {t : TypeId} {x : Operand} {k : Nat} {p : A} {eff : Eff} {l : List Nat} (ho : o.op = .fieldAddr t x k) (R : RelW c st a w loc S Fm)
    (hx : TV p (envOf c st w loc S) (a.eval x)) (r : RM.Runs st.bk (aFieldAddr P t p k) eff l) : Done P c (st.app eff) a o w eff.val := by
  unfold aFieldAddr at r
  split at r
  · rename_i off ft fs ht
    split at r
    · exact (runs_fail r).elim
    · rename_i hfs
      split at r
      · rename_i d ps
        obtain ⟨hid, ad, hy, hloc⟩ := TV_ptr hx
        refine done_effV R r (exec_fieldAddr ho ht hfs hy) (TV_mkptr hid fun l hl => ?_)
        obtain ⟨g, h1, rfl⟩ := hloc l hl
        exact ⟨g, h1, by rw [add_cell, offP_append]; simp [offP, PS.off]⟩
      · rename_i q xs
        split at r
        · rename_i y hy
          split at r
          · rename_i hoff
            rw [TV_good rfl, VV_mk rfl] at hx
            simp only [VR] at hx
            obtain ⟨_, ad, us, hv, hok, hz, hcell⟩ := hx
            injection hv with hv
            obtain ⟨pre, u1, post, F1, Fx, F2, rfl, e2, h1, h2, _⟩ := VRs_at xs _ us [] k y hz hy
            simp at e2
            obtain ⟨rfl, rfl, rfl⟩ := e2
            refine done_effV R r (exec_fieldAddr ho ht hfs hv) ?_
            rw [TV_good rfl, VV_mk rfl]
            simp only [VR]
            refine ⟨trivial, ad.add off, u1, rfl, by rw [block_add]; exact hok, h2, fun j u hu => ?_⟩
            have hadd : (ad.add off).add j = ad.add (off + j) := by
              unfold Addr.add
              by_cases h0 : off = 0 <;> by_cases h00 : j = 0 <;> simp [h0, h00, Nat.add_assoc]
            rw [hadd]
            refine hcell (off + j) u ?_
            have hj : j < u1.length := (List.getElem?_eq_some_iff.1 hu).1
            rw [← hoff, ← h1, List.append_assoc, List.getElem?_append_right (by omega), show pre.length + j - pre.length = j by omega, List.getElem?_append_left hj]
            exact hu
          · exact (runs_fail r).elim
        · exact (runs_fail r).elim
      · exact (runs_fail r).elim
  · exact (runs_fail r).elim

theorem addr_add_add (ad : Addr) (i j : Nat) : (ad.add i).add j = ad.add (i + j) := by
  unfold Addr.add
  by_cases h0 : i = 0 <;> by_cases h00 : j = 0 <;> simp [h0, h00, Nat.add_assoc]

/-- A part of a read-only thing. -/
theorem TV_rp {q : Bool} {e : Env} {ad : Addr} {off : Nat} {us pre u1 post : List Value} {y : A} (hok : e.ok q ad.block) (hus : us = pre ++ u1 ++ post) (hp : pre.length = off)
    (hcell : ∀ j u, us[j]? = some u → e.w.cell? (ad.add j) = some u) (h : VR y (e.cl q) u1 []) : TV (.rp q y) e (.pointer (some (ad.add off))) := by
  rw [TV_good rfl, VV_mk rfl]
  simp only [VR]
  refine ⟨trivial, ad.add off, u1, rfl, by rw [block_add]; exact hok, h, fun j u hu => ?_⟩
  rw [addr_add_add]
  refine hcell (off + j) u ?_
  have hj : j < u1.length := (List.getElem?_eq_some_iff.1 hu).1
  rw [hus, ← hp, List.append_assoc, List.getElem?_append_right (by omega), show pre.length + j - pre.length = j by omega, List.getElem?_append_left hj]
  exact hu

theorem part_run {t : TypeId} {x : A} {e : Env} {cs : Array Value} {pre us post : List Value} {off : Nat} (hcs : cs.toList = pre ++ us ++ post) (hp : pre.length = off) (hx : VR x e us [])
    (hs : tSize P t = some x.sz) (ha : tAgg P t = some x.isAgg) : ∃ y, (part t cs off).run P w = .ok y w ∧ VV x e y [] := by
  have hl := VR_len _ _ _ _ hx
  cases hag : x.isAgg with
  | true =>
    rw [hag] at ha
    refine ⟨.agg us.toArray, ?_, (VV_mk_agg hag).2 ⟨_, rfl, by simpa using hx⟩⟩
    simp only [part, Sem.run_bind, run_isAgg ha, Result.andThen_ok, if_true, run_sizeOf hs, Sem.run_pure]
    congr 2
    apply Array.toList_inj.1
    simp [Array.toList_extract, hcs, ← hp, ← hl]
  | false =>
    rw [hag] at ha
    have h1 : us.length = 1 := by
      rw [hl]
      cases x <;> simp_all [A.isAgg, A.sz, VR]
    obtain ⟨u, rfl⟩ : ∃ u, us = [u] := List.length_eq_one_iff.1 h1
    refine ⟨u, ?_, (VV_mk hag).2 hx⟩
    have hget : cs[off]? = some u := by
      rw [← Array.getElem?_toList, hcs, ← hp]
      simp
    simp [part, run_isAgg ha, hget]

theorem aField_sound {o : Oper} {t : TypeId} {x : Operand} {k : Nat} {p : A} {eff : Eff} {l : List Nat} (ho : o.op = .field t x k) (R : RelW c st a w loc S Fm)
    (hx : TV p (envOf c st w loc S) (a.eval x)) (r : RM.Runs st.bk (aField P t p k) eff l) : Done P c (st.app eff) a o w eff.val := by
  unfold aField at r
  split at r
  · rename_i off ft fs xs ht
    split at r
    · rename_i y hy
      split at r
      · rename_i hoff
        obtain ⟨y2, l1, l2, r1, r2, _⟩ := RM.runs_bind r
        have := shaped_eq r1; subst this
        split at r2
        · rename_i hag
          rw [TV_good rfl, VV_mk_agg rfl] at hx
          obtain ⟨cs, hv, hx⟩ := hx
          simp only [VR] at hx
          obtain ⟨pre, u1, post, F1, Fx, F2, e1, e2, h1, h2, _⟩ := VRs_at xs _ _ [] k _ hx hy
          simp at e2
          obtain ⟨rfl, rfl, rfl⟩ := e2
          obtain ⟨fields, f, hu, hf, rfl, rfl, hsz⟩ := tFld_some ht
          obtain ⟨z, hr, hz⟩ := part_run (P := P) (w := w) e1 (h1.trans hoff.1) h2 (by rw [hoff.2]; exact hsz) hag
          refine done_effV R r2 ?_ (VV_TV hz)
          simp [execOp, ho, hv, Instr.field, run_underlying hu, hf, asAgg, hr]
        · exact (runs_fail r2).elim
      · exact (runs_fail r).elim
    · exact (runs_fail r).elim
  · exact (runs_fail r).elim

theorem aLen_sound {o : Oper} {k : Call} {x : Operand} {p : A} {eff : Eff} {l : List Nat} (ho : o.op = .call k) (hk : k.callee = .builtin .len) (hargs : k.args = #[x]) (R : RelW c st a w loc S Fm)
    (hx : TV p (envOf c st w loc S) (a.eval x)) {t : TypeId} (hT : k.argTypes[0]? = some t) (r : RM.Runs st.bk (aLen P t p) eff l) : Done P c (st.app eff) a o w eff.val := by
  have hexec : ∀ y, (Builtin.len_ k.argTypes o.type #[a.eval x]).run P w = .ok y w → (execOp a.eval o).run P w = .ok (.value y) w := by
    intro y hy
    simp only [execOp, ho, resolve, hk, hargs, invoke, builtin, Sem.run_bind, Sem.run_pure, Result.andThen_ok, List.map_toArray, List.map_cons, List.map_nil, hy]
  unfold aLen at r
  split at r
  · rename_i s hu
    rw [TV_v] at hx
    refine done_effV R r (hexec _ ?_) (by rw [TV_v]; exact ⟨rfl, rfl⟩)
    simp [Builtin.len_, hT, hx.2, run_underlying hu, goInt]
  · rename_i n e hu
    refine done_effV R r (hexec _ ?_) (by rw [TV_v]; exact ⟨rfl, rfl⟩)
    simp [Builtin.len_, hT, run_underlying hu, goInt]
  · rename_i e q xs hu
    rw [TV_good rfl, VV_mk rfl] at hx
    simp only [VR] at hx
    obtain ⟨_, b, k', us, hv, _⟩ := hx
    injection hv with hv
    refine done_effV R r (hexec _ ?_) (by rw [TV_v]; exact ⟨rfl, rfl⟩)
    simp [Builtin.len_, hT, hv, run_underlying hu, goInt]
  · rename_i e s xs hu
    rw [TV_good rfl, VV_mk rfl] at hx
    simp only [VR] at hx
    refine done_effV R r (hexec (.int .i64 xs.length) ?_) (by rw [TV_v]; exact ⟨rfl, rfl⟩)
    rcases hx with ⟨_, _, ⟨h1, h2, _⟩ | ⟨g, cs, ty, k', us, Fx, h2, _⟩⟩
    · injection h2 with h2
      simp [Builtin.len_, hT, h2, run_underlying hu, goInt, h1]
    · injection h2 with h2
      simp [Builtin.len_, hT, h2, run_underlying hu, goInt]
  · rename_i e d s off len full hu
    rw [TV_good rfl, VV_mk rfl] at hx
    simp only [VR] at hx
    obtain ⟨_, _, b, k', hv, _⟩ := hx
    injection hv with hv
    refine done_effV R r (hexec _ ?_) (by rw [TV_v]; exact ⟨rfl, rfl⟩)
    simp [Builtin.len_, hT, hv, run_underlying hu, goInt]
  · rename_i e d p' s off len hu
    rw [TV_good rfl, VV_mk rfl] at hx
    simp only [VR] at hx
    obtain ⟨_, _, b, k', hv, _⟩ := hx
    injection hv with hv
    refine done_effV R r (hexec _ ?_) (by rw [TV_v]; exact ⟨rfl, rfl⟩)
    simp [Builtin.len_, hT, hv, run_underlying hu, goInt]
  · exact (runs_fail r).elim

end
end Go.PA

/- PA15: indexes, slices of slices. -/
namespace Go.PA
section
variable {P : Program} {c : Ctx} {st : St} {a : Act} {w : World} {loc : Nat → Option (Option Nat)} {S : Nat → Prop} {Fm : Nat → List Nat}

theorem tArr_some {t e : TypeId} {n s : Nat} (h : tArr P t = some (n, e, s)) : P.underlying t = some (.array n e) ∧ tSize P e = some s := by
  unfold tArr at h
  split at h
  · rename_i n' e' hu
    cases hi : P.info? e' with
    | none => simp [hi] at h
    | some i =>
      simp only [hi, Option.map_some, Option.some.injEq, Prod.mk.injEq] at h
      obtain ⟨rfl, rfl, rfl⟩ := h
      exact ⟨hu, by simp [tSize, hi]⟩
  · simp at h
theorem tSlice_arr {t : TypeId} {r : Nat × TypeId × Nat} (h : tArr P t = some r) : tSlice P t = none := by
  unfold tArr at h
  unfold tSlice
  split at h
  · rename_i n' e' hu; simp [hu]
  · simp at h

theorem run_asIntOf {k : IntKind} {n : Int} : (asIntOf (.int k n)).run P w = .ok (k, n) w := rfl

theorem exec_indexAddr_slice {o : Oper} {t e : TypeId} {x i : Operand} {s len cap : Nat} {k : IntKind} {n : Int} {ad : Addr} (ho : o.op = .indexAddr t x i) (ht : tSlice P t = some (e, s))
    (hx : a.eval x = .slice (some ad) len cap) (hi : a.eval i = .int k n) (h0 : 0 ≤ n) (h1 : n < len) : (execOp a.eval o).run P w = .ok (.value (.pointer (some (ad.add (n.toNat * s))))) w := by
  obtain ⟨hu, hs⟩ := tSlice_some ht
  have hc : 0 ≤ n ∧ n < (len : Int) := ⟨h0, h1⟩
  simp [execOp, ho, hx, hi, Instr.indexAt, run_asIntOf, run_underlying hu, hc, run_sizeOf hs]

theorem exec_indexAddr_arr {o : Oper} {t e : TypeId} {x i : Operand} {s len : Nat} {k : IntKind} {n : Int} {ad : Addr} (ho : o.op = .indexAddr t x i) (ht : tArr P t = some (len, e, s))
    (hx : a.eval x = .pointer (some ad)) (hi : a.eval i = .int k n) (h0 : 0 ≤ n) (h1 : n < len) : (execOp a.eval o).run P w = .ok (.value (.pointer (some (ad.add (n.toNat * s))))) w := by
  obtain ⟨hu, hs⟩ := tArr_some ht
  have hc : 0 ≤ n ∧ n < (len : Int) := ⟨h0, h1⟩
  simp [execOp, ho, hx, hi, Instr.indexAt, run_asIntOf, run_underlying hu, hc, run_sizeOf hs, Instr.sureAddr]

theorem aIndexAddr_sound {o : Oper} {t : TypeId} {x i : Operand} {p : A} {k : IntKind} {n : Int} {eff : Eff} {l : List Nat} (ho : o.op = .indexAddr t x i) (R : RelW c st a w loc S Fm)
    (hx : TV p (envOf c st w loc S) (a.eval x)) (hi : a.eval i = .int k n) (r : RM.Runs st.bk (aIndexAddr P t p n) eff l) : Done P c (st.app eff) a o w eff.val := by
  unfold aIndexAddr at r
  split at r
  · rename_i e es d s off len full ht
    split at r
    · rename_i hs
      subst hs
      obtain ⟨⟨h0, h1⟩, r⟩ := runs_req r
      rw [TV_good rfl, VV_mk rfl] at hx
      simp only [VR] at hx
      obtain ⟨_, hid, b, k', hv, h2, hne, h3, h4⟩ := hx
      injection hv with hv
      obtain ⟨ad, rfl⟩ := hne (by omega)
      refine done_effV R r (exec_indexAddr_slice ho ht hv hi h0 h1) (TV_mkptr hid fun l hl => ?_)
      have := h4 l hl
      cases l with
      | none => simp at this
      | some g =>
        rcases this with ⟨h5, h6⟩ | ⟨h5, h6⟩
        · omega
        · injection h5 with h5
          exact ⟨g, rfl, by rw [h5, add_cell]; simp [offP, PS.off, Nat.add_mul]⟩
    · exact (runs_fail r).elim
  · rename_i e es d p' s off len ht
    split at r
    · rename_i hs
      subst hs
      obtain ⟨⟨h0, h1⟩, r⟩ := runs_req r
      rw [TV_good rfl, VV_mk rfl] at hx
      simp only [VR] at hx
      obtain ⟨_, hid, b, k', hv, h2, hne, h4⟩ := hx
      injection hv with hv
      obtain ⟨ad, rfl⟩ := hne (by omega)
      refine done_effV R r (exec_indexAddr_slice ho ht hv hi h0 h1) (TV_mkptr hid fun l hl => ?_)
      obtain ⟨g, rfl, ⟨h5, h6⟩ | h5⟩ := h4 l hl
      · omega
      · injection h5 with h5
        exact ⟨g, rfl, by rw [h5, add_cell, offP_append]; simp [offP, PS.off, Nat.add_mul]; omega⟩
    · exact (runs_fail r).elim
  · rename_i e es q xs ht
    obtain ⟨⟨h0, h1, h2⟩, r⟩ := runs_req r
    obtain ⟨y, hy, hys, hyd, hyl⟩ := szAt_elim h2
    rw [hyd] at r
    rw [TV_good rfl, VV_mk rfl] at hx
    simp only [VR] at hx
    obtain ⟨_, b, k', us, hv, h3, ⟨s', hss⟩, h5, h6⟩ := hx
    injection hv with hv
    obtain ⟨ad, rfl, hok, hcell⟩ := h6 (by intro h; subst h; simp at hyl)
    refine done_effV R r (exec_indexAddr_slice ho ht hv hi h0 h1) ?_
    obtain ⟨pre, u1, post, F1, Fx, F2, e1, e2, h7, h8, _⟩ := VRs_at xs _ _ [] _ _ h5 hy
    simp at e2
    obtain ⟨rfl, rfl, rfl⟩ := e2
    have hs' : s' = es := by rw [← hys]; exact (hss y (List.mem_of_getElem? hy)).symm
    subst hs'
    rw [szs_take_const hss (Nat.le_of_lt hyl)] at h7
    exact TV_rp hok e1 h7 hcell h8
  · split at r
    · rename_i len e es d p' ht
      obtain ⟨⟨h0, h1⟩, r⟩ := runs_req r
      obtain ⟨hid, ad, hy, hloc⟩ := TV_ptr hx
      refine done_effV R r (exec_indexAddr_arr ho ht hy hi h0 h1) (TV_mkptr hid fun l hl => ?_)
      obtain ⟨g, h1, rfl⟩ := hloc l hl
      exact ⟨g, h1, by rw [add_cell, offP_append]; simp [offP, PS.off]⟩
    · rename_i len e es q tot xs ht
      obtain ⟨⟨h0, h1, h2⟩, r⟩ := runs_req r
      obtain ⟨y, hy, hys, hyd, hyl⟩ := szAt_elim h2
      rw [hyd] at r
      rw [TV_good rfl, VV_mk rfl] at hx
      simp only [VR] at hx
      obtain ⟨_, ad, us, hv, hok, ⟨h3, ⟨s', hss⟩, h5⟩, hcell⟩ := hx
      injection hv with hv
      refine done_effV R r (exec_indexAddr_arr ho ht hv hi h0 h1) ?_
      obtain ⟨pre, u1, post, F1, Fx, F2, e1, e2, h7, h8, _⟩ := VRs_at xs _ _ [] _ _ h5 hy
      simp at e2
      obtain ⟨rfl, rfl, rfl⟩ := e2
      have hs' : s' = es := by rw [← hys]; exact (hss y (List.mem_of_getElem? hy)).symm
      subst hs'
      rw [szs_take_const hss (Nat.le_of_lt hyl)] at h7
      refine TV_rp hok e1 h7 hcell ?_
      cases q
      · exact VR_mono _ _ _ _ _ (Env.shut_le _ _) h8
      · exact h8
    · exact (runs_fail r).elim
  · exact (runs_fail r).elim

theorem aIndex_sound {o : Oper} {t : TypeId} {x i : Operand} {p : A} {k : IntKind} {n : Int} {eff : Eff} {l : List Nat} (ho : o.op = .index t x i) (R : RelW c st a w loc S Fm)
    (hx : TV p (envOf c st w loc S) (a.eval x)) (hi : a.eval i = .int k n) (r : RM.Runs st.bk (aIndex P t p n) eff l) : Done P c (st.app eff) a o w eff.val := by
  unfold aIndex at r
  split at r
  · rename_i tot xs
    split at r
    · rename_i len e es ht
      obtain ⟨⟨h0, h1, h2⟩, r⟩ := runs_req r
      obtain ⟨y, hy, hys, hyd, hyl⟩ := szAt_elim h2
      rw [hyd] at r
      obtain ⟨y2, l1, l2, r1, r2, _⟩ := RM.runs_bind r
      have := shaped_eq r1; subst this
      split at r2
      · rename_i hag
        rw [TV_good rfl, VV_mk_agg rfl] at hx
        obtain ⟨cs, hv, hx⟩ := hx
        simp only [VR] at hx
        obtain ⟨h3, ⟨s', hss⟩, h5⟩ := hx
        obtain ⟨pre, u1, post, F1, Fx, F2, e1, e2, h7, h8, _⟩ := VRs_at xs _ _ [] _ _ h5 hy
        simp at e2
        obtain ⟨rfl, rfl, rfl⟩ := e2
        have hs' : s' = es := by rw [← hys]; exact (hss _ (List.mem_of_getElem? hy)).symm
        subst hs'
        rw [szs_take_const hss (Nat.le_of_lt hyl)] at h7
        obtain ⟨hu, hs⟩ := tArr_some ht
        obtain ⟨z, hr, hz⟩ := part_run (P := P) (w := w) e1 h7 (VR_open h8) (by rw [hys]; exact hs) hag
        have hc : 0 ≤ n ∧ n < (len : Int) := ⟨h0, h1⟩
        refine done_effV R r2 ?_ (VV_TV hz)
        simp [execOp, ho, hv, hi, Instr.index, run_asIntOf, run_underlying hu, hc, run_sizeOf hs, hr]
      · exact (runs_fail r2).elim
    · exact (runs_fail r).elim
  · rename_i s
    split at r
    · rename_i hu
      obtain ⟨⟨h0, h1⟩, r⟩ := runs_req r
      rw [TV_v] at hx
      refine done_effV R r ?_ (by rw [TV_v]; exact ⟨rfl, rfl⟩)
      have hlt : n.toNat < s.size := by omega
      have hget : s[n.toNat]? = some (s.data.toList.getD n.toNat 0) := by
        have h2 : s[n.toNat]? = some s[n.toNat] := getElem?_pos s n.toNat hlt
        rw [h2]
        congr 1
        have hl : n.toNat < s.data.toList.length := by simpa using hlt
        rw [List.getD_eq_getElem?_getD, List.getElem?_eq_getElem hl]
        rfl
      simp [execOp, ho, hx.2, hi, Instr.index, run_asIntOf, run_underlying hu, h0, hget]
    · exact (runs_fail r).elim
  · exact (runs_fail r).elim

end
section
variable {P : Program}
theorem fitE_bool {a : A} (h : fitE .bool a) : ∃ b, a = .v (.bool b) := by
  cases a with
  | v x => cases x <;> first | exact ⟨_, rfl⟩ | exact h.elim
  | _ => exact h.elim
theorem fitE_int {k : IntKind} {a : A} (h : fitE (.int k) a) : ∃ n, a = .v (.int k n) := by
  cases a with
  | v x =>
    cases x with
    | int k' n => exact ⟨n, by rw [show k' = k from h]⟩
    | _ => exact h.elim
  | _ => exact h.elim
theorem fitE_ints {n : Nat} {k : IntKind} {a : A} (h : fitE (.ints n k) a) : ∃ xs, a = .arr n xs ∧ intsOk k n xs := by
  cases a with
  | arr m xs =>
    obtain ⟨h1, h2⟩ := h
    exact ⟨xs, by rw [h1], h2⟩
  | _ => exact h.elim
theorem fitE_agg {fs : EqFs} {a : A} (h : fitE (.agg fs) a) : ∃ xs, a = .agg xs ∧ fitEs fs 0 xs := by
  cases a with
  | agg xs => exact ⟨xs, rfl, h⟩
  | _ => exact h.elim
theorem TV_fit {k : EqT} {a : A} {e : Env} {y : Value} (hf : fitE k a) (h : TV a e y) : VV a e y [] := by
  refine (TV_good ?_).1 h
  cases k with
  | bool => obtain ⟨b, rfl⟩ := fitE_bool hf; rfl
  | int k => obtain ⟨b, rfl⟩ := fitE_int hf; rfl
  | ints n k => obtain ⟨b, rfl, _⟩ := fitE_ints hf; rfl
  | agg fs => obtain ⟨b, rfl, _⟩ := fitE_agg hf; rfl
theorem ints_cells {k : IntKind} {e : Env} : ∀ {xs : List A} {us : List Value}, (∀ x ∈ xs, ∃ v, x = .v (.int k v)) → VRs xs e us [] → us.length = xs.length ∧ ∀ (j : Nat) (x : A), xs[j]? = some x → ∃ v, x = .v (.int k v) ∧ us[j]? = some (.int k v)
  | [], us, _, h => by
    simp only [VRs] at h
    obtain ⟨rfl, _⟩ := h
    exact ⟨rfl, fun j x hx => by simp at hx⟩
  | x :: xs, us, hx, h => by
    simp only [VRs] at h
    obtain ⟨u1, u2, F1, F2, rfl, hF, h1, h2⟩ := h
    obtain ⟨rfl, rfl⟩ := List.append_eq_nil_iff.1 hF.symm
    obtain ⟨v, rfl⟩ := hx x (by simp)
    simp only [VR] at h1
    obtain ⟨_, rfl, _⟩ := h1
    obtain ⟨hl, hj⟩ := ints_cells (fun y hy => hx y (by simp [hy])) h2
    refine ⟨by simp [hl], fun j y hy => ?_⟩
    cases j with
    | zero => simp at hy; subst hy; exact ⟨v, rfl, rfl⟩
    | succ j => simpa using hj j y (by simpa using hy)

open Classical in
theorem eqItems_ints {w : World} {e : TypeId} {k k' : IntKind} {d : Nat} (hu : P.underlying e = some (.int k')) (cs cs' : Array Value) (xs ys : List A) (hl : xs.length = ys.length)
    (hx : ∀ (j : Nat) (x : A), xs[j]? = some x → ∃ v, x = .v (.int k v) ∧ cs[j]? = some (.int k v)) (hy : ∀ (j : Nat) (x : A), ys[j]? = some x → ∃ v, x = .v (.int k v) ∧ cs'[j]? = some (.int k v)) :
    ∀ (m j : Nat), j + m = xs.length → (Op.eqItems (d + 1) e 1 cs cs' (List.range' j m)).run P w = .ok (decide (xs.drop j = ys.drop j)) w := by
  have hag : tAgg P e = some false := by simp [tAgg, hu]
  intro m
  induction m with
  | zero =>
    intro j hj
    have h1 : xs.drop j = [] := List.drop_eq_nil_of_le (by omega)
    have h2 : ys.drop j = [] := List.drop_eq_nil_of_le (by omega)
    simp [Op.eqItems, h1, h2]
  | succ m ih =>
    intro j hj
    have hlt : j < xs.length := by omega
    obtain ⟨v, hv, hc⟩ := hx j _ (List.getElem?_eq_getElem hlt)
    obtain ⟨v', hv', hc'⟩ := hy j _ (List.getElem?_eq_getElem (by omega))
    have p1 : (part e cs (j * 1)).run P w = .ok (.int k v) w := by simp [part, run_isAgg hag, hc]
    have p2 : (part e cs' (j * 1)).run P w = .ok (.int k v') w := by simp [part, run_isAgg hag, hc']
    simp only [List.range'_succ, Op.eqItems, Sem.run_bind, p1, p2, Result.andThen_ok, run_equalIn_int w d e k k' v v' hu]
    have d1 : xs.drop j = .v (.int k v) :: xs.drop (j + 1) := by rw [List.drop_eq_getElem_cons hlt, hv]
    have d2 : ys.drop j = .v (.int k v') :: ys.drop (j + 1) := by rw [List.drop_eq_getElem_cons (by omega), hv']
    by_cases hvv : v = v'
    · subst hvv
      simp only [beq_self_eq_true, Bool.not_true, Bool.false_eq_true, if_false]
      rw [ih (j + 1) (by omega), d1, d2]
      simp
    · have : (v == v') = false := by simpa using hvv
      simp only [this, Bool.not_false, if_true, Sem.run_pure]
      rw [d1, d2]
      simp [hvv]

theorem cellsOf_size {e : TypeId} {s : Nat} (h : tSize P e = some s) : P.cellsOf e = s := by
  obtain ⟨i, hi, rfl⟩ := tSize_some h
  simp [Program.cellsOf, hi]

def EqOk (P : Program) (f : TypeId → Option EqT) (D : Nat) : Prop := ∀ (t : TypeId) (k : EqT), f t = some k → ∀ (a b : A) (x y : Value) (e1 e2 : Env) (w : World), fitE k a → fitE k b → VV a e1 x [] → VV b e2 y [] →
  (Op.equalIn D t x y).run P w = .ok (@decide (a = b) (Classical.propDecidable _)) w

open Classical in
theorem eqFields_fit {f : TypeId → Option EqT} {D : Nat} (IH : EqOk P f D) {w : World} (cs cs' : Array Value) {e1 e2 : Env} : ∀ (fl : List Field) (k : EqFs) (o : Nat) (xs ys : List A) (pre us pre' us' : List Value), eqTs P f fl = some k →
    fitEs k o xs → fitEs k o ys → cs.toList = pre ++ us → pre.length = o → VRs xs e1 us [] → cs'.toList = pre' ++ us' → pre'.length = o → VRs ys e2 us' [] →
    (Op.eqFields D cs cs' fl).run P w = .ok (decide (xs = ys)) w
  | [], k, o, xs, ys, pre, us, pre', us', hk, h1, h2, _, _, _, _, _, _ => by
    simp only [eqTs, Option.some.injEq] at hk
    subst hk
    cases xs <;> simp only [fitEs] at h1
    cases ys <;> simp only [fitEs] at h2
    simp [Op.eqFields]
  | g :: fl, k, o, xs, ys, pre, us, pre', us', hk, h1, h2, c1, l1, v1, c2, l2, v2 => by
    simp only [eqTs] at hk
    split at hk
    · cases hk
    · rename_i hname
      split at hk
      · rename_i k1 s ag r hf hs hag hr
        injection hk with hk
        subst hk
        cases xs with
        | nil => simp only [fitEs] at h1
        | cons x xs =>
          cases ys with
          | nil => simp only [fitEs] at h2
          | cons y ys =>
            simp only [fitEs] at h1 h2
            obtain ⟨⟨ho, hxs, hxa⟩, hx, hxr⟩ := h1
            obtain ⟨⟨_, hys, hya⟩, hy, hyr⟩ := h2
            simp only [VRs] at v1 v2
            obtain ⟨u1, u2, F1, F2, rfl, hF, v11, v12⟩ := v1
            obtain ⟨rfl, rfl⟩ := List.append_eq_nil_iff.1 hF.symm
            obtain ⟨t1, t2, G1, G2, rfl, hG, v21, v22⟩ := v2
            obtain ⟨rfl, rfl⟩ := List.append_eq_nil_iff.1 hG.symm
            obtain ⟨z1, p1, q1⟩ := part_run (P := P) (w := w) (t := g.type) (off := g.offset) (cs := cs) (pre := pre) (us := u1) (post := u2) (by rw [c1, List.append_assoc]) (by omega) v11 (by rw [hs, hxs]) (by rw [hag, hxa])
            obtain ⟨z2, p2, q2⟩ := part_run (P := P) (w := w) (t := g.type) (off := g.offset) (cs := cs') (pre := pre') (us := t1) (post := t2) (by rw [c2, List.append_assoc]) (by omega) v21 (by rw [hs, hys]) (by rw [hag, hya])
            have e := IH _ _ hf x y z1 z2 e1 e2 w hx hy q1 q2
            have hl1 : (pre ++ u1).length = o + s := by
              have := VR_len _ _ _ _ v11
              simp; omega
            have hl2 : (pre' ++ t1).length = o + s := by
              have := VR_len _ _ _ _ v21
              simp; omega
            have rest := eqFields_fit IH (w := w) cs cs' fl r (o + s) xs ys (pre ++ u1) u2 (pre' ++ t1) t2 hr hxr hyr (by rw [c1, List.append_assoc]) hl1 v12 (by rw [c2, List.append_assoc]) hl2 v22
            simp only [Op.eqFields, ne_eq, hname, not_false_eq_true, if_true, Sem.run_bind, p1, p2, e, Result.andThen_ok]
            by_cases hxy : x = y
            · subst hxy
              simp only [decide_true, Bool.not_true, Bool.false_eq_true, if_false, rest]
              simp
            · simp [hxy]
      · cases hk

open Classical in
theorem equal_fit : ∀ (d D : Nat), EqOk P (eqT P d) (D + d + 1)
  | 0, D => fun t k hk => by simp [eqT] at hk
  | d + 1, D => fun t k hk a b x y e1 e2 w ha hb hx hy => by
    have IH := equal_fit d D
    have hD : D + (d + 1) + 1 = (D + d + 1) + 1 := rfl
    rw [hD]
    simp only [eqT] at hk
    split at hk
    · rename_i hu
      injection hk with hk; subst hk
      obtain ⟨p, rfl⟩ := fitE_bool ha
      obtain ⟨q, rfl⟩ := fitE_bool hb
      rw [VV_mk rfl] at hx hy
      simp only [VR, List.cons.injEq, and_true] at hx hy
      obtain ⟨_, rfl⟩ := hx
      obtain ⟨_, rfl⟩ := hy
      rw [run_equalIn_bool' w _ _ _ _ hu]
      congr 1
      cases p <;> cases q <;> simp
    · rename_i k' hu
      injection hk with hk; subst hk
      obtain ⟨p, rfl⟩ := fitE_int ha
      obtain ⟨q, rfl⟩ := fitE_int hb
      rw [VV_mk rfl] at hx hy
      simp only [VR, List.cons.injEq, and_true] at hx hy
      obtain ⟨_, rfl⟩ := hx
      obtain ⟨_, rfl⟩ := hy
      rw [run_equalIn_int w _ _ _ _ _ _ hu]
      congr 1
      by_cases h : p = q
      · subst h; simp
      · simp [h]
    · rename_i n e hu
      split at hk
      · rename_i k1 s hi hs
        split at hk
        · rename_i hs1
          injection hk with hk; subst hk; subst hs1
          obtain ⟨xs, rfl, hla, hia⟩ := fitE_ints ha
          obtain ⟨ys, rfl, hlb, hib⟩ := fitE_ints hb
          rw [VV_mk_agg rfl] at hx hy
          obtain ⟨cs, rfl, hx⟩ := hx
          obtain ⟨cs', rfl, hy⟩ := hy
          simp only [VR] at hx hy
          obtain ⟨l1, j1⟩ := ints_cells hia hx.2.2
          obtain ⟨l2, j2⟩ := ints_cells hib hy.2.2
          obtain ⟨i, hi1, hi2⟩ := tSize_some hs
          have hue : P.underlying e = some (.int k1) := by
            unfold tInt at hi
            split at hi
            · rename_i kk hh; injection hi with hi; subst hi; exact hh
            · cases hi
          rw [run_equalIn_array w (D + d + 1) cs cs' hu hi1, cellsOf_size hs, List.range_eq_range']
          rw [eqItems_ints hue cs cs' xs ys (by omega) (fun j x h => by simpa using j1 j x h) (fun j x h => by simpa using j2 j x h) _ 0 (by omega)]
          simp
        · cases hk
      · cases hk
    · rename_i fs hu
      split at hk
      · cases hk
      · rename_i hst
        simp only [Option.map_eq_some_iff] at hk
        obtain ⟨kf, hkf, rfl⟩ := hk
        obtain ⟨xs, rfl, ha⟩ := fitE_agg ha
        obtain ⟨ys, rfl, hb⟩ := fitE_agg hb
        rw [VV_mk_agg rfl] at hx hy
        obtain ⟨cs, rfl, hx⟩ := hx
        obtain ⟨cs', rfl, hy⟩ := hy
        simp only [VR] at hx hy
        have hfo : P.fieldsOf t = fs := by simp [Program.fieldsOf, hu]
        rw [run_equalIn_struct w (D + d + 1) t cs cs' (by rw [hfo]; exact hu) (by simpa using hst), hfo]
        rw [eqFields_fit IH cs cs' fs.toList kf 0 xs ys [] cs.toList [] cs'.toList hkf ha hb rfl rfl hx rfl rfl hy]
        simp
    · cases hk
end

end Go.PA

/- PA16: slices of slices. -/
namespace Go.PA
section
variable {P : Program} {c : Ctx} {st : St} {a : Act} {w : World} {loc : Nat → Option (Option Nat)} {S : Nat → Prop} {Fm : Nat → List Nat}

def ovInt (x : Option Value) (n : Option Int) : Prop := match n with
  | none => x = none
  | some n => ∃ k, x = some (.int k n)

theorem run_sliceBound {k : IntKind} {i : Int} {y : Nat} {code : BoundsCode} (h0 : 0 ≤ i) (h1 : i ≤ y) : (Instr.sliceBound (.int k i) y code).run P w = .ok i.toNat w := by
  simp [Instr.sliceBound, run_asIntOf, h0, h1]

theorem run_sliceBounds {b : Bool} {len cap : Nat} {lo hi : Option Value} {l h : Option Int} (hlo : ovInt lo l) (hhi : ovInt hi h) (h0 : 0 ≤ l.getD 0) (h1 : l.getD 0 ≤ h.getD len) (h2 : h.getD len ≤ cap) :
    (Instr.sliceBounds b len cap lo hi none).run P w = .ok ((l.getD 0).toNat, (h.getD len).toNat, cap) w := by
  have e1 : ((h.getD (len : Int)).toNat : Int) = h.getD len := by omega
  cases h with
  | none =>
    have hhi' : hi = none := hhi
    subst hhi'
    cases l with
    | none =>
      have hlo' : lo = none := hlo
      subst hlo'
      simp [Instr.sliceBounds]
    | some l =>
      obtain ⟨k, rfl⟩ := hlo
      simp at h0 h1
      simp [Instr.sliceBounds, run_sliceBound h0 h1]
  | some h =>
    obtain ⟨k', rfl⟩ := hhi
    simp at h1 h2 e1
    have h3 : 0 ≤ h := by omega
    cases l with
    | none =>
      have hlo' : lo = none := hlo
      subst hlo'
      cases b <;> simp [Instr.sliceBounds, run_sliceBound h3 h2]
    | some l =>
      obtain ⟨k, rfl⟩ := hlo
      simp at h0 h1
      cases b <;> simp [Instr.sliceBounds, run_sliceBound h3 h2, run_sliceBound (P := P) (w := w) (k := k) (y := h.toNat) (code := .sliceB) h0 (by omega)]

theorem exec_slice {o : Oper} {t e : TypeId} {s len cap : Nat} {x : Operand} {lo hi : Option Operand} {ad : Option Addr} {l h : Option Int} (ho : o.op = .slice t x lo hi none) (ht : tSlice P t = some (e, s))
    (hx : a.eval x = .slice ad len cap) (hlo : ovInt (lo.map a.eval) l) (hhi : ovInt (hi.map a.eval) h) (h0 : 0 ≤ l.getD 0) (h1 : l.getD 0 ≤ h.getD len) (h2 : h.getD len ≤ cap) :
    (execOp a.eval o).run P w = .ok (.value (.slice (if cap = (l.getD 0).toNat then ad else ad.map (·.add ((l.getD 0).toNat * s))) ((h.getD len).toNat - (l.getD 0).toNat) (cap - (l.getD 0).toNat))) w := by
  obtain ⟨hu, hs⟩ := tSlice_some ht
  simp only [execOp, ho, hx, Instr.sliceAt, Sem.run_bind, run_underlying hu, Result.andThen_ok, Instr.slice, Option.map_none, run_sliceBounds hlo hhi h0 h1 h2, run_sizeOf hs, Sem.run_pure]

theorem VRs_drop_take {xs : List A} {e : Env} {us : List Value} {s : Nat} (hs : ∀ x ∈ xs, x.sz = s) (h : VRs xs e us []) (l n : Nat) (hl : l + n ≤ xs.length) :
    ∃ pre mid post, us = pre ++ mid ++ post ∧ pre.length = l * s ∧ VRs ((xs.drop l).take n) e mid [] := by
  have e1 : xs = xs.take l ++ ((xs.drop l).take n ++ (xs.drop l).drop n) := by rw [List.take_append_drop, List.take_append_drop]
  rw [e1] at h
  obtain ⟨pre, r, F1, F2, rfl, hF, h1, h2⟩ := VRs_split _ _ _ _ _ h
  obtain ⟨mid, post, F3, F4, rfl, hF', h3, h4⟩ := VRs_split _ _ _ _ _ h2
  simp at hF hF'
  obtain ⟨rfl, rfl⟩ := hF
  simp at hF'
  obtain ⟨rfl, rfl⟩ := hF'
  refine ⟨pre, mid, post, by simp, ?_, h3⟩
  rw [VRs_len _ _ _ _ h1, szs_take_const hs (by omega)]

theorem aSlice_sound {o : Oper} {t : TypeId} {x : Operand} {lo hi : Option Operand} {p : A} {l h : Option Int} {eff : Eff} {rd : List Nat} (ho : o.op = .slice t x lo hi none) (R : RelW c st a w loc S Fm)
    (hx : TV p (envOf c st w loc S) (a.eval x)) (hlo : ovInt (lo.map a.eval) l) (hhi : ovInt (hi.map a.eval) h) (r : RM.Runs st.bk (aSlice P t p l h) eff rd) : Done P c (st.app eff) a o w eff.val := by
  unfold aSlice at r
  split at r
  · rename_i d s off len full
    split at r
    · rename_i e es ht
      split at r
      · rename_i hes
        obtain ⟨rfl, hfull⟩ := hes
        obtain ⟨⟨h0, h1, h2⟩, r⟩ := runs_req r
        rw [TV_good rfl, VV_mk rfl] at hx
        simp only [VR] at hx
        obtain ⟨_, hid, b, k', hv, h3, hne, h4, h5⟩ := hx
        injection hv with hv
        refine done_effV R r (exec_slice ho ht hv hlo hhi h0 h1 (by omega)) ?_
        rw [TV_good rfl, VV_mk rfl]
        simp only [VR]
        have hle : (l.getD 0).toNat ≤ (h.getD len).toNat := by omega
        have hle2 : (h.getD (len : Int)).toNat ≤ len := by omega
        refine ⟨trivial, hid, _, _, rfl, by omega, fun hn => ?_, fun hf => ?_, fun q hq => ?_⟩
        · obtain ⟨ad, rfl⟩ := hne (by omega)
          split
          · exact ⟨_, rfl⟩
          · exact ⟨_, rfl⟩
        · have hn : h = none := by
            cases h with
            | none => rfl
            | some h => simp [hf] at hfull
          subst hn
          have := h4 hf
          simp; omega
        · have := h5 q hq
          cases q with
          | none =>
            obtain ⟨rfl, rfl, rfl, rfl⟩ := this
            simp at h1 h2 hle hle2
            have e1 : (l.getD 0).toNat = 0 := by omega
            simp [e1]
            exact hle2
          | some g =>
            by_cases hk : k' = (l.getD 0).toNat
            · simp only [hk, if_true]
              by_cases hoff : off + (l.getD 0).toNat = 0
              · right
                rcases this with ⟨h6, h7⟩ | ⟨h6, h7⟩
                · omega
                · have e1 : off = 0 := by omega
                  have e2 : (l.getD 0).toNat = 0 := by omega
                  subst e1
                  refine ⟨by simpa [e2] using h6, fun hf => ?_⟩
                  have := h7 hf
                  rw [this]; simp [e2, hk]
              · left; exact ⟨by omega, hoff⟩
            · simp only [hk, if_false]
              rcases this with ⟨h6, h7⟩ | ⟨h6, h7⟩
              · omega
              · right
                subst h6
                refine ⟨by simp [add_cell, Nat.add_mul], fun hf => ?_⟩
                rw [h7 hf]
                congr 2
                omega
      · exact (runs_fail r).elim
    · exact (runs_fail r).elim
  · rename_i q xs
    split at r
    · rename_i e es ht
      obtain ⟨⟨h0, h1, h2, h22⟩, r⟩ := runs_req r
      rw [TV_good rfl, VV_mk rfl] at hx
      simp only [VR] at hx
      obtain ⟨_, b, k', us, hv, h3, hss, h5, h6⟩ := hx
      injection hv with hv
      refine done_effV R r (exec_slice ho ht hv hlo hhi h0 h1 (by omega)) ?_
      rw [TV_good rfl, VV_mk rfl]
      simp only [VR]
      have hle : (l.getD 0).toNat ≤ (h.getD xs.length).toNat := by omega
      have hle2 : (h.getD (xs.length : Int)).toNat ≤ xs.length := by omega
      obtain ⟨pre, mid, post, rfl, h7, h8⟩ := VRs_drop_take h22 h5 (l.getD 0).toNat ((h.getD xs.length).toNat - (l.getD 0).toNat) (by omega)
      have hlen : ((xs.drop (l.getD 0).toNat).take ((h.getD xs.length).toNat - (l.getD 0).toNat)).length = (h.getD xs.length).toNat - (l.getD 0).toNat := by
        simp; omega
      refine ⟨trivial, _, _, mid, by rw [hlen], by rw [hlen]; omega, ⟨es, fun x hx => h22 x (List.mem_of_mem_drop (List.mem_of_mem_take hx))⟩, h8, fun hne => ?_⟩
      have hpos : 0 < (h.getD xs.length).toNat - (l.getD 0).toNat := by
        rw [← hlen]; exact List.length_pos_iff.2 hne
      have hx0 : 0 < xs.length := by omega
      obtain ⟨ad, rfl, hok, hcell⟩ := h6 (List.length_pos_iff.1 hx0)
      rw [if_neg (by omega)]
      refine ⟨_, rfl, by rw [block_add]; exact hok, fun j u hu => ?_⟩
      rw [addr_add_add]
      refine hcell _ u ?_
      have hj : j < mid.length := (List.getElem?_eq_some_iff.1 hu).1
      rw [← h7, List.append_assoc, List.getElem?_append_right (by omega), show pre.length + j - pre.length = j by omega, List.getElem?_append_left hj]
      exact hu
    · exact (runs_fail r).elim
  · rename_i s
    split at r
    · rename_i hu
      obtain ⟨⟨h0, h1, h2⟩, r⟩ := runs_req r
      rw [TV_v] at hx
      refine done_effV R r ?_ (by rw [TV_v]; exact ⟨rfl, rfl⟩)
      have hb := run_sliceBounds (P := P) (w := w) (b := false) (cap := s.size) hlo hhi h0 h1 h2
      simp [execOp, ho, hx.2, Instr.sliceAt, run_underlying hu, Instr.slice, hb]
    · exact (runs_fail r).elim
  · exact (runs_fail r).elim

end
end Go.PA

/- PA17: what is built. -/
namespace Go.PA
section
variable {P : Program} {c : Ctx} {st : St} {a : Act} {w : World} {loc : Nat → Option (Option Nat)} {S : Nat → Prop} {Fm : Nat → List Nat}

theorem splice_list (off : Nat) : ∀ (xs : List Value) (k : Nat) (cs : Array Value) (pre us post : List Value), cs.toList = pre ++ us ++ post → pre.length = off + k → us.length = xs.length →
    ((xs.zipIdx k).foldl (fun (cs : Array Value) (q : Value × Nat) => cs.setIfInBounds (off + q.2) q.1) cs).toList = pre ++ xs ++ post
  | [], k, cs, pre, us, post, h, hp, hu => by
    have : us = [] := List.eq_nil_of_length_eq_zero hu
    subst this
    simpa using h
  | x :: xs, k, cs, pre, us, post, h, hp, hu => by
    cases us with
    | nil => simp at hu
    | cons u us =>
      simp only [List.zipIdx_cons, List.foldl_cons]
      have := splice_list off xs (k + 1) (cs.setIfInBounds (off + k) x) (pre ++ [x]) us post (by
        rw [Array.toList_setIfInBounds, h, ← hp]
        simp) (by simp [hp]; omega) (by simpa using hu)
      simpa using this

theorem splice_arr (off : Nat) (xs cs : Array Value) (pre us post : List Value) (h : cs.toList = pre ++ us ++ post) (hp : pre.length = off) (hu : us.length = xs.size) :
    (xs.zipIdx.foldl (fun (cs : Array Value) (q : Value × Nat) => cs.setIfInBounds (off + q.2) q.1) cs).toList = pre ++ xs.toList ++ post := by
  rw [← Array.foldl_toList, Array.toList_zipIdx]
  exact splice_list off xs.toList 0 cs pre us post h (by simpa using hp) (by simpa using hu)

theorem putParts_sound {e : Env} {pl : Nat → Option (Nat × Nat)} : ∀ (ps : List (Nat × A)) (vs : List (Nat × Value)) (zs xs : List A) (cs : Array Value), putParts pl zs ps = some xs →
    All2 (fun (q : Nat × A) (v : Nat × Value) => q.1 = v.1 ∧ VV q.2 e v.2 []) ps vs → VRs zs e cs.toList [] → ∃ cs', Instr.fill pl cs vs = some cs' ∧ VRs xs e cs'.toList [] ∧ xs.length = zs.length
  | [], vs, zs, xs, cs, h, ha, hz => by
    cases ha
    simp only [putParts] at h
    injection h with h
    subst h
    exact ⟨cs, rfl, hz, rfl⟩
  | (i, x) :: ps, vs, zs, xs, cs, h, ha, hz => by
    cases ha with
    | @cons _ v _ vs h1 h2 =>
      obtain ⟨hi, hv⟩ := h1
      obtain ⟨i', v⟩ := v
      simp only at hi hv
      subst hi
      simp only [putParts] at h
      split at h
      · rename_i z off s hzi hpl
        split at h
        · rename_i hc
          obtain ⟨h3, h4, h5, h6⟩ := hc
          obtain ⟨hvc, hvs⟩ := VV_cells hv
          obtain ⟨pre, us, post, F1, Fx, F2, e1, e2, h7, h8, h9⟩ := VRs_at zs e cs.toList [] i z hz hzi
          simp at e2
          obtain ⟨rfl, rfl, rfl⟩ := e2
          have hus : us.length = v.cells.size := by rw [VR_len _ _ _ _ h8, h3, hvs]
          have hsp := splice_arr off v.cells cs pre us post e1 (h7.trans h5.symm) hus
          have hnew := h9 x v.cells.toList [] hvc
          simp only [List.append_nil] at hnew
          obtain ⟨cs', h10, h11, h12⟩ := putParts_sound ps vs (zs.set i x) xs (v.cells.zipIdx.foldl (fun cs q => cs.setIfInBounds (off + q.2) q.1) cs) h h2 (by rw [hsp]; exact hnew)
          refine ⟨cs', ?_, h11, by simpa using h12⟩
          have hsz : cs.size = pre.length + us.length + post.length := by rw [← Array.length_toList, e1]; simp; omega
          have hc1 : ¬ (v.cells.size ≠ s) := by rw [hvs, h4]; simp
          have hc2 : ¬ (off + v.cells.size > cs.size) := by rw [hsz, ← hus, ← h5.trans h7.symm]; omega
          simp only [Instr.fill, hpl]
          rw [if_neg (by simp only [Bool.or_eq_true, decide_eq_true_eq, not_or]; exact ⟨hc1, hc2⟩)]
          exact h10
        · simp at h
      · simp at h

theorem tZero_info {t : TypeId} {z : A} (h : tZero P t = some z) : ∃ i v, P.info? t = some i ∧ i.zero = some v ∧ (∀ e, VR z e v.cells.toList []) := by
  unfold tZero at h
  split at h
  · rename_i z' v h1 h2
    split at h
    · rename_i cs h3
      split at h
      · rename_i h4
        injection h with h
        subst h
        cases hi : P.info? t with
        | none => simp [hi] at h2
        | some i =>
          simp only [hi, Option.bind_some] at h2
          exact ⟨i, v, rfl, h2, fun e => by rw [← eqPlains_eq h4]; exact zFlat_VR e _ _ h3⟩
      · simp at h
    · simp at h
  · simp at h

theorem zip_all2 {e : Env} {f : Operand → Value} : ∀ (l : List (Nat × Operand)) (xs : List A), All2 (fun x z => TV z e (f x)) (l.map (·.2)) xs → (∀ x ∈ partsOf l xs, x.2.good = true) →
    All2 (fun (q : Nat × A) (v : Nat × Value) => q.1 = v.1 ∧ VV q.2 e v.2 []) (partsOf l xs) (l.map fun q => (q.1, f q.2))
  | [], xs, h, hg => by cases h; exact .nil
  | (i, o) :: l, xs, h, hg => by
    cases h with
    | @cons _ z _ zs h1 h2 =>
      refine .cons ⟨rfl, (TV_good ?_).1 h1⟩ (zip_all2 l zs h2 fun x hx => hg x (by simp [partsOf] at hx ⊢; exact .inr hx))
      exact hg (i, z) (by simp [partsOf])

theorem putParts_good {pl : Nat → Option (Nat × Nat)} : ∀ (ps : List (Nat × A)) (zs xs : List A), putParts pl zs ps = some xs → ∀ q ∈ ps, q.2.good = true
  | [], zs, xs, h => by simp
  | (i, x) :: ps, zs, xs, h => by
    simp only [putParts] at h
    split at h
    · split at h
      · rename_i hc
        intro q hq
        rcases List.mem_cons.1 hq with rfl | hq
        · exact hc.2.2.2
        · exact putParts_good ps _ _ h q hq
      · simp at h
    · simp at h

theorem putParts_sizes {pl : Nat → Option (Nat × Nat)} : ∀ (ps : List (Nat × A)) (zs xs : List A), putParts pl zs ps = some xs → szs xs = szs zs ∧ ∀ y ∈ xs, ∃ z, z ∈ zs ∧ y.sz = z.sz
  | [], zs, xs, h => by
    simp only [putParts] at h
    injection h with h
    subst h
    exact ⟨rfl, fun y hy => ⟨y, hy, rfl⟩⟩
  | (i, x) :: ps, zs, xs, h => by
    simp only [putParts] at h
    split at h
    · rename_i z off s hzi hpl
      split at h
      · rename_i hc
        obtain ⟨h1, h2⟩ := putParts_sizes ps _ xs h
        refine ⟨h1.trans (szs_set hzi hc.1.symm), fun y hy => ?_⟩
        obtain ⟨q, hq, hqs⟩ := h2 y hy
        rcases List.mem_or_eq_of_mem_set hq with hq | hq
        · exact ⟨q, hq, hqs⟩
        · subst hq
          exact ⟨z, List.mem_of_getElem? hzi, hqs.trans hc.1.symm⟩
      · simp at h
    · simp at h

theorem aBuild_sound {o : Oper} {t : TypeId} {ps : Array (Nat × Operand)} {xs : List A} {eff : Eff} {l : List Nat} (ho : o.op = .build t ps) (R : RelW c st a w loc S Fm)
    (hx : All2 (fun x z => TV z (envOf c st w loc S) (a.eval x)) (ps.toList.map (·.2)) xs) (r : RM.Runs st.bk (aBuild P t (partsOf ps.toList xs)) eff l) : Done P c (st.app eff) a o w eff.val := by
  have hexec : ∀ cs, P.built t (ps.toList.map fun q => (q.1, a.eval q.2)) = some cs → (execOp a.eval o).run P w = .ok (.value (.agg cs)) w := by
    intro cs h
    have := run_build (P := P) w t (ps.map fun (i, x) => (i, a.eval x)) cs (by simpa using h)
    simp [execOp, ho, this]
  unfold aBuild at r
  split at r
  · rename_i zs hz
    split at r
    · rename_i pl hpl
      split at r
      · rename_i ys hp
        obtain ⟨i, v, hi, hv, hV⟩ := tZero_info hz
        have hV' := hV (envOf c st w loc S)
        simp only [VR] at hV'
        obtain ⟨cs', h1, h2, _⟩ := putParts_sound (e := envOf c st w loc S) _ _ zs ys v.cells hp (zip_all2 _ _ hx (putParts_good _ _ _ hp)) hV'
        refine done_effV R r (hexec cs' ?_) ?_
        · unfold tPlaces at hpl
          split at hpl
          · rename_i fs hu
            simp only [Program.built, hi, hu, hv, hpl]
            rw [← h1]
            congr 1
            funext k
            simp
          · simp at hpl
        · rw [TV_good rfl, VV_mk_agg rfl]
          exact ⟨cs', rfl, by simpa only [VR] using h2⟩
      · exact (runs_fail r).elim
    · exact (runs_fail r).elim
  · rename_i n zs hz
    split at r
    · rename_i q e s ht
      split at r
      · rename_i ys hp
        split at r
        · rename_i hall
          obtain ⟨i, v, hi, hv, hV⟩ := tZero_info hz
          have hV' := hV (envOf c st w loc S)
          simp only [VR] at hV'
          obtain ⟨h0, ⟨s0, hs0⟩, hV'⟩ := hV'
          have hA := zip_all2 _ _ hx (putParts_good _ _ _ hp)
          have hA' : All2 (fun (q : Nat × A) (v : Nat × Value) => q.1 = v.1 ∧ VV q.2 (envOf c st w loc S).shut v.2 []) (partsOf ps.toList xs) (ps.toList.map fun q => (q.1, a.eval q.2)) := by
            have key : ∀ (qs : List (Nat × A)) (vs : List (Nat × Value)), (∀ q ∈ qs, (q.2.closed && q.2.nobor) = true) → All2 (fun (q : Nat × A) (v : Nat × Value) => q.1 = v.1 ∧ VV q.2 (envOf c st w loc S) v.2 []) qs vs →
                All2 (fun (q : Nat × A) (v : Nat × Value) => q.1 = v.1 ∧ VV q.2 (envOf c st w loc S).shut v.2 []) qs vs := by
              intro qs
              induction qs with
              | nil => intro vs _ h; cases h; exact .nil
              | cons q qs ih =>
                intro vs hc h
                cases h with
                | cons h1 h2 =>
                  have hq := hc q (by simp)
                  simp only [Bool.and_eq_true] at hq
                  exact .cons ⟨h1.1, h1.2.imp (fun ⟨x, cs, y, z⟩ => ⟨x, cs, y, VR_shut hq.1 hq.2 z⟩) (fun ⟨x, y⟩ => ⟨x, VR_shut hq.1 hq.2 y⟩)⟩ (ih _ (fun q hq => hc q (by simp [hq])) h2)
            exact key _ _ (fun q hq => List.all_eq_true.1 hall q hq) hA
          obtain ⟨cs', h1, h2, h3⟩ := putParts_sound (e := (envOf c st w loc S).shut) _ _ zs ys v.cells hp hA' hV'
          obtain ⟨hu, hes⟩ := tArr_some ht
          obtain ⟨ie, hie, hie2⟩ := tSize_some hes
          refine done_effV R r (hexec cs' ?_) ?_
          · simp only [Program.built, hi, hu, hv, hie, hie2]
            exact h1
          · rw [TV_good rfl, VV_mk_agg rfl]
            refine ⟨cs', rfl, ?_⟩
            simp only [VR]
            have hsz := putParts_sizes _ _ _ hp
            refine ⟨?_, ⟨s0, fun y hy => ?_⟩, h2⟩
            · rw [← h0, VRs_len _ _ _ _ h2, VRs_len _ _ _ _ hV', hsz.1]
            · obtain ⟨z', hz', hzz⟩ := hsz.2 y hy
              rw [hzz]; exact hs0 z' hz'
        · obtain ⟨i, v, hi, hv, hV⟩ := tZero_info hz
          have hV' := hV (envOf c st w loc S)
          simp only [VR] at hV'
          obtain ⟨h0, ⟨s0, hs0⟩, hV'⟩ := hV'
          obtain ⟨cs', h1, h2, h3⟩ := putParts_sound (e := envOf c st w loc S) _ _ zs ys v.cells hp (zip_all2 _ _ hx (putParts_good _ _ _ hp)) (VRs_open hV')
          obtain ⟨hu, hes⟩ := tArr_some ht
          obtain ⟨ie, hie, hie2⟩ := tSize_some hes
          refine done_effV R r (hexec cs' ?_) ?_
          · simp only [Program.built, hi, hu, hv, hie, hie2]
            exact h1
          · rw [TV_good rfl, VV_mk_agg rfl]
            exact ⟨cs', rfl, by simpa only [VR] using h2⟩
      · exact (runs_fail r).elim
    · exact (runs_fail r).elim
  · exact (runs_fail r).elim

end
end Go.PA

/- PA18: rows that are made, and appended to. -/
namespace Go.PA
section
variable {P : Program} {c : Ctx} {st : St} {a : Act} {w : World} {loc : Nat → Option (Option Nat)} {S : Nat → Prop} {Fm : Nat → List Nat}

theorem runs_effN {bk : Nat → Option Blk} {z : A} {d : Nat} {b : Blk} {y : Eff} {l : List Nat} (h : RM.Runs bk (effN z d b) y l) : y = ⟨z, [(d, some b)], [d]⟩ := (runs_ret h).1

theorem VRs_replicate {z : A} {e : Env} {us : List Value} (h : VR z e us []) : ∀ n : Nat, VRs (List.replicate n z) e (List.replicate n us).flatten []
  | 0 => by simp [VRs]
  | n + 1 => by
    have := VRs_cons h (VRs_replicate h n)
    simpa [List.replicate_succ] using this

theorem madeCells_flat (z : Array Value) (hz : 0 < z.size) (n : Nat) : (madeCells z (n * z.size)).toList = (List.replicate n z.toList).flatten := by
  induction n with
  | zero => simp [madeCells]
  | succ n ih =>
    rw [List.replicate_succ', List.flatten_append, ← ih]
    simp only [madeCells, List.flatten_singleton]
    apply List.ext_getElem?
    intro i
    rw [Array.toList_map, Array.toList_map, Array.toList_range, Array.toList_range, List.getElem?_map]
    by_cases h1 : i < n * z.size
    · rw [List.getElem?_append_left (by simpa using h1), List.getElem?_map, List.getElem?_range h1, List.getElem?_range (by rw [Nat.add_mul]; omega)]
    · rw [List.getElem?_append_right (by simpa using Nat.le_of_not_lt h1)]
      simp only [List.length_map, List.length_range]
      by_cases h2 : i < (n + 1) * z.size
      · rw [List.getElem?_range h2]
        have h3 : i - n * z.size < z.size := by rw [Nat.add_mul] at h2; omega
        have h4 : i % z.size = i - n * z.size := by
          have h5 : i = (i - n * z.size) + n * z.size := by omega
          conv => lhs; rw [h5, Nat.add_mul_mod_self_right]
          exact Nat.mod_eq_of_lt h3
        simp only [Option.map_some, h4]
        rw [getElem!_pos z _ h3, Array.getElem?_toList, Array.getElem?_eq_getElem h3]
      · rw [List.getElem?_eq_none (by simpa using Nat.le_of_not_lt h2)]
        simp only [Option.map_none]
        rw [List.getElem?_eq_none]
        simp; rw [Nat.add_mul] at h2; omega

theorem aMake_sound {o : Oper} {t : TypeId} {x y : Operand} {n : Nat} {k k' : IntKind} {l m : Int} {eff : Eff} {rd : List Nat} (ho : o.op = .makeSlice t x y) (R : RelW c st a w loc S Fm) (hn : st.ids n = false)
    (hx : a.eval x = .int k l) (hy : a.eval y = .int k' m) (r : RM.Runs st.bk (aMake P n t l m) eff rd) : Done P c (st.app eff) a o w eff.val := by
  unfold aMake at r
  split at r
  · rename_i e s ht
    split at r
    · rename_i z eb hz heb
      split at r
      · rename_i hs
        obtain ⟨⟨h0, h1, h2, h3⟩, r⟩ := runs_req r
        obtain rfl := runs_effN r
        obtain ⟨hu, hes⟩ := tSlice_some ht
        obtain ⟨i, v, hi, hv, hV⟩ := tZero_info hz
        have hsz : i.size = s := by
          obtain ⟨i', hi', h⟩ := tSize_some hes
          rw [hi] at hi'; injection hi' with hi'; subst hi'; exact h
        have hby : i.bytes = eb := by
          simp [tBytes, hi] at heb; exact heb
        have hvs : v.cells.size = s := by
          have := VR_len _ _ _ _ (hV (envOf c st w loc S))
          rw [hs.1] at this
          simpa using this
        have hrun := run_make (P := P) w t e i v hu hi hv k k' l m h0 h1 (by rw [hby]; exact h3) h2
        have hcells : (madeCells v.cells (m.toNat * i.size)).toList = (List.replicate m.toNat v.cells.toList).flatten := by
          rw [hsz, ← hvs]; exact madeCells_flat _ (by omega) _
        refine done_row (s := s) (k := m.toNat) (us := (List.replicate l.toNat v.cells.toList).flatten) R hn rfl rfl rfl rfl hs.2 (fun x hx => ?_) (VRs_replicate (hV _) _) ?_ ?_ ?_ ?_ ?_
          (cs := madeCells v.cells (m.toNat * i.size)) (ty := e)
        · rw [List.eq_of_mem_replicate hx]; exact hs.1
        · simp; omega
        · simp [maxLen]; omega
        · rw [size_madeCells, hsz]
        · rw [hcells]
          have : m.toNat = l.toNat + (m.toNat - l.toNat) := by omega
          rw [this, ← List.replicate_append_replicate, List.flatten_append]
          exact List.take_left
        · have e1 : (List.replicate l.toNat z).length = l.toNat := by simp
          rw [e1]
          simp only [execOp, ho, hx, hy, Sem.run_bind, hrun, Result.andThen_ok, Sem.run_pure]
      · exact (runs_fail r).elim
    · exact (runs_fail r).elim
  · exact (runs_fail r).elim

theorem parts_shut {e : Env} : ∀ (qs : List (Nat × A)) (vs : List (Nat × Value)), (∀ q ∈ qs, (q.2.closed && q.2.nobor) = true) → All2 (fun (q : Nat × A) (v : Nat × Value) => q.1 = v.1 ∧ VV q.2 e v.2 []) qs vs →
    All2 (fun (q : Nat × A) (v : Nat × Value) => q.1 = v.1 ∧ VV q.2 e.shut v.2 []) qs vs := by
  intro qs
  induction qs with
  | nil => intro vs _ h; cases h; exact .nil
  | cons q qs ih =>
    intro vs hc h
    cases h with
    | cons h1 h2 =>
      have hq := hc q (by simp)
      simp only [Bool.and_eq_true] at hq
      exact .cons ⟨h1.1, h1.2.imp (fun ⟨x, cs, y, z⟩ => ⟨x, cs, y, VR_shut hq.1 hq.2 z⟩) (fun ⟨x, y⟩ => ⟨x, VR_shut hq.1 hq.2 y⟩)⟩ (ih _ (fun q hq => hc q (by simp [hq])) h2)

theorem aBuildSlice_sound {o : Oper} {t : TypeId} {len n : Nat} {ps : Array (Nat × Operand)} {xs : List A} {eff : Eff} {l : List Nat} (ho : o.op = .buildSlice t len ps) (R : RelW c st a w loc S Fm) (hn : st.ids n = false)
    (hx : All2 (fun x z => TV z (envOf c st w loc S) (a.eval x)) (ps.toList.map (·.2)) xs) (r : RM.Runs st.bk (aBuildSlice P n t len (partsOf ps.toList xs)) eff l) : Done P c (st.app eff) a o w eff.val := by
  unfold aBuildSlice at r
  split at r
  · rename_i e s ht
    split at r
    · rename_i z hz
      split at r
      · rename_i hs
        split at r
        · rename_i ys hp
          ·
            obtain rfl := runs_effN r
            obtain ⟨hu, hes⟩ := tSlice_some ht
            obtain ⟨i, v, hi, hv, hV⟩ := tZero_info hz
            have hsz : i.size = s := by
              obtain ⟨i', hi', h⟩ := tSize_some hes
              rw [hi] at hi'; injection hi' with hi'; subst hi'; exact h
            have hvs : v.cells.size = s := by
              have := VR_len _ _ _ _ (hV (envOf c st w loc S))
              rw [hs.1] at this
              simpa using this
            have hcells : (madeCells v.cells (len * s)).toList = (List.replicate len v.cells.toList).flatten := by
              rw [← hvs]; exact madeCells_flat _ (by omega) _
            have hA := zip_all2 _ _ hx (putParts_good _ _ _ hp)
            obtain ⟨cs', h1, h2, h3⟩ := putParts_sound (e := envOf c st w loc S) _ _ _ ys (madeCells v.cells (len * s)) hp hA (by rw [hcells]; exact VRs_replicate (hV _) _)
            have hps := putParts_sizes _ _ _ hp
            have hlen : ys.length = len := by rw [h3]; simp
            have hall' : ∀ y ∈ ys, y.sz = s := fun y hy => by
              obtain ⟨q, hq, hqs⟩ := hps.2 y hy
              rw [hqs, List.eq_of_mem_replicate hq]; exact hs.1
            have hcs : cs'.size = len * s := by
              rw [← Array.length_toList, VRs_len _ _ _ _ h2, szs_const hall', hlen]
            refine done_row (s := s) (k := len) (us := cs'.toList) R hn rfl rfl rfl rfl hs.2.1 hall' h2 (by omega) ?_ hcs (List.take_length) (cs := cs') (ty := e) ?_
            · have : len ≤ len * s := Nat.le_mul_of_pos_right _ hs.2.1
              simp [maxLen]; omega
            · have hbig : ¬ (len * s > 2 ^ 24) := by omega
              rw [hlen]
              by_cases hl0 : len * s = 0
              · have h1' : Instr.fill (fun i => some (i * s, s)) #[] (ps.toList.map fun q => (q.1, a.eval q.2)) = some cs' := by
                  rw [← h1, hl0]
                  simp [madeCells, Array.range_zero']
                simp [execOp, ho, Instr.buildSlice, run_underlying hu, sizeOf, typeInfo, hi, hsz, hl0, newRow, Array.range_zero', h1']
              · simp [execOp, ho, Instr.buildSlice, run_underlying hu, sizeOf, typeInfo, hi, hsz, hbig, hl0, zeroValue, hv, newRow]
                have h1' : Instr.fill (fun i => some (i * s, s)) (((Array.range (len * s)).map (v.cells[· % v.cells.size]!))) (ps.toList.map fun q => (q.1, a.eval q.2)) = some cs' := h1
                simp [h1']
        · exact (runs_fail r).elim
      · exact (runs_fail r).elim
    · exact (runs_fail r).elim
  · exact (runs_fail r).elim

end
end Go.PA

/- PA19: append. -/
namespace Go.PA
section
variable {P : Program} {c : Ctx} {st : St} {a : Act} {w : World} {loc : Nat → Option (Option Nat)} {S : Nat → Prop} {Fm : Nat → List Nat}

/-- A row gets another name. -/
theorem RelW.rename (R : RelW c st a w loc S Fm) {d n s : Nat} {xs : List A} (hb : st.bk d = some (.row s xs)) (hn : st.ids n = false) (st' : St)
    (hsl : ∀ t, st'.sl t = st.sl t) (hgs : st'.gs = st.gs) (hbk : ∀ x, st'.bk x = if x = n then some (.row s xs) else if x = d then none else st.bk x) (hids : ∀ x, st'.ids x = (st.ids x || x == n)) :
    RelW c st' a w (fun x => if x = n then loc d else if x = d then none else loc x) S (fun x => if x = n then Fm d else if x = d then [] else Fm x) := by
  have hdn : d ≠ n := fun e => by
    subst e
    have := R.known d (by rw [hb]; simp)
    rw [hn] at this; cases this
  have hst : Step c st w loc S Fm (fun _ => False) st' w (fun x => if x = n then loc d else if x = d then none else loc x) S (fun x => if x = n then Fm d else if x = d then [] else Fm x) := by
    refine ⟨hsl, hgs, fun g h => h.elim, fun g hg _ => rfl, fun g hg => rfl, Nat.le_refl _, rfl, rfl, rfl, fun _ h => h, fun _ h => .inl h,
      fun g hg => R.fram.bd g (.inl hg), fun x hx => by simp [hids, hx], fun x l hx hl => ?_, fun _ => rfl⟩
    have hne : x ≠ n := fun e => by subst e; rw [hn] at hx; cases hx
    simp only [if_neg hne] at hl
    split at hl
    · cases hl
    · exact hl
  refine R.next hst (fun x b' hb' => ?_) (fun x hx => ?_) (fun x hx => ?_) (fun x => ?_) (fun x y hne g hg => ?_) (fun x g hg => ?_)
  · rw [hbk] at hb'
    by_cases hx : x = n
    · subst hx
      simp only [if_true] at hb'
      injection hb' with hb'
      subst hb'
      right
      have hB := R.bks d _ hb
      have hle : (envOf c st w loc S).Le (envOf c st' w (fun y => if y = x then loc d else if y = d then none else loc y) S) (Fm d) := hst.le R fun g hg => ⟨R.fmLt hg, id⟩
      obtain ⟨h1, h2, h3⟩ := hB
      simp only [if_true]
      refine ⟨h1, h2, ?_⟩
      rcases h3 with ⟨h3, h4⟩ | ⟨g, cs, ty, k, us, Fx, h3, h4, h5, h6, h7, h8, h9, h10⟩
      · exact .inl ⟨by simpa [envOf] using h3, h4⟩
      · refine .inr ⟨g, cs, ty, k, us, Fx, by simpa [envOf] using h3, h4, h5, h6, h7, VRs_mono _ _ _ _ _ (hle.sub (F' := Fx) fun z hz => by rw [h10]; simp [hz]) h8, h9, h10⟩
    · simp only [if_neg hx] at hb'
      by_cases hxd : x = d
      · simp [hxd] at hb'
      · simp only [if_neg hxd] at hb'
        exact .inl ⟨hb', by simp [hx, hxd], by simp [hx, hxd], by simp⟩
  · rw [hbk] at hx
    by_cases hxn : x = n
    · simp [hxn] at hx
    · simp only [if_neg hxn] at hx ⊢
      by_cases hxd : x = d
      · simp [hxd]
      · simp only [if_neg hxd] at hx ⊢
        exact R.dead x hx
  · rw [hids]
    rw [hbk] at hx
    by_cases hxn : x = n
    · simp [hxn]
    · simp only [if_neg hxn] at hx
      by_cases hxd : x = d
      · simp [hxd] at hx
      · simp only [if_neg hxd] at hx
        simp [R.known x hx]
  · by_cases h1 : x = n
    · simp [h1, R.nodup d]
    · by_cases h2 : x = d <;> simp [h1, h2, R.nodup x]
      rw [if_neg hdn]; simp
  · by_cases h1 : x = n
    · simp only [h1, if_true] at hg
      have hy : y ≠ n := fun e => hne (h1.trans e.symm)
      simp only [if_neg hy]
      by_cases h2 : y = d
      · simp [h2]
      · simp only [if_neg h2]; exact R.disj d y (fun e => h2 e.symm) g hg
    · simp only [if_neg h1] at hg
      by_cases h2 : x = d
      · simp [h2] at hg
      · simp only [if_neg h2] at hg
        by_cases h3 : y = n
        · simp only [h3, if_true]; exact R.disj x d h2 g hg
        · simp only [if_neg h3]
          by_cases h4 : y = d
          · simp [h4]
          · simp only [if_neg h4]; exact R.disj x y hne g hg
  · have hF : ∃ d0, g ∈ Fm d0 := by
      by_cases h1 : x = n
      · simp only [h1, if_true] at hg; exact ⟨d, hg⟩
      · simp only [if_neg h1] at hg
        by_cases h2 : x = d
        · simp [h2] at hg
        · simp only [if_neg h2] at hg; exact ⟨x, hg⟩
    obtain ⟨d0, hd0⟩ := hF
    exact ⟨.inl ⟨d0, hd0⟩, (R.own d0 g hd0).1, R.fmLt hd0⟩

/-- A row's contents go into a new block. -/
theorem RelW.regrow (R : RelW c st a w loc S Fm) {d n s : Nat} {xs : List A} (hb : st.bk d = some (.row s xs)) (hn : st.ids n = false) (st' : St) (b : Blk)
    (hsl : ∀ t, st'.sl t = st.sl t) (hgs : st'.gs = st.gs) (hbk : ∀ x, st'.bk x = if x = n then some b else if x = d then none else st.bk x) (hids : ∀ x, st'.ids x = (st.ids x || x == n))
    (cs : Array Value) (ty : TypeId) (w1 : World) (hw : w1.heap = w.heap) (hos : w1.os = w.os) (ht : w1.tape = w.tape) (ho : w1.output = w.output) (Fx : List Nat)
    (hFx : ∀ g ∈ Fx, g ∈ Fm d) (hnd : Fx.Nodup)
    (hB : ∀ e, e.w = w1.alloc (.cells cs ty) → e.loc n = some (some w.heap.size) → (∀ F : List Nat, (∀ g ∈ F, g < w.heap.size) → (envOf c st w loc S).Le e F) → BkR e n b (w.heap.size :: Fx)) :
    RelW c st' a (w1.alloc (.cells cs ty)) (fun x => if x = n then some (some w.heap.size) else if x = d then none else loc x) S (fun x => if x = n then w.heap.size :: Fx else if x = d then [] else Fm x) := by
  have hdn : d ≠ n := fun e => by
    subst e
    have := R.known d (by rw [hb]; simp)
    rw [hn] at this; cases this
  have hsz : (w1.alloc (.cells cs ty)).heap.size = w.heap.size + 1 := by rw [World.size_alloc, hw]
  have hold : ∀ g, g < w.heap.size → (w1.alloc (.cells cs ty)).heap[g]? = w.heap[g]? := fun g hg => by
    rw [heapOld _ _ _ (by rw [hw]; exact hg), hw]
  have hst : Step c st w loc S Fm (fun _ => False) st' (w1.alloc (.cells cs ty)) (fun x => if x = n then some (some w.heap.size) else if x = d then none else loc x) S (fun x => if x = n then w.heap.size :: Fx else if x = d then [] else Fm x) := by
    refine ⟨hsl, hgs, fun g h => h.elim, fun g hg _ => hold g hg, fun g hg => by rw [shape_of_heap (hold g hg)], by omega, hos, ht, ho, fun _ h => h, fun _ h => .inl h,
      fun g hg => by have := R.fram.bd g (.inl hg); omega, fun x hx => by simp [hids, hx], fun x l hx hl => ?_, frozen_alloc hw⟩
    have hne : x ≠ n := fun e => by subst e; rw [hn] at hx; cases hx
    simp only [if_neg hne] at hl
    split at hl
    · cases hl
    · exact hl
  have hlt : ∀ g ∈ Fx, g < w.heap.size := fun g hg => R.fmLt (hFx g hg)
  refine R.next hst (fun x b' hb' => ?_) (fun x hx => ?_) (fun x hx => ?_) (fun x => ?_) (fun x y hne g hg => ?_) (fun x g hg => ?_)
  · rw [hbk] at hb'
    by_cases hx : x = n
    · subst hx
      simp only [if_true] at hb'
      injection hb' with hb'
      subst hb'
      right
      simp only [if_true]
      exact hB _ rfl (by simp [envOf]) (fun F hF => hst.le R fun g hg => ⟨hF g hg, id⟩)
    · simp only [if_neg hx] at hb'
      by_cases hxd : x = d
      · simp [hxd] at hb'
      · simp only [if_neg hxd] at hb'
        exact .inl ⟨hb', by simp [hx, hxd], by simp [hx, hxd], by simp⟩
  · rw [hbk] at hx
    by_cases hxn : x = n
    · simp [hxn] at hx
    · simp only [if_neg hxn] at hx ⊢
      by_cases hxd : x = d
      · simp [hxd]
      · simp only [if_neg hxd] at hx ⊢
        exact R.dead x hx
  · rw [hids]
    rw [hbk] at hx
    by_cases hxn : x = n
    · simp [hxn]
    · simp only [if_neg hxn] at hx
      by_cases hxd : x = d
      · simp [hxd] at hx
      · simp only [if_neg hxd] at hx
        simp [R.known x hx]
  · by_cases h1 : x = n
    · simp only [h1, if_true, List.nodup_cons]
      exact ⟨fun h => by have := hlt _ h; omega, hnd⟩
    · by_cases h2 : x = d
      · simp only [h2, if_neg hdn, if_true]; exact List.nodup_nil
      · simp [h1, h2, R.nodup x]
  · by_cases h1 : x = n
    · simp only [h1, if_true] at hg
      have hy : y ≠ n := fun e => hne (h1.trans e.symm)
      simp only [if_neg hy]
      by_cases h2 : y = d
      · simp [h2]
      · simp only [if_neg h2]
        rcases List.mem_cons.1 hg with hg | hg
        · subst hg; intro h; have := R.fmLt h; omega
        · exact R.disj d y (fun e => h2 e.symm) g (hFx g hg)
    · simp only [if_neg h1] at hg
      by_cases h2 : x = d
      · simp [h2] at hg
      · simp only [if_neg h2] at hg
        by_cases h3 : y = n
        · simp only [h3, if_true, List.mem_cons, not_or]
          exact ⟨fun h => by have := R.fmLt hg; omega, fun h => R.disj x d h2 g hg (hFx g h)⟩
        · simp only [if_neg h3]
          by_cases h4 : y = d
          · simp [h4]
          · simp only [if_neg h4]; exact R.disj x y hne g hg
  · by_cases h1 : x = n
    · simp only [h1, if_true, List.mem_cons] at hg
      rcases hg with hg | hg
      · subst hg
        exact ⟨.inr (Nat.le_refl _), fun hS => by have := R.fram.bd _ (.inl hS); omega, by omega⟩
      · exact ⟨.inl ⟨d, hFx g hg⟩, (R.own d g (hFx g hg)).1, by have := hlt g hg; omega⟩
    · simp only [if_neg h1] at hg
      by_cases h2 : x = d
      · simp [h2] at hg
      · simp only [if_neg h2] at hg
        exact ⟨.inl ⟨x, hg⟩, (R.own x g hg).1, by have := R.fmLt hg; omega⟩

end
end Go.PA

/- PA20: append, on. -/
namespace Go.PA
section
variable {P : Program} {c : Ctx} {st : St} {a : Act} {w : World} {loc : Nat → Option (Option Nat)} {S : Nat → Prop} {Fm : Nat → List Nat}

theorem VRs_shut {xs : List A} {e : Env} {us : List Value} {F : List Nat} (hc : closeds xs = true) (hb : nobors xs = true) (h : VRs xs e us F) : VRs xs e.shut us F := by
  have := VRs_noB xs _ _ _ hb ((VRs_close xs e us F hc).1 h)
  rwa [close_noB] at this

theorem VRs_shutB {xs : List A} {e : Env} {us : List Value} (hb : nobors xs = true) (h : VRs xs e.close us []) : VRs xs e.shut us [] := by
  have := VRs_noB xs _ _ _ hb h
  rwa [close_noB] at this

theorem row_src {e e2 : Env} {d s off len k : Nat} {full : Bool} {b : Option Addr} {xs : List A} {g : Nat} {cs : Array Value} {ty : TypeId} {us : List Value}
    (hss : ∀ x ∈ xs, x.sz = s) (hl : e.loc d = some (some g)) (hg : e.w.heap[g]? = some (.cells cs ty (0, 0))) (hx : VRs xs e2 us []) (ht : cs.toList.take us.length = us) (hfit : off + len ≤ xs.length)
    (hk : len ≤ k) (h5 : ∀ l, e.loc d = some l → match l with
        | none => off = 0 ∧ len = 0 ∧ b = none ∧ k = 0
        | some g => (k = 0 ∧ off ≠ 0) ∨ (b = some ⟨g, off * s, none⟩ ∧ (full = false → (e.w.shape? g).map (·.2) = some ((off + k) * s)))) :
    ∃ us', VRs ((xs.drop off).take len) e2 us' [] ∧ ((xs.drop off).take len ≠ [] → ∃ ad, b = some ad ∧ ∀ j u, us'[j]? = some u → e.w.cell? (ad.add j) = some u) := by
  obtain ⟨pre, mid, post, rfl, h7, h8⟩ := VRs_drop_take hss hx off len hfit
  refine ⟨mid, h8, fun hne => ?_⟩
  have hlen : ((xs.drop off).take len).length = len := by simp; omega
  have hpos : 0 < len := by rw [← hlen]; exact List.length_pos_iff.2 hne
  rcases h5 _ hl with ⟨h, _⟩ | ⟨h, _⟩
  · omega
  · obtain ⟨rest, hrest⟩ := take_append_drop' ht
    exact ⟨_, h, cells_at hg ⟨rest, hrest⟩ h7⟩

theorem appSrc_sound {x : A} {y : Value} {ys : List A} {rd : List Nat} (R : RelW c st a w loc S Fm) (hx : TV x (envOf c st w loc S) y) (r : RM.Runs st.bk (appSrc x) ys rd) :
    ∃ b k us, y = .slice b ys.length k ∧ VRs ys (envOf c st w loc S) us [] ∧ (ys ≠ [] → ∃ ad, b = some ad ∧ ∀ j u, us[j]? = some u → w.cell? (ad.add j) = some u) := by
  unfold appSrc at r
  split at r
  · rename_i p xs
    rw [TV_good rfl, VV_mk rfl] at hx
    simp only [VR] at hx
    obtain ⟨_, b, k, us, hv, h3, hss, h5, h6⟩ := hx
    injection hv with hv
    cases p with
    | true =>
      simp only [if_true] at r
      obtain ⟨rfl, _⟩ := runs_ret r
      exact ⟨b, k, us, hv, VRs_open h5, fun hne => let ⟨ad, h, _, hc⟩ := h6 hne; ⟨ad, h, hc⟩⟩
    | false =>
      simp only [Bool.false_eq_true, if_false] at r
      obtain ⟨hb, r⟩ := runs_req r
      obtain ⟨rfl, _⟩ := runs_ret r
      exact ⟨b, k, us, hv, VRs_open (VRs_shutB hb h5), fun hne => let ⟨ad, h, _, hc⟩ := h6 hne; ⟨ad, h, hc⟩⟩
  · rename_i d s off len full
    rw [TV_good rfl, VV_mk rfl] at hx
    simp only [VR] at hx
    obtain ⟨_, hid, b, k, hv, h3, hne, h4, h5⟩ := hx
    injection hv with hv
    obtain ⟨blk, l', hb, r, _⟩ := runs_rd r
    have hB := R.bks d blk hb
    cases blk with
    | mp _ _ => exact (runs_fail r).elim
    | yld _ => exact (runs_fail r).elim
    | row s' xs =>
      dsimp only at r
      split at r
      · rename_i hss'
        subst hss'
        obtain ⟨⟨hfit, hno⟩, r⟩ := runs_req r
        obtain ⟨rfl, _⟩ := runs_ret r
        have hlen : ((xs.drop off).take len).length = len := by simp; omega
        obtain ⟨h0, hss, ⟨h1, h2, _⟩ | ⟨g, cs, ty, k', us, Fx, h1, h2, h3', h4', h5', h6, h7, h8⟩⟩ := hB
        · subst h2
          have hl0 : len = 0 := by simp at hfit; omega
          refine ⟨b, k, [], by rw [hlen]; exact hv, by simp [VRs], by simp⟩
        · obtain rfl := VRs_noown _ _ _ _ hno h6
          obtain ⟨us', h9, h10⟩ := row_src (e := envOf c st w loc S) hss h1 h4' h6 h7 hfit h3 h5
          exact ⟨b, k, us', by rw [hlen]; exact hv, h9, h10⟩
      · exact (runs_fail r).elim
    | froz s' xs =>
      dsimp only at r
      split at r
      · rename_i hss'
        subst hss'
        obtain ⟨hfit, r⟩ := runs_req r
        obtain ⟨rfl, _⟩ := runs_ret r
        have hlen : ((xs.drop off).take len).length = len := by simp; omega
        obtain ⟨_, h0, hss, ⟨h1, h2⟩ | ⟨g, cs, ty, us, h1, h2, h4', h5', h6, h7⟩⟩ := hB
        · subst h2
          refine ⟨b, k, [], by rw [hlen]; exact hv, by simp [VRs], by simp⟩
        · obtain ⟨us', h9, h10⟩ := row_src (e := envOf c st w loc S) hss h1 h4' h6 h7 hfit h3 h5
          exact ⟨b, k, us', by rw [hlen]; exact hv, VRs_open h9, h10⟩
      · exact (runs_fail r).elim
    | var z => exact (runs_fail r).elim
  · rename_i d p s off len
    rw [TV_good rfl, VV_mk rfl] at hx
    simp only [VR] at hx
    obtain ⟨_, hid, b, k, hv, h3, hne, h5⟩ := hx
    injection hv with hv
    obtain ⟨blk, l', hb, r, _⟩ := runs_rd r
    have hB := R.bks d blk hb
    cases blk with
    | mp _ _ => exact (runs_fail r).elim
    | yld _ => exact (runs_fail r).elim
    | row s' xs => exact (runs_fail r).elim
    | froz s' xs => exact (runs_fail r).elim
    | var z =>
      obtain ⟨z1, l1, l2, r1, r2, _⟩ := RM.runs_bind r
      split at r2
      · rename_i tot xs
        obtain ⟨⟨hfit, hno, hss⟩, r2⟩ := runs_req r2
        obtain ⟨rfl, _⟩ := runs_ret r2
        have hlen : ((xs.drop off).take len).length = len := by simp; omega
        obtain ⟨g, cs, ty, Fx, h1, h2, h3', h4⟩ := hB
        obtain ⟨pre, us, post, Fy, h6, h7, h8, h9⟩ := getP_sound p _ _ _ _ _ h3' r1
        simp only [VR] at h8
        obtain ⟨_, _, h8⟩ := h8
        obtain rfl := VRs_noown _ _ _ _ hno h8
        obtain ⟨pre', mid, post', rfl, h10, h11⟩ := VRs_drop_take hss h8 off len hfit
        refine ⟨b, k, mid, by rw [hlen]; exact hv, VRs_open h11, fun hne' => ?_⟩
        have hpos : 0 < len := by rw [← hlen]; exact List.length_pos_iff.2 hne'
        obtain ⟨g', hg', ⟨h, _⟩ | h⟩ := h5 _ h1
        · omega
        · injection hg' with hg'; subst hg'
          exact ⟨_, h, cells_at h2 (pre := pre ++ pre') (post := post' ++ post) ⟨[], by rw [h6]; simp⟩ (by simp [h7, h10])⟩
      · exact (runs_fail r2).elim
  · exact (runs_fail r).elim

theorem run_append_zero {t ty e : TypeId} {i : TypeInfo} {b b' : Option Addr} {n k k' : Nat} (ht : P.underlying t = some (.slice e)) (hi : P.info? e = some i) (hk : n ≤ k) :
    (Builtin.append_ #[t, t] ty #[.slice b n k, .slice b' 0 k']).run P w = .ok (.slice b n k) w := by
  have h1 : (Builtin.firstCells i.size 0 (.slice b' 0 k')).run P w = .ok #[] w := by
    cases b' <;> simp [Builtin.firstCells, loadCells, loadCellsFrom]
  cases b with
  | none => simp [Builtin.append_, run_underlying ht, sizeOf, typeInfo, hi, Builtin.lenOf, hk, h1]
  | some ad => simp [Builtin.append_, run_underlying ht, sizeOf, typeInfo, hi, Builtin.lenOf, hk, h1, storeCells]

theorem run_append_in {t ty e ty' : TypeId} {i : TypeInfo} {g n k m k' : Nat} {cur : Array Value} {ad : Addr} {news : List Value} (ht : P.underlying t = some (.slice e)) (hi : P.info? e = some i)
    (hg : w.heap[g]? = some (.cells cur ty' (0, 0))) (hl : news.length = m * i.size) (hnews : ∀ j u, news[j]? = some u → w.cell? (ad.add j) = some u) (h1 : ∀ u ∈ news, u.oneCell' = true)
    (hroom : n + m ≤ k) (hfit : n * i.size + news.length ≤ cur.size) :
    (Builtin.append_ #[t, t] ty #[.slice (some ⟨g, 0, none⟩) n k, .slice (some ad) m k']).run P w =
      .ok (.slice (some ⟨g, 0, none⟩) (n + m) k) (w.setRow g (cur.toList.take (n * i.size) ++ news ++ cur.toList.drop (n * i.size + news.length)).toArray) := by
  have hf := run_firstCells_some (P := P) w i.size m ad m k' news hl hnews
  have hst := run_storeCells_at P g (n * i.size) ty' news 0 cur w hg (by simpa using hfit) h1
  simp only [Nat.add_zero] at hst
  simp [Builtin.append_, run_underlying ht, sizeOf, typeInfo, hi, Builtin.lenOf, hroom, hf, Addr.add_lit, hst]

theorem exec_append {o : Oper} {k : Call} {x y : Operand} {t : TypeId} {v : Value} {w' : World} (ho : o.op = .call k) (hk : k.callee = .builtin .append) (hargs : k.args = #[x, y]) (hT : k.argTypes = #[t, t])
    (hr : (Builtin.append_ #[t, t] o.type #[a.eval x, a.eval y]).run P w = .ok v w') : (execOp a.eval o).run P w = .ok (.value v) w' := by
  simp only [execOp, ho, resolve, hk, hargs, hT, invoke, builtin, Sem.run_bind, Sem.run_pure, Result.andThen_ok, List.map_toArray, List.map_cons, List.map_nil, hr]

theorem size_zero {z : Array Value} {n : Nat} : (Builtin.zeroCells z n).size = n * z.size := size_zeroCells z n

theorem aAppend_sound {o : Oper} {k : Call} {x y : Operand} {t : TypeId} {n : Nat} {nilC : Bool} {p q : A} {eff : Eff} {rd : List Nat} (ho : o.op = .call k) (hk : k.callee = .builtin .append) (hargs : k.args = #[x, y]) (hT : k.argTypes = #[t, t])
    (R : RelW c st a w loc S Fm) (hn : st.ids n = false) (hnil : nilC = true → a.eval x = .slice none 0 0)
    (hx : TV p (envOf c st w loc S) (a.eval x)) (hy : TV q (envOf c st w loc S) (a.eval y))
    (r : RM.Runs st.bk (aAppend P n nilC t p q) eff rd) : Done P c (st.app eff) a o w eff.val := by
  unfold aAppend at r
  split at r
  · rename_i e s ht
    split at r
    · rename_i hs
      split at r
      · rename_i eb z heb hz
        split at r
        case isFalse => exact (runs_fail r).elim
        rename_i hzs
        obtain ⟨hu, hes⟩ := tSlice_some ht
        obtain ⟨i, v, hi, hv, hV⟩ := tZero_info hz
        have hsz : i.size = s := by
          obtain ⟨i', hi', h⟩ := tSize_some hes
          rw [hi] at hi'; injection hi' with hi'; subst hi'; exact h
        have hby : i.bytes = eb := by
          simp [tBytes, hi] at heb; exact heb
        have hvs : v.cells.size = s := by
          have := VR_len _ _ _ _ (hV (envOf c st w loc S))
          rw [hzs] at this
          simpa using this
        split at r
        · rename_i hnilC
          have hx0 := hnil hnilC
          obtain ⟨ys, l1, l2, r1, r2, _⟩ := RM.runs_bind r
          obtain ⟨⟨hys, hr1, hr2⟩, r2⟩ := runs_req r2
          obtain rfl := runs_effN r2
          obtain ⟨b, k', us, hyv, hus, hcell⟩ := appSrc_sound R hy r1
          by_cases hne : ys = []
          · subst hne
            have hrun : (execOp a.eval o).run P w = .ok (.value (.slice none 0 0)) w := by
              refine exec_append ho hk hargs hT ?_
              rw [hx0, hyv]
              exact run_append_zero hu hi (Nat.le_refl _)
            refine ⟨_, _, _, _, _, _, hrun, .inl rfl, R.nilRow hn hs _, ?_⟩
            rw [TV_good rfl, VV_mk rfl]
            simp only [VR]
            exact ⟨trivial, by simp [envOf, St.app], none, 0, by simp, by simp, by simp, by simp, fun l hl => by simp [envOf] at hl; subst hl; simp⟩
          · obtain ⟨ad, rfl, hcell2⟩ := hcell hne
            have hlen : 0 < ys.length := List.length_pos_iff.2 hne
            have husl : us.length = ys.length * i.size := by rw [VRs_len _ _ _ _ hus, szs_const hys, hsz]
            have hr2' : ys.length * i.bytes ≤ 281474976710656 := by rw [hby]; simp at hr2; omega
            have hrun := run_append_nil (P := P) w t o.type e i v hu hi hv ad ys.length k' us husl hcell2 hlen (by omega) hr2'
            have hge := grownCap_ge w ys.length 0 e
            have hcm := grownCap_le_maxLen w ys.length 0 e (by simp [maxLen]; omega)
            refine done_row (s := s) (w1 := w.drew) (k := grownCap w ys.length 0 e) (us := us) R hn rfl rfl rfl rfl hs hys hus hge hcm ?_ ?_ (exec_append ho hk hargs hT (by rw [hx0, hyv]; exact hrun))
            · simp only [Array.size_append, List.size_toArray, size_zero, hvs, husl, hsz, ← Nat.add_mul]
              congr 1; omega
            · simp
        · split at r
          · rename_i d s' off len full
            split at r
            · rename_i hc
              obtain ⟨rfl, rfl, rfl⟩ := hc
              obtain ⟨blk, l', hb, r, _⟩ := runs_rd r
              cases blk with
              | mp _ _ => exact (runs_fail r).elim
              | yld _ => exact (runs_fail r).elim
              | froz s' xs => exact (runs_fail r).elim
              | var z => exact (runs_fail r).elim
              | row s2 xs =>
                dsimp only at r
                split at r
                · rename_i hs2
                  subst hs2
                  obtain ⟨ys, l1, l2, r1, r2, _⟩ := RM.runs_bind r
                  obtain ⟨⟨hlenx, hys, hr1, hr2⟩, r2⟩ := runs_req r2
                  obtain ⟨rfl, _⟩ := runs_ret r2
                  subst hlenx
                  obtain ⟨b, k', us, hyv, hus, hcell⟩ := appSrc_sound R hy r1
                  rw [TV_good rfl, VV_mk rfl] at hx
                  simp only [VR] at hx
                  obtain ⟨_, hid, bx, kx, hxv, h3, hnex, _, h5⟩ := hx
                  injection hxv with hxv
                  have hB := R.bks d _ hb
                  have hdn : d ≠ n := fun e => by
                    subst e
                    have := R.known d (by rw [hb]; simp)
                    rw [hn] at this; cases this
                  obtain ⟨h0, hss, hB⟩ := hB
                  have hall : ∀ z ∈ xs ++ ys, z.sz = s2 := fun z hz => by
                    rcases List.mem_append.1 hz with hz | hz
                    · exact hss z hz
                    · exact hys z hz
                  by_cases hne : ys = []
                  · -- nothing is put behind
                    subst hne
                    have hrun : (execOp a.eval o).run P w = .ok (.value (.slice bx xs.length kx)) w := by
                      refine exec_append ho hk hargs hT ?_
                      rw [hxv, hyv]
                      exact run_append_zero hu hi h3
                    refine ⟨_, _, _, _, _, _, hrun, .inl rfl, R.rename (n := n) hb hn _ (by intro t; rfl) rfl (fun x => ?_) (fun x => ?_), ?_⟩
                    · simp [St.app, upd]
                    · simp [St.app]
                      by_cases hxn : x = n <;> simp [hxn]
                    · rw [TV_good rfl, VV_mk rfl]
                      simp only [VR]
                      refine ⟨trivial, by simp [envOf, St.app], bx, kx, by simp, by simpa using h3, by simpa using hnex, by simp, fun l hl => ?_⟩
                      simp [envOf] at hl
                      have := h5 l hl
                      cases l with
                      | none => simpa using this
                      | some g => simp at this ⊢; exact this
                  · obtain ⟨ad, rfl, hcell2⟩ := hcell hne
                    have hlen : 0 < ys.length := List.length_pos_iff.2 hne
                    have husl : us.length = ys.length * i.size := by rw [VRs_len _ _ _ _ hus, szs_const hys, hsz]
                    have h63 : xs.length + ys.length ≤ maxLen := by simp [maxLen]; omega
                    rcases hB with ⟨hl1, hx1, hF1⟩ | ⟨g, cs, ty, kc, usx, Fx, hl1, hkc, hkm, hg, hcs, hxs, htake, hF⟩
                    · -- the row is nil
                      subst hx1
                      have := h5 _ hl1
                      simp only at this
                      obtain ⟨_, _, rfl, rfl⟩ := this
                      have hr2' : ys.length * i.bytes ≤ 281474976710656 := by rw [hby]; simp at hr2; omega
                      have hrun := run_append_nil (P := P) w t o.type e i v hu hi hv ad ys.length k' us husl hcell2 hlen (by omega) hr2'
                      have hge := grownCap_ge w ys.length 0 e
                      have hcm := grownCap_le_maxLen w ys.length 0 e (by simp [maxLen]; omega)
                      have hcsz : (us.toArray ++ Builtin.zeroCells v.cells (grownCap w ys.length 0 e - ys.length)).size = grownCap w ys.length 0 e * s2 := by
                        simp only [Array.size_append, List.size_toArray, size_zero, hvs, husl, hsz, ← Nat.add_mul]
                        congr 1; omega
                      have hnew : (w.drew.alloc (.cells (us.toArray ++ Builtin.zeroCells v.cells (grownCap w ys.length 0 e - ys.length)) e)).heap[w.heap.size]? = some (.cells (us.toArray ++ Builtin.zeroCells v.cells (grownCap w ys.length 0 e - ys.length)) e (0, 0)) := heap_alloc_new w.drew _
                      refine ⟨_, _, _, _, _, _, exec_append ho hk hargs hT (by rw [hxv, hyv]; exact hrun), .inl rfl,
                        R.regrow (n := n) hb hn (st.app ⟨_, _, _⟩) (.row s2 ([] ++ ys)) (by intro t; rfl) rfl (fun x => ?_) (fun x => ?_) _ e w.drew rfl rfl rfl rfl [] (by simp) List.nodup_nil (fun e' he1 he2 he3 => ?_), ?_⟩
                      · simp [St.app, upd]
                      · simp [St.app]
                        by_cases hxn : x = n <;> simp [hxn]
                      · refine ⟨hs, by simpa using hys, .inr ⟨w.heap.size, _, e, grownCap w ys.length 0 e, us, [], he2, by simpa using hge, hcm, by rw [he1]; exact hnew, hcsz, ?_, by simp, rfl⟩⟩
                        simpa using VRs_mono _ _ _ _ _ (he3 [] (by simp)) hus
                      · simpa using TV_newRow (n := n) (s := s2) (len := ys.length) (by simp [envOf, St.app]) (by simp [envOf]) hge hnew hcsz
                    · -- the row is a block
                      have := h5 _ hl1
                      simp only [ne_eq, not_true_eq_false, and_false, false_or, Nat.zero_mul, Nat.zero_add] at this
                      obtain ⟨hbx, hshape⟩ := this
                      subst hbx
                      have hshape' := hshape trivial
                      have hsh2 : ((envOf c st w loc S).w.shape? g).map (·.2) = some cs.size := by
                        have : (envOf c st w loc S).w.shape? g = some (ty, cs.size) := shape_cells hg
                        rw [this]; rfl
                      rw [hsh2] at hshape'
                      injection hshape' with hcs2
                      have hkk : kx = kc := by
                        rw [hcs] at hcs2
                        exact (Nat.eq_of_mul_eq_mul_right hs hcs2).symm
                      subst hkk
                      have husx : usx.length = xs.length * i.size := by rw [VRs_len _ _ _ _ hxs, szs_const hss, hsz]
                      by_cases hroom : xs.length + ys.length ≤ kx
                      · have hfit : xs.length * i.size + us.length ≤ cs.size := by rw [husl, hcs, hsz, ← Nat.add_mul]; exact Nat.mul_le_mul_right _ hroom
                        have h1c := VRs_one _ _ _ _ hus
                        have hrun := run_append_in (P := P) (ty := o.type) (n := xs.length) (k := kx) (k' := k') hu hi hg husl hcell2 h1c hroom hfit
                        have htk : cs.toList.take (xs.length * i.size) = usx := by rw [← husx]; exact htake
                        rw [htk] at hrun
                        obtain ⟨rest, hrest⟩ : ∃ rest, rest = cs.toList.drop (xs.length * i.size + us.length) := ⟨_, rfl⟩
                        rw [← hrest] at hrun
                        have hrl : rest.length = cs.size - (xs.length * i.size + us.length) := by rw [hrest]; simp
                        have hnsz : (usx ++ us ++ rest).toArray.size = cs.size := by simp [husx, hrl]; omega
                        have R1 := R.rewrite (d := d) (g := g) (b' := .row s2 (xs ++ ys)) (cs' := (usx ++ us ++ rest).toArray) (F' := g :: Fx) (by rw [hb]; simp) hg (by rw [hF]; simp) hnsz (by rw [hF]; simp) (hF ▸ R.nodup d) A.und
                          (fun e' he1 he2 he3 => by
                            have hnd := hF ▸ R.nodup d
                            refine ⟨hs, hall, .inr ⟨g, _, ty, kx, usx ++ us, Fx, by rw [he2]; exact hl1, by simpa using hroom, hkm, by rw [he1]; exact setRow_cells _ hg, by rw [hnsz, hcs], ?_, ?_, rfl⟩⟩
                            · have hle := he3 Fx fun x hx => ⟨R.fmLt (d := d) (by rw [hF]; simp [hx]), fun hxg => by subst hxg; simp [hx] at hnd⟩
                              have h1 := VRs_mono _ _ _ _ _ hle hxs
                              have h2 := VRs_mono _ _ _ _ _ (hle.sub (F' := []) (by simp)) hus
                              simpa using VRs_append _ _ _ _ _ _ _ h1 h2
                            · rw [List.toList_toArray]
                              exact List.take_left' rfl)
                        have hn1 : (st.app ⟨A.und, [(d, some (.row s2 (xs ++ ys)))], []⟩).ids n = false := by simp [St.app, hn]
                        refine ⟨_, _, _, _, _, _, exec_append ho hk hargs hT (by rw [hxv, hyv]; exact hrun), .inl rfl,
                          R1.rename (n := n) (d := d) (s := s2) (xs := xs ++ ys) (by simp [St.app, upd]) hn1 _ (by intro t; rfl) rfl (fun x => ?_) (fun x => ?_), ?_⟩
                        · simp only [St.app, upd, List.foldl_cons, List.foldl_nil]
                          by_cases hxn : x = n
                          · simp [hxn]
                          · by_cases hxd : x = d <;> simp [hxn, hxd]
                        · simp [St.app]
                          by_cases hxn : x = n <;> simp [hxn]
                        · rw [TV_good rfl, VV_mk rfl]
                          simp only [VR]
                          refine ⟨trivial, by simp [envOf, St.app], _, _, rfl, hroom, fun _ => ⟨_, rfl⟩, by simp, fun l hl => ?_⟩
                          simp only [envOf, if_true] at hl
                          have hl1' : loc d = some (some g) := hl1
                          rw [hl1'] at hl
                          injection hl with hl
                          subst hl
                          refine .inr ⟨by simp, fun _ => ?_⟩
                          have : (envOf c (st.app ⟨.ref n s2 0 (xs.length + ys.length) false, [(d, none), (n, some (.row s2 (xs ++ ys)))], [n]⟩) (w.setRow g (usx ++ us ++ rest).toArray) (fun x => if x = n then loc d else if x = d then none else loc x) S).w.shape? g = some (ty, (usx ++ us ++ rest).toArray.size) :=
                            shape_cells (setRow_cells _ hg)
                          rw [this, hnsz, hcs]; simp
                      · -- a new block
                        have holds : ∀ j u, usx[j]? = some u → w.cell? ((⟨g, 0, none⟩ : Addr).add j) = some u := by
                          obtain ⟨rest, hrest⟩ := take_append_drop' htake
                          exact cells_at (pre := []) (post := []) hg ⟨rest, by simpa using hrest⟩ rfl
                        have hr2' : (xs.length + ys.length) * i.bytes ≤ 140737488355328 := by rw [hby]; exact hr2
                        have hrun := run_append_grow (P := P) w t o.type e i v hu hi hv ⟨g, 0, none⟩ xs.length kx usx husx holds ad ys.length k' us husl hcell2 (by omega) (by omega) (growslice_fits (by omega) hr2')
                        have hge := grownCap_ge w (xs.length + ys.length) kx e
                        have hcm := grownCap_le_maxLen w (xs.length + ys.length) kx e h63
                        generalize hK : grownCap w (xs.length + ys.length) kx e = K at hrun hge hcm
                        have hcsz : (usx.toArray ++ us.toArray ++ Builtin.zeroCells v.cells (K - (xs.length + ys.length))).size = K * s2 := by
                          simp only [Array.size_append, List.size_toArray, size_zero, hvs, husl, husx, hsz, ← Nat.add_mul]
                          congr 1; omega
                        have hnew : (w.drew.alloc (.cells (usx.toArray ++ us.toArray ++ Builtin.zeroCells v.cells (K - (xs.length + ys.length))) e)).heap[w.heap.size]? = some (.cells (usx.toArray ++ us.toArray ++ Builtin.zeroCells v.cells (K - (xs.length + ys.length))) e (0, 0)) := heap_alloc_new w.drew _
                        have hnd := hF ▸ R.nodup d
                        refine ⟨_, _, _, _, _, _, exec_append ho hk hargs hT (by rw [hxv, hyv]; exact hrun), .inl rfl,
                          R.regrow (n := n) hb hn (st.app ⟨_, _, _⟩) (.row s2 (xs ++ ys)) (by intro t; rfl) rfl (fun x => ?_) (fun x => ?_) _ e w.drew rfl rfl rfl rfl Fx (fun x hx => by rw [hF]; simp [hx]) (List.nodup_cons.1 hnd).2 (fun e' he1 he2 he3 => ?_), ?_⟩
                        · simp [St.app, upd]
                        · simp [St.app]
                          by_cases hxn : x = n <;> simp [hxn]
                        · refine ⟨hs, hall, .inr ⟨w.heap.size, _, e, K, usx ++ us, Fx, he2, by simpa using hge, hcm, by rw [he1]; exact hnew, hcsz, ?_, by simp only [Array.toList_append]; exact List.take_left' rfl, rfl⟩⟩
                          have hle := he3 Fx fun x hx => R.fmLt (d := d) (by rw [hF]; simp [hx])
                          have h1 := VRs_mono _ _ _ _ _ hle hxs
                          have h2 := VRs_mono _ _ _ _ _ (hle.sub (F' := []) (by simp)) hus
                          simpa using VRs_append _ _ _ _ _ _ _ h1 h2
                        · exact TV_newRow (n := n) (s := s2) (len := xs.length + ys.length) (by simp [envOf, St.app]) (by simp [envOf]) hge hnew hcsz
                · exact (runs_fail r).elim
            · exact (runs_fail r).elim
          · exact (runs_fail r).elim
      · exact (runs_fail r).elim
    · exact (runs_fail r).elim
  · exact (runs_fail r).elim

end
/-! maps -/
section
variable {P : Program} {c : Ctx} {st : St} {a : Act} {w : World} {loc : Nat → Option (Option Nat)} {S : Nat → Prop} {Fm : Nat → List Nat}

def CheckOk (P : Program) (em : Bool) (f : TypeId → Option EqT) (D : Nat) : Prop := ∀ (t : TypeId) (k : EqT), f t = some k → ∀ (a : A) (x : Value) (e : Env) (w : World), fitE k a → VV a e x [] →
  (Instr.checkKey em D t x).run P w = .ok () w

theorem fields_check {em : Bool} {f : TypeId → Option EqT} {D : Nat} (IH : CheckOk P em f D) (w : World) (cs : Array Value) {e : Env} : ∀ (fl : List Field) (k : EqFs) (o : Nat) (xs : List A) (pre us : List Value), eqTs P f fl = some k →
    fitEs k o xs → cs.toList = pre ++ us → pre.length = o → VRs xs e us [] →
    ∀ g ∈ fl, g.name ≠ "_" ∧ ∃ y, (part g.type cs g.offset).run P w = .ok y w ∧ (Instr.checkKey em D g.type y).run P w = .ok () w
  | [], k, o, xs, pre, us, hk, h1, _, _, _ => by simp
  | g :: fl, k, o, xs, pre, us, hk, h1, c1, l1, v1 => by
    simp only [eqTs] at hk
    split at hk
    · cases hk
    · rename_i hname
      split at hk
      · rename_i k1 s ag r hf hs hag hr
        injection hk with hk
        subst hk
        cases xs with
        | nil => simp only [fitEs] at h1
        | cons x xs =>
          simp only [fitEs] at h1
          obtain ⟨⟨ho, hxs, hxa⟩, hx, hxr⟩ := h1
          simp only [VRs] at v1
          obtain ⟨u1, u2, F1, F2, rfl, hF, v11, v12⟩ := v1
          obtain ⟨rfl, rfl⟩ := List.append_eq_nil_iff.1 hF.symm
          obtain ⟨z1, p1, q1⟩ := part_run (P := P) (w := w) (t := g.type) (off := g.offset) (cs := cs) (pre := pre) (us := u1) (post := u2) (by rw [c1, List.append_assoc]) (by omega) v11 (by rw [hs, hxs]) (by rw [hag, hxa])
          have e1 := IH _ _ hf x z1 e w hx q1
          have hl1 : (pre ++ u1).length = o + s := by
            have := VR_len _ _ _ _ v11
            simp; omega
          have rest := fields_check IH w cs fl r (o + s) xs (pre ++ u1) u2 hr hxr (by rw [c1, List.append_assoc]) hl1 v12
          intro g' hg'
          rcases List.mem_cons.1 hg' with rfl | hg'
          · exact ⟨hname, z1, p1, e1⟩
          · exact rest g' hg'
      · cases hk

theorem checkKey_fit (em : Bool) : ∀ (d D : Nat), CheckOk P em (eqT P d) (D + d + 1)
  | 0, D => fun t k hk => by simp [eqT] at hk
  | d + 1, D => fun t k hk a x e w ha hx => by
    have IH := checkKey_fit em d D
    have hD : D + (d + 1) + 1 = (D + d + 1) + 1 := rfl
    rw [hD]
    simp only [eqT] at hk
    split at hk
    · rename_i hu
      injection hk with hk; subst hk
      obtain ⟨p, rfl⟩ := fitE_bool ha
      rw [VV_mk rfl] at hx
      simp only [VR, List.cons.injEq, and_true] at hx
      obtain ⟨_, rfl⟩ := hx
      simp [Instr.checkKey, run_underlying hu]
    · rename_i k' hu
      injection hk with hk; subst hk
      obtain ⟨p, rfl⟩ := fitE_int ha
      rw [VV_mk rfl] at hx
      simp only [VR, List.cons.injEq, and_true] at hx
      obtain ⟨_, rfl⟩ := hx
      simp [Instr.checkKey, run_underlying hu]
    · rename_i n e' hu
      split at hk
      · rename_i k1 s hi hs
        split at hk
        · rename_i hs1
          injection hk with hk; subst hk; subst hs1
          obtain ⟨xs, rfl, hla, hia⟩ := fitE_ints ha
          rw [VV_mk_agg rfl] at hx
          obtain ⟨cs, rfl, hx⟩ := hx
          simp only [VR] at hx
          obtain ⟨l1, j1⟩ := ints_cells hia hx.2.2
          obtain ⟨i, hi1, hi2⟩ := tSize_some hs
          have hue : P.underlying e' = some (.int k1) := by
            unfold tInt at hi
            split at hi
            · rename_i kk hh; injection hi with hi; subst hi; exact hh
            · cases hi
          have hag : tAgg P e' = some false := by simp [tAgg, hue]
          have each : ∀ j ∈ List.range' 0 n, ∃ y, (part e' cs (j * 1)).run P w = .ok y w ∧ (Instr.checkKey em (D + d + 1) e' y).run P w = .ok () w := by
            intro j hj
            have hlt : j < xs.length := by
              have := List.mem_range'.1 hj
              obtain ⟨q, hq, rfl⟩ := this
              omega
            obtain ⟨v, hv, hc⟩ := j1 j _ (List.getElem?_eq_getElem hlt)
            rw [Array.getElem?_toList] at hc
            refine ⟨.int k1 v, by simp [part, run_isAgg hag, hc], by simp [Instr.checkKey, run_underlying hue]⟩
          rw [Instr.checkKey]
          simp only [Sem.run_bind, run_underlying hu, Result.andThen_ok]
          simp only [Std.Legacy.Range.forIn_eq_forIn_range', Std.Legacy.Range.size, Nat.sub_zero, Nat.add_one_sub_one, Nat.div_one]
          generalize List.range' 0 n = is at each
          induction is with
          | nil => simp
          | cons j is ih =>
            obtain ⟨y, p1, p2⟩ := each j (by simp)
            simp only [List.forIn_cons, Sem.run_bind, run_sizeOf hs w, Result.andThen_ok, p1, p2, Sem.run_pure]
            exact ih (fun y hy => each y (by simp [hy]))
        · cases hk
      · cases hk
    · rename_i fs hu
      split at hk
      · cases hk
      · simp only [Option.map_eq_some_iff] at hk
        obtain ⟨kf, hkf, rfl⟩ := hk
        obtain ⟨xs, rfl, ha⟩ := fitE_agg ha
        rw [VV_mk_agg rfl] at hx
        obtain ⟨cs, rfl, hx⟩ := hx
        simp only [VR] at hx
        have each := fields_check IH w cs fs.toList kf 0 xs [] cs.toList hkf ha rfl rfl hx
        rw [Instr.checkKey]
        simp only [Sem.run_bind, run_underlying hu, Result.andThen_ok]
        rw [← Array.forIn_toList]
        generalize fs.toList = L at each
        induction L with
        | nil => simp
        | cons f L ih =>
          obtain ⟨hn, y, p1, p2⟩ := each f (by simp)
          simp only [List.forIn_cons, Sem.run_bind, hn, ne_eq, not_false_eq_true, if_true, Result.andThen_ok, p1, p2, Sem.run_pure]
          exact ih (fun y hy => each y (by simp [hy]))
    · cases hk

theorem find_fit {kt : TypeId} {q : EqT} (hk : eqT P 8 kt = some q) {k : A} {y : Value} {e1 e2 e3 : Env} (hf : fitE q k) (hy : VV k e1 y []) (w : World) :
    ∀ (ks vs : List A) (es : List MapEntry) (i : Nat) (Fx : List Nat), keysFit q ks → VVs ks e2 (es.map (·.key)) [] → VVs vs e3 (es.map (·.val)) Fx →
      (findA k ks vs = none → (Instr.findAsking kt y es i).run P w = .ok none w) ∧
      (∀ v, findA k ks vs = some v → v ∈ vs ∧ ∃ j z F, (Instr.findAsking kt y es i).run P w = .ok (some (j, z)) w ∧ VV v e3 z F)
  | ks, vs, [], i, Fx, hq, h1, h2 => by
    cases ks with
    | nil => simp [findA, Instr.findAsking]
    | cons x ks => simp [VVs] at h1
  | [], vs, m :: es, i, Fx, hq, h1, h2 => by simp [VVs] at h1
  | x :: ks, [], m :: es, i, Fx, hq, h1, h2 => by simp [VVs] at h2
  | x :: ks, v :: vs, m :: es, i, Fx, hq, h1, h2 => by
    simp only [VVs, List.map_cons, List.cons.injEq] at h1 h2
    obtain ⟨_, _, F1, F2, ⟨rfl, rfl⟩, hF, h3, h4⟩ := h1
    obtain ⟨rfl, rfl⟩ := List.append_eq_nil_iff.1 hF.symm
    obtain ⟨_, _, G1, G2, ⟨rfl, rfl⟩, hG, h5, h6⟩ := h2
    have he : (Op.equal kt y m.key).run P w = .ok (@decide (k = x) (Classical.propDecidable _)) w := equal_fit (P := P) 8 9991 kt q hk k x y m.key _ _ w hf (hq x (by simp)) hy h3
    have ih := find_fit hk hf hy w ks vs es (i + 1) G2 (fun z hz => hq z (by simp [hz])) h4 h6
    simp only [Instr.findAsking, Sem.run_bind, he, Result.andThen_ok, findA]
    by_cases hkx : k = x
    · subst hkx
      simp only [decide_true, if_true]
      exact ⟨fun h => by simp at h, fun v' hv => by simp at hv; subst hv; exact ⟨by simp, i, m.val, G1, rfl, h5⟩⟩
    · simp only [hkx, decide_false, Bool.false_eq_true, if_false]
      exact ⟨ih.1, fun v' hv => ⟨by simp [(ih.2 v' hv).1], (ih.2 v' hv).2⟩⟩

theorem findA_none {k : A} : ∀ {ks vs : List A}, k ∉ ks → findA k ks vs = none
  | [], vs, _ => by simp [findA]
  | x :: ks, [], _ => by simp [findA]
  | x :: ks, v :: vs, h => by
    simp only [List.mem_cons, not_or] at h
    simp only [findA, if_neg h.1]
    exact findA_none h.2

theorem wide_find {kt : TypeId} (h : wideKey P kt = true) (y : Value) (es : List MapEntry) (w : World) : (Instr.findKey kt y es).run P w = (Instr.findAsking kt y es).run P w := by
  unfold wideKey at h
  cases hu : P.underlying kt with
  | none => simp [hu] at h
  | some kd =>
    cases es with
    | nil => simp [Instr.findKey, run_underlying hu, Instr.findNow, Instr.findAsking]
    | cons e es => cases kd <;> simp [hu] at h <;> simp [Instr.findKey, run_underlying hu, Instr.findNow, Instr.sameNow]

theorem tMap_some {t kt et : TypeId} (h : tMap P t = some (kt, et)) : P.underlying t = some (.map kt et) := by
  unfold tMap at h
  split at h
  · rename_i k e hu
    injection h with h
    injection h with h1 h2
    subst h1 h2
    exact hu
  · cases h

theorem tZero_VV {t : TypeId} {z : A} (h : tZero P t = some z) (hs : z.sz ≠ 1) : ∃ v, (∀ w, (zeroValue t).run P w = .ok v w) ∧ (z.isAgg = true → ∀ e, VV z e v []) := by
  obtain ⟨v, h1, h2⟩ := tZero_some h
  refine ⟨v, h1, fun hag e => ?_⟩
  rw [VV_mk_agg hag]
  have hv := h2 e
  have hl := VR_len _ _ _ _ hv
  cases v <;> first | exact ⟨_, rfl, hv⟩ | (simp [Value.cells] at hl; omega)

theorem aLookup_sound {o : Oper} {t : TypeId} {x ix : Operand} {ok : Bool} {m k : A} {eff : Eff} {l : List Nat} (ho : o.op = .lookup t x ix ok) (R : RelW c st a w loc S Fm)
    (hx : TV m (envOf c st w loc S) (a.eval x)) (hk : TV k (envOf c st w loc S) (a.eval ix)) (r : RM.Runs st.bk (aLookup P t ok m k) eff l) : Done P c (st.app eff) a o w eff.val := by
  unfold aLookup at r
  split at r
  · rename_i d
    obtain ⟨b, l', hb, r, _⟩ := runs_rd r
    have hB := R.bks d b hb
    split at r
    · rename_i ks vs
      split at r
      · rename_i kt et ht
        split at r
        · rename_i q z hq hz
          split at r
          · rename_i hg
            simp only [Bool.and_eq_true, bne_iff_ne, ne_eq] at hg
            obtain ⟨⟨⟨hw, hzg⟩, hza⟩, hzs⟩ := hg
            obtain ⟨⟨f1, f2, f3⟩, r⟩ := runs_req r
            rw [TV_good rfl, VV_mk rfl] at hx
            simp only [VR] at hx
            obtain ⟨_, hid, g, hxe, hloc⟩ := hx
            injection hxe with hxe
            obtain ⟨g', es, clock, Fx, h0, h1, h2, h3, h4, h5⟩ := hB
            have := hloc _ h0
            injection this with this
            subst this
            have hkv := TV_fit f1 hk
            have hu := tMap_some ht
            obtain ⟨zv, hz1, hz2⟩ := tZero_VV hz hzs
            have hz2 := hz2 hza (envOf c st w loc S)
            have hc : (Instr.checkKey es.isEmpty 10000 kt (a.eval ix)).run P w = .ok () w := checkKey_fit es.isEmpty 8 9991 kt q hq k _ _ w f1 hkv
            have hf := find_fit hq f1 hkv w ks vs es.toList 0 Fx f2 h3 h4
            have hfk : ∀ es', (Instr.findKey kt (a.eval ix) es').run P w = (Instr.findAsking kt (a.eval ix) es').run P w := fun es' => wide_find hw _ _ w
            have hgo : (getObj g').run P w = .ok (.map es clock) w := MapKept.run_getObj_map (show w.heap[g']? = some (.map es clock) from h1)
            unfold lookOut at r
            cases hfa : findA k ks vs with
            | none =>
              rw [hfa] at r
              have h6 := hf.1 hfa
              have hrun : ∀ ok', (Instr.lookup t (a.eval x) (a.eval ix) ok').run P w = .ok (if ok' then .tuple #[zv, .bool false] else zv) w := by
                intro ok'
                simp [Instr.lookup, hxe, run_underlying hu, hgo, hc, hfk, h6, hz1]
              refine done_effV R r (y := if ok then .tuple #[zv, .bool false] else zv) (by simp [execOp, ho, hrun]) ?_
              cases ok
              · simp only [Option.getD_none, Bool.false_eq_true, if_false]
                exact (TV_good hzg).2 hz2
              · simp only [Option.getD_none, if_true, Option.isSome_none]
                exact ⟨[zv, .bool false], rfl, zv, [.bool false], [], [], rfl, rfl, hz2, .bool false, [], [], [], rfl, rfl, .inr ⟨rfl, by simp [VR, plainV]⟩, rfl, rfl⟩
            | some v =>
              rw [hfa] at r
              obtain ⟨hv, j, zz, F, h6, h7⟩ := hf.2 v hfa
              obtain ⟨hvg, hvn⟩ := f3 v hv
              have hF : F = [] := by
                rcases h7 with ⟨_, cs, _, h7⟩ | ⟨_, h7⟩
                · exact VR_noown _ _ _ _ hvn h7
                · exact VR_noown _ _ _ _ hvn h7
              subst hF
              have hrun : ∀ ok', (Instr.lookup t (a.eval x) (a.eval ix) ok').run P w = .ok (if ok' then .tuple #[zz, .bool true] else zz) w := by
                intro ok'
                simp [Instr.lookup, hxe, run_underlying hu, hgo, hc, hfk, h6]
              refine done_effV R r (y := if ok then .tuple #[zz, .bool true] else zz) (by simp [execOp, ho, hrun]) ?_
              cases ok
              · simp only [Option.getD_some, Bool.false_eq_true, if_false]
                exact (TV_good hvg).2 h7
              · simp only [Option.getD_some, if_true, Option.isSome_some]
                exact ⟨[zz, .bool true], rfl, zz, [.bool true], [], [], rfl, rfl, h7, .bool true, [], [], [], rfl, rfl, .inr ⟨rfl, by simp [VR, plainV]⟩, rfl, rfl⟩
          · exact (runs_fail r).elim
        · exact (runs_fail r).elim
      · exact (runs_fail r).elim
    · exact (runs_fail r).elim
  · exact (runs_fail r).elim

theorem map_set {w : World} {g : Nat} {o o' : Obj} (h : w.heap[g]? = some o) (w' : World) (hw : w' = { w with heap := w.heap.setIfInBounds g o' }) :
    w'.heap[g]? = some o' ∧ (∀ x, x ≠ g → w'.heap[x]? = w.heap[x]?) ∧ w'.heap.size = w.heap.size := by
  subst hw
  have hlt : g < w.heap.size := (Array.getElem?_eq_some_iff.1 h).1
  refine ⟨by simp [hlt], fun x hx => by simp [Ne.symm hx], by simp⟩

theorem shape_map {w : World} {g : Nat} {es : Array MapEntry} {k : Nat} (h : w.heap[g]? = some (.map es k)) : w.shape? g = none := by simp [World.shape?, h]
theorem frozen_map {w : World} {x : Addr} {es : Array MapEntry} {k : Nat} (h : w.heap[x.block]? = some (.map es k)) : w.frozen? x = false := by simp [World.frozen?, h]

/-- A map of the frame's own is written over. -/
theorem RelW.remap (R : RelW c st a w loc S Fm) {d g : Nat} {b' : Blk} {es es' : Array MapEntry} {k k' : Nat} (hlive : st.bk d ≠ none) (hg : w.heap[g]? = some (.map es k)) (hgF : g ∈ Fm d) (z : A) (w' : World)
    (hw : w' = { w with heap := w.heap.setIfInBounds g (.map es' k') })
    (hB : ∀ e', e'.w = w' → e'.loc = loc → (∀ F : List Nat, (∀ x ∈ F, x < w.heap.size ∧ x ≠ g) → (envOf c st w loc S).Le e' F) → BkR e' d b' (Fm d)) :
    RelW c (st.app ⟨z, [(d, some b')], []⟩) a w' loc S Fm := by
  obtain ⟨hnew, hother, hsize⟩ := map_set hg w' hw
  have hst : Step c st w loc S Fm (fun x => x = g) (st.app ⟨z, [(d, some b')], []⟩) w' loc S Fm := by
    refine ⟨fun t => rfl, rfl, fun x hx => ⟨d, by rw [hx]; exact hgF⟩, fun x _ hx => hother x hx, fun x hx => ?_, by omega, by rw [hw], by rw [hw], by rw [hw], fun _ h => h, fun _ h => .inl h,
      fun x hx => by have := R.fram.bd x (.inl hx); omega, fun d hd => by simp [St.app, hd], fun _ _ _ h => h, fun x => ?_⟩
    · by_cases hxg : x = g
      · subst hxg
        rw [shape_map hg, shape_map hnew]
      · rw [shape_of_heap (hother x hxg)]
    · by_cases hxg : x.block = g
      · rw [frozen_map (by rw [hxg]; exact hnew), frozen_map (by rw [hxg]; exact hg)]
      · exact frozen_heap (hother _ hxg)
  refine R.next hst (fun d' b hb' => ?_) (fun d' hd => ?_) (fun d' hd => ?_) R.nodup R.disj (fun d' x hx => ⟨.inl ⟨d', hx⟩, (R.own d' x hx).1, by have := R.fmLt hx; omega⟩)
  · by_cases hd : d' = d
    · subst hd
      simp only [St.app, List.foldl_cons, List.foldl_nil, upd, if_true] at hb'
      injection hb' with hb'
      subst hb'
      right
      exact hB _ rfl rfl fun F hF => hst.le R hF
    · simp only [St.app, List.foldl_cons, List.foldl_nil, upd, if_neg hd] at hb'
      exact .inl ⟨hb', rfl, rfl, fun x hx hxg => R.disj d' d hd x hx (hxg ▸ hgF)⟩
  · have hne : d' ≠ d := fun e => by subst e; simp [St.app, upd] at hd
    simp only [St.app, List.foldl_cons, List.foldl_nil, upd, if_neg hne] at hd
    exact R.dead d' hd
  · by_cases hdn : d' = d
    · subst hdn; simp [St.app, R.known d' hlive]
    · simp only [St.app, List.foldl_cons, List.foldl_nil, upd, if_neg hdn] at hd
      simp [St.app, R.known d' hd]

theorem VVs_end : ∀ {xs : List A} {e : Env} {vs : List Value} {F : List Nat} {x : A} {y : Value}, VVs xs e vs F → VV x e y [] → VVs (xs ++ [x]) e (vs ++ [y]) F
  | [], e, vs, F, x, y, h, hx => by
    simp only [VVs] at h
    obtain ⟨rfl, rfl⟩ := h
    exact ⟨y, [], [], [], rfl, rfl, hx, rfl, rfl⟩
  | z :: xs, e, vs, F, x, y, h, hx => by
    simp only [VVs] at h
    obtain ⟨u, us, F1, F2, rfl, rfl, h1, h2⟩ := h
    exact ⟨u, us ++ [y], F1, F2, rfl, rfl, h1, VVs_end h2 hx⟩

theorem bornOk_push {es : Array MapEntry} {k : Nat} (h : bornOk es k) (x y : Value) : bornOk (es.push ⟨x, y, k⟩) (k + 1) := by
  obtain ⟨h1, h2⟩ := h
  refine ⟨fun m hm => ?_, ?_⟩
  · simp only [Array.toList_push, List.mem_append, List.mem_singleton] at hm
    rcases hm with hm | rfl
    · have := h1 m hm; omega
    · simp
  · simp only [Array.toList_push, List.map_append, List.map_cons, List.map_nil]
    rw [List.nodup_append]
    refine ⟨h2, by simp, fun b hb b' hb' => ?_⟩
    simp only [List.mem_singleton] at hb'
    obtain ⟨m, hm, rfl⟩ := List.mem_map.1 hb
    have := h1 m hm
    omega

theorem aMapAdd_sound {o : Oper} {t : TypeId} {x ix xv : Operand} {m k v : A} {eff : Eff} {l : List Nat} (ho : o.op = .mapUpdate t x ix xv) (R : RelW c st a w loc S Fm)
    (hx : TV m (envOf c st w loc S) (a.eval x)) (hk : TV k (envOf c st w loc S) (a.eval ix)) (hv : TV v (envOf c st w loc S) (a.eval xv)) (r : RM.Runs st.bk (aMapAdd P t m k v) eff l) :
    Done P c (st.app eff) a o w eff.val := by
  unfold aMapAdd at r
  split at r
  · rename_i d
    obtain ⟨b, l', hb, r, _⟩ := runs_rd r
    have hB := R.bks d b hb
    split at r
    · rename_i ks vs
      split at r
      · rename_i kt et ht
        split at r
        · rename_i q hq
          split at r
          · rename_i hg
            simp only [Bool.and_eq_true] at hg
            obtain ⟨⟨⟨⟨hw, hkg⟩, hkc⟩, hkb⟩, hvg⟩ := hg
            obtain ⟨⟨f1, f2, f3⟩, r⟩ := runs_req r
            obtain ⟨rfl, _⟩ := runs_ret r
            rw [TV_good rfl, VV_mk rfl] at hx
            simp only [VR] at hx
            obtain ⟨_, hid, g, hxe, hloc⟩ := hx
            injection hxe with hxe
            obtain ⟨g', es, clock, Fx, h0, h1, h2, h3, h4, h5⟩ := hB
            have := hloc _ h0
            injection this with this
            subst this
            have hkv := TV_fit f1 hk
            have hvv := (TV_good hvg).1 hv
            have hu := tMap_some ht
            have hc : (Instr.checkKey false 10000 kt (a.eval ix)).run P w = .ok () w := checkKey_fit false 8 9991 kt q hq k _ _ w f1 hkv
            have hf := (find_fit hq f1 hkv w ks vs es.toList 0 Fx f2 h3 h4).1 (findA_none f3)
            have hfk : ∀ es', (Instr.findKey kt (a.eval ix) es').run P w = (Instr.findAsking kt (a.eval ix) es').run P w := fun es' => wide_find hw _ _ w
            have h1' : w.heap[g']? = some (.map es clock) := h1
            have hgo : (getObj g').run P w = .ok (.map es clock) w := MapKept.run_getObj_map h1'
            have hlt : g' < w.heap.size := (Array.getElem?_eq_some_iff.1 h1').1
            obtain ⟨w', hw'⟩ : ∃ w', w' = { w with heap := w.heap.setIfInBounds g' (.map (es.push ⟨a.eval ix, a.eval xv, clock⟩) (clock + 1)) } := ⟨_, rfl⟩
            have hso : (setObj g' (.map (es.push ⟨a.eval ix, a.eval xv, clock⟩) (clock + 1))).run P w = .ok () w' := by
              rw [hw']
              exact MapKept.run_setObj_map _ h1'
            have hrun : (Instr.mapUpdate t (a.eval x) (a.eval ix) (a.eval xv)).run P w = .ok () w' := by
              simp [Instr.mapUpdate, hxe, run_underlying hu, hgo, hc, hfk, hf, hso]
            refine done_skip (by simp [execOp, ho, hrun]) (R.remap (by rw [hb]; simp) h1' (by rw [h5]; simp) _ w' hw' fun e' he hl hle => ?_)
            obtain ⟨hnew, _, _⟩ := map_set h1' w' hw'
            have hnd := R.nodup d
            rw [h5] at hnd
            have hFx : ∀ y ∈ Fx, y < w.heap.size ∧ y ≠ g' := fun y hy => ⟨R.fmLt (d := d) (by rw [h5]; simp [hy]), fun e => by subst e; simp at hnd; exact hnd.1 hy⟩
            have hle0 := hle [] (by simp)
            refine ⟨g', _, _, Fx, by rw [hl]; exact h0, by rw [he]; exact hnew, bornOk_push h2 _ _, ?_, ?_, h5⟩
            · simp only [Array.toList_push, List.map_append, List.map_cons, List.map_nil]
              refine VVs_end (VVs_mono ks _ _ _ [] hle0.shut h3) ?_
              have h6 : VVs [k] e' [a.eval ix] [] := ⟨_, [], [], [], rfl, rfl, VV_mono hle0 hkv, rfl, rfl⟩
              have h7 := VVs_noB [k] e'.close _ _ (by simp [nobors, hkb]) ((VVs_close [k] e' _ _ (by simp [closeds, hkc])).1 h6)
              rw [close_noB] at h7
              simp only [VVs] at h7
              obtain ⟨_, _, F1, F2, hye, hF, h8, h9, _⟩ := h7
              obtain ⟨rfl, rfl⟩ := List.append_eq_nil_iff.1 hF.symm
              injection hye with hye
              subst hye
              exact h8
            · simp only [Array.toList_push, List.map_append, List.map_cons, List.map_nil]
              exact VVs_end (VVs_mono vs _ _ _ Fx (hle Fx hFx) h4) (VV_mono hle0 hvv)
          · exact (runs_fail r).elim
        · exact (runs_fail r).elim
      · exact (runs_fail r).elim
    · exact (runs_fail r).elim
  · exact (runs_fail r).elim

/-- A new map under a new name. -/
theorem makeMap_sound {o : Oper} {t : TypeId} {n : Nat} (ho : o.op = .makeMap t none) (R : RelW c st a w loc S Fm) (hn : st.ids n = false) :
    Done P c (st.app ⟨.mref n, [(n, some (.mp [] []))], [n]⟩) a o w (.mref n) := by
  obtain ⟨w', hw'⟩ : ∃ w', w' = w.alloc (.map #[] 0) := ⟨_, rfl⟩
  have hexec : (execOp a.eval o).run P w = .ok (.value (.map (some w.heap.size))) w' := by
    rw [hw']
    simp [execOp, ho, Instr.makeMap, newObj]
    rfl
  have hsz : w'.heap.size = w.heap.size + 1 := by rw [hw', World.size_alloc]
  have hold : ∀ g, g < w.heap.size → w'.heap[g]? = w.heap[g]? := fun g hg => by rw [hw', heapOld _ _ _ hg]
  have hnew : w'.heap[w.heap.size]? = some (.map #[] 0) := by rw [hw']; exact heap_alloc_new w _
  have hst : Step c st w loc S Fm (fun _ => False) (st.app ⟨.mref n, [(n, some (.mp [] []))], [n]⟩) w' (fun d => if d = n then some (some w.heap.size) else loc d) S (fun d => if d = n then [w.heap.size] else Fm d) := by
    refine ⟨fun t => rfl, rfl, fun g h => h.elim, fun g hg _ => hold g hg, fun g hg => by rw [shape_of_heap (hold g hg)], by omega, by rw [hw']; rfl, by rw [hw']; rfl, by rw [hw']; rfl, fun _ h => h, fun _ h => .inl h,
      fun g hg => by have := R.fram.bd g (.inl hg); omega, fun d hd => by simp [St.app, hd], fun d l hd hl => ?_, fun x => ?_⟩
    · have hne : d ≠ n := fun e => by subst e; rw [hn] at hd; cases hd
      simpa [hne] using hl
    · rcases Nat.lt_trichotomy x.block w.heap.size with h | h | h
      · exact frozen_heap (hold _ h)
      · rw [frozen_none (w := w) (by rw [h]; simp), frozen_map (by rw [h]; exact hnew)]
      · rw [frozen_none (w := w) (Array.getElem?_eq_none (by omega)), frozen_none (Array.getElem?_eq_none (by omega))]
  refine ⟨_, _, w', _, S, _, hexec, .inl rfl, R.next hst (fun d b' hb' => ?_) (fun d hd => ?_) (fun d hd => ?_) (fun d => ?_) (fun d d' hne g hg => ?_) (fun d g hg => ?_), ?_⟩
  · by_cases hd : d = n
    · subst hd
      simp only [St.app, List.foldl_cons, List.foldl_nil, upd, if_true] at hb'
      injection hb' with hb'
      subst hb'
      right
      simp only [if_true]
      exact ⟨w.heap.size, #[], 0, [], by simp [envOf], hnew, ⟨by simp, by simp⟩, ⟨rfl, rfl⟩, ⟨rfl, rfl⟩, rfl⟩
    · simp only [St.app, List.foldl_cons, List.foldl_nil, upd, if_neg hd] at hb'
      exact .inl ⟨hb', by simp [hd], by simp [hd], by simp⟩
  · have hne : d ≠ n := fun e => by subst e; simp [St.app, upd] at hd
    simp only [St.app, List.foldl_cons, List.foldl_nil, upd, if_neg hne] at hd
    simpa [hne] using R.dead d hd
  · by_cases hdn : d = n
    · simp [St.app, hdn]
    · simp only [St.app, List.foldl_cons, List.foldl_nil, upd, if_neg hdn] at hd
      simp [St.app, R.known d hd]
  · by_cases hdn : d = n <;> simp [hdn, R.nodup d]
  · have hlt : ∀ d g, g ∈ Fm d → g < w.heap.size := fun d g h => R.fmLt h
    by_cases h1 : d = n <;> by_cases h2 : d' = n <;> simp only [h1, h2, if_true, if_false, List.mem_singleton] at hg ⊢
    · exact absurd (h1.trans h2.symm) hne
    · intro h; have := hlt _ _ h; omega
    · have := hlt _ _ hg; omega
    · exact R.disj d d' hne g hg
  · by_cases hdn : d = n
    · simp only [hdn, if_true, List.mem_singleton] at hg
      subst hg
      exact ⟨.inr (Nat.le_refl _), fun hS => by have := R.fram.bd _ (.inl hS); omega, by omega⟩
    · simp only [if_neg hdn] at hg
      exact ⟨.inl ⟨d, hg⟩, (R.own d g hg).1, by have := R.fmLt hg; omega⟩
  · rw [TV_good rfl, VV_mk rfl]
    simp only [VR]
    exact ⟨trivial, by simp [envOf, St.app], w.heap.size, rfl, fun l hl => by simp [envOf] at hl; exact hl.symm⟩
end
end Go.PA

/- PA21: every operation is sound. -/
namespace Go.PA
section
variable {P : Program} {c : Ctx} {st : St} {a : Act} {w : World} {loc : Nat → Option (Option Nat)} {S : Nat → Prop} {Fm : Nat → List Nat}

theorem TV_int {k : IntKind} {n : Int} {e : Env} {y : Value} (h : TV (.v (.int k n)) e y) : y = .int k n := (TV_v.1 h).2

theorem All2.one {α β : Type} {R : α → β → Prop} {x : α} {ys : List β} (h : All2 R [x] ys) : ∃ y, ys = [y] ∧ R x y := by
  cases h with
  | cons h t => cases t; exact ⟨_, rfl, h⟩
theorem All2.two {α β : Type} {R : α → β → Prop} {x x' : α} {ys : List β} (h : All2 R [x, x'] ys) : ∃ y y', ys = [y, y'] ∧ R x y ∧ R x' y' := by
  cases h with
  | cons h t => obtain ⟨y, rfl, h'⟩ := t.one; exact ⟨_, _, rfl, h, h'⟩

theorem All2.three {α β : Type} {R : α → β → Prop} {x x' x'' : α} {ys : List β} (h : All2 R [x, x', x''] ys) : ∃ y y' y'', ys = [y, y', y''] ∧ R x y ∧ R x' y' ∧ R x'' y'' := by
  cases h with
  | cons h t => obtain ⟨y, y', rfl, h', h''⟩ := t.two; exact ⟨_, _, _, rfl, h, h', h''⟩

theorem VVs_of_All2 {e : Env} {f : Operand → Value} : ∀ {l : List Operand} {xs : List A}, All2 (fun x z => TV z e (f x)) l xs → xs.all A.good = true → VVs xs e (l.map f) []
  | [], _, h, hg => by cases h; simp [VVs]
  | x :: l, _, h, hg => by
    cases h with
    | @cons _ z _ zs h1 h2 =>
      simp only [List.all_cons, Bool.and_eq_true] at hg
      simp only [VVs, List.map_cons]
      exact ⟨f x, l.map f, [], [], rfl, rfl, (TV_good hg.1).1 h1, VVs_of_All2 h2 hg.2⟩

theorem VVs_split : ∀ (xs ys : List A) (e : Env) (vs : List Value), VVs (xs ++ ys) e vs [] → VVs xs e (vs.take xs.length) [] ∧ VVs ys e (vs.drop xs.length) []
  | [], ys, e, vs, h => ⟨by simp [VVs], by simpa using h⟩
  | x :: xs, ys, e, vs, h => by
    simp only [List.cons_append, VVs] at h
    obtain ⟨y, vs', F1, F2, rfl, hF, h1, h2⟩ := h
    simp at hF
    obtain ⟨rfl, rfl⟩ := hF
    obtain ⟨h3, h4⟩ := VVs_split xs ys e vs' h2
    refine ⟨?_, by simpa using h4⟩
    simp only [List.length_cons, List.take_succ_cons, VVs]
    exact ⟨y, _, [], [], rfl, rfl, h1, h3⟩

theorem VVs_at : ∀ (xs : List A) (e : Env) (vs : List Value) (k : Nat) (x : A), VVs xs e vs [] → xs[k]? = some x → ∃ y, vs[k]? = some y ∧ VV x e y []
  | [], e, vs, k, x, h, hx => by simp at hx
  | z :: xs, e, vs, k, x, h, hx => by
    simp only [VVs] at h
    obtain ⟨y, vs', F1, F2, rfl, hF, h1, h2⟩ := h
    simp at hF
    obtain ⟨rfl, rfl⟩ := hF
    cases k with
    | zero => simp at hx; subst hx; exact ⟨y, by simp, h1⟩
    | succ k => simp at hx; simpa using VVs_at xs e vs' k x h2 hx

/-- Which operations make blocks. -/
def allocs : Op → Bool
  | .alloc _ | .box .. | .buildSlice .. | .makeSlice .. | .assign _ | .load .. | .makeMap .. => true
  | .call c => match c.callee with | .builtin _ => true | _ => false
  | _ => false

theorem TV_two {x y : Value} {e : Env} (hx : plainV x = true) (hy : plainV y = true) : TV (.tup [.v x, .v y]) e (.tuple #[x, y]) :=
  ⟨[x, y], rfl, x, [y], [], [], rfl, rfl, .inr ⟨rfl, by simp [VR, hx]⟩, y, [], [], [], rfl, rfl, .inr ⟨rfl, by simp [VR, hy]⟩, rfl, rfl⟩
theorem exec_binOpG {o : Oper} {op : BinOp} {t t' : TypeId} {x y : Operand} {u v z : Value} (ho : o.op = .binOp op t x y t') (hu : a.eval x = u) (hv : a.eval y = v)
    (h : (eqGuard op t x y u v).run P w = .ok () w) (hr : (binOp op t u v).run P w = .ok z w) : (execOp a.eval o).run P w = .ok (.value z) w := by
  simp only [execOp, ho, hu, hv, Sem.run_bind, h, Result.andThen_ok, hr, Sem.run_pure]

open Classical in
theorem eqOut_done {o : Oper} {op : BinOp} {t t' : TypeId} {x y : Operand} {u v : Value} {p : Prop} {eff : Eff} {l : List Nat} (ho : o.op = .binOp op t x y t') (R : RelW c st a w loc S Fm) (hu : a.eval x = u) (hv : a.eval y = v)
    (hg : (eqGuard op t x y u v).run P w = .ok () w) (h1 : ∀ z : Value, (op = .eql → z = .bool (decide p)) → (op = .neq → z = .bool (!decide p)) → (op = .eql ∨ op = .neq) → (binOp op t u v).run P w = .ok z w)
    (r : RM.Runs st.bk (eqOut op p) eff l) : Done P c (st.app eff) a o w eff.val := by
  unfold eqOut at r
  split at r
  · exact done_effV R r (exec_binOpG ho hu hv hg (h1 _ (fun _ => rfl) (fun h => by cases h) (.inl rfl))) (by rw [TV_v]; exact ⟨rfl, rfl⟩)
  · exact done_effV R r (exec_binOpG ho hu hv hg (h1 _ (fun h => by cases h) (fun _ => rfl) (.inr rfl))) (by rw [TV_v]; exact ⟨rfl, rfl⟩)
  · exact (runs_fail r).elim

theorem aEqOp_sound {o : Oper} {op : BinOp} {t t' : TypeId} {x y : Operand} {u v : A} {eff : Eff} {l : List Nat} (ho : o.op = .binOp op t x y t') (R : RelW c st a w loc S Fm) (hau : u.isAgg = true) (hav : v.isAgg = true)
    (hx : TV u (envOf c st w loc S) (a.eval x)) (hy : TV v (envOf c st w loc S) (a.eval y)) (r : RM.Runs st.bk (aEqOp P op t u v) eff l) : Done P c (st.app eff) a o w eff.val := by
  unfold aEqOp at r
  split at r
  · rename_i k hk
    split at r
    · rename_i hgt
      obtain ⟨⟨f1, f2⟩, r⟩ := runs_req r
      have v1 := TV_fit f1 hx
      have v2 := TV_fit f2 hy
      have e := equal_fit (P := P) 8 9991 t k hk u v _ _ _ _ w f1 f2 v1 v2
      obtain ⟨cs, hcs, _⟩ := (VV_mk_agg hau).1 v1
      obtain ⟨cs', hcs', _⟩ := (VV_mk_agg hav).1 v2
      rw [hcs, hcs'] at e
      have e' : (Op.equal t (.agg cs) (.agg cs')).run P w = .ok (@decide (u = v) (Classical.propDecidable _)) w := e
      refine eqOut_done ho R hcs hcs' (run_eqGuard_agg w op t x y cs cs' hgt) (fun z z1 z2 hop => ?_) r
      rcases hop with rfl | rfl
      · rw [run_eql_struct, z1 rfl]
        have e2 : (Op.equalIn 10000 t (.agg cs) (.agg cs')).run P w = .ok (@decide (u = v) (Classical.propDecidable _)) w := e
        rw [e2]
        rfl
      · rw [run_neq_struct, z2 rfl]
        have e2 : (Op.equalIn 10000 t (.agg cs) (.agg cs')).run P w = .ok (@decide (u = v) (Classical.propDecidable _)) w := e
        rw [e2]
        rfl
    · exact (runs_fail r).elim
  · exact (runs_fail r).elim

open Classical in
theorem aNilOp_sound {o : Oper} {op : BinOp} {t t' : TypeId} {x y : Operand} {u : Value} {p : Prop} {eff : Eff} {l : List Nat} (ho : o.op = .binOp op t x y t') (R : RelW c st a w loc S Fm)
    (hu : a.eval x = u) (hv : a.eval y = .pointer none) (hp : (u = .pointer none ∧ p = True) ∨ (∃ ad, u = .pointer (some ad) ∧ p = False)) (r : RM.Runs st.bk (aNilOp P op t p) eff l) : Done P c (st.app eff) a o w eff.val := by
  unfold aNilOp at r
  split at r
  · rename_i hpt
    unfold tPtr at hpt
    split at hpt
    · rename_i e hu2
      have he : (Op.equal t u (.pointer none)).run P w = .ok (decide p) w := by
        have h : ∀ d, (Op.equalIn (d + 1) t u (.pointer none)).run P w = .ok (decide p) w := by
          intro d
          rcases hp with ⟨rfl, rfl⟩ | ⟨ad, rfl, rfl⟩
          · simp only [Op.equalIn, Sem.run_bind, run_underlying hu2, Result.andThen_ok, Sem.run_pure, decide_true, Option.isNone_none]
          · simp only [Op.equalIn, Sem.run_bind, run_underlying hu2, Result.andThen_ok, Sem.run_pure, decide_false, Option.isNone_some]
        exact h 9999
      have hg : (eqGuard op t x y u (.pointer none)).run P w = .ok () w := eqGuard_other (by rcases hp with ⟨rfl, _⟩ | ⟨ad, rfl, _⟩ <;> rfl)
      refine eqOut_done ho R hu hv hg (fun z z1 z2 hop => ?_) r
      rcases hop with rfl | rfl
      · rw [z1 rfl]
        rcases hp with ⟨rfl, _⟩ | ⟨ad, rfl, _⟩ <;> simp only [binOp, Sem.run_bind, he, Result.andThen_ok, Sem.run_pure]
      · rw [z2 rfl]
        rcases hp with ⟨rfl, _⟩ | ⟨ad, rfl, _⟩ <;> simp only [binOp, Sem.run_bind, he, Result.andThen_ok, Sem.run_pure]
    · cases hpt
  · exact (runs_fail r).elim


def sub64Entry : Array Value → Sem Value := fun args => do
  let (x, y, b) ← Extern.MathBitsCarry.three "Sub64" args
  pure (Extern.MathBitsCarry.pair ((x + Extern.MathBitsCarry.m64 - y - b) % Extern.MathBitsCarry.m64) (if x < y + b then 1 else 0))
theorem look_add : Extern.allGenericRows.lookup "math/bits.Add64" = none ∧ Extern.allTypedRows.lookup "math/bits.Add64" = none ∧ Extern.allRows.lookup "math/bits.Add64" = some add64Entry := ⟨by kernel_rfl, by kernel_rfl, by kernel_rfl⟩
theorem look_sub : Extern.allGenericRows.lookup "math/bits.Sub64" = none ∧ Extern.allTypedRows.lookup "math/bits.Sub64" = none ∧ Extern.allRows.lookup "math/bits.Sub64" = some sub64Entry := ⟨by kernel_rfl, by kernel_rfl, by kernel_rfl⟩
theorem find_add {fn : Func} (h : fn.name = "math/bits.Add64") : Extern.find fn = some add64Entry := by
  unfold Extern.find
  rw [h]
  simp only [look_add.1, look_add.2.1, look_add.2.2, Option.map_none]
  rfl
theorem find_sub {fn : Func} (h : fn.name = "math/bits.Sub64") : Extern.find fn = some sub64Entry := by
  unfold Extern.find
  rw [h]
  simp only [look_sub.1, look_sub.2.1, look_sub.2.2, Option.map_none]
  rfl
theorem run_sub64 (x y c : Int) (hx : 0 ≤ x) (hx2 : x < 18446744073709551616) (hy : 0 ≤ y) (hy2 : y < 18446744073709551616) (hc : c = 0 ∨ c = 1)  :
    (sub64Entry #[.int .u64 x, .int .u64 y, .int .u64 c]).run P w =
      .ok (.tuple #[.int .u64 ((x + 18446744073709551616 - y - c) % 18446744073709551616), .int .u64 (if x < y + c then 1 else 0)]) w := by
  have key : ∀ k : Nat, k ≤ 1 → (sub64Entry #[.int .u64 x, .int .u64 y, .int .u64 (k : Int)]).run P w =
      .ok (Extern.MathBitsCarry.pair ((x.toNat + Extern.MathBitsCarry.m64 - y.toNat - k) % Extern.MathBitsCarry.m64) (if x.toNat < y.toNat + k then 1 else 0)) w := by
    intro k hk
    have : k = 0 ∨ k = 1 := by omega
    rcases this with rfl | rfl <;> rfl
  obtain ⟨k, rfl⟩ := Int.eq_ofNat_of_zero_le (show 0 ≤ c by omega)
  rw [key k (by omega)]
  obtain ⟨X, rfl⟩ := Int.eq_ofNat_of_zero_le hx
  obtain ⟨Y, rfl⟩ := Int.eq_ofNat_of_zero_le hy
  have h1 : Extern.MathBitsCarry.m64 = 18446744073709551616 := rfl
  simp only [Extern.MathBitsCarry.pair, h1, Int.toNat_natCast]
  have e1 : Int.ofNat ((X + 18446744073709551616 - Y - k) % 18446744073709551616) = ((X : Int) + 18446744073709551616 - Y - k) % 18446744073709551616 := by
    simp only [Int.ofNat_eq_natCast]
    omega
  have e2 : Int.ofNat (if X < Y + k then 1 else 0) = if (X : Int) < Y + k then 1 else 0 := by
    by_cases h : X < Y + k
    · rw [if_pos h, if_pos (by omega)]; rfl
    · rw [if_neg h, if_neg (by omega)]; rfl
  rw [e1, e2]

theorem aExt_sound {o : Oper} {k : Call} {f : Operand} {g : FuncId} {args : List A} {ek : EK} {eff : Eff} {l : List Nat} (ho : o.op = .call k) (hk : k.callee = .value f) (R : RelW c st a w loc S Fm)
    (hf : TV (.clo (.func g) [] []) (envOf c st w loc S) (a.eval f)) (hx : All2 (fun x z => TV z (envOf c st w loc S) (a.eval x)) k.args.toList args) (he : extFn P g = some ek) (r : RM.Runs st.bk (aExt ek args) eff l) :
    Done P c (st.app eff) a o w eff.val := by
  rw [TV_good rfl, VV_mk rfl] at hf
  simp only [VR] at hf
  obtain ⟨fvs, cvs, Ff, Fc, hy, _, h1, h2⟩ := hf
  simp only [VVs] at h1 h2
  obtain ⟨rfl, _⟩ := h1
  obtain ⟨rfl, _⟩ := h2
  injection hy with hy
  have hexec : execOp a.eval o = callFunc g (k.args.map a.eval) := by
    simp only [execOp, ho, resolve, hk, hy, Deferred.ofValue, invoke]
    simp
  unfold extFn at he
  split at he
  · rename_i fn hfn
    split at he
    · rename_i hb
      simp only [Bool.and_eq_true, Option.isNone_iff_eq_none] at hb
      have h3 : ∀ x y z : Int, args = [.v (.int .u64 x), .v (.int .u64 y), .v (.int .u64 z)] → k.args.map a.eval = #[.int .u64 x, .int .u64 y, .int .u64 z] := by
        rintro x y z rfl
        apply Array.toList_inj.1
        rw [Array.toList_map]
        generalize k.args.toList = L at hx
        cases hx with
        | cons a1 hx =>
          cases hx with
          | cons a2 hx =>
            cases hx with
            | cons a3 hx =>
              cases hx
              simp only [TV_v] at a1 a2 a3
              simp [a1.2, a2.2, a3.2]
      unfold aExt at r
      split at he
      · rename_i hn
        injection he with he
        subst he
        split at r
        · rename_i x y z heq
          obtain ⟨⟨x0, y0, z0⟩, r⟩ := runs_req r
          refine done_effV R r (y := .tuple #[.int .u64 ((x + y + z) % 18446744073709551616), .int .u64 ((x + y + z) / 18446744073709551616)]) ?_ (TV_two rfl rfl)
          rw [hexec, h3 x y z rfl, run_callFunc_extern hfn (by rw [hn]; rfl) (by simp [hb.1]) hb.2 (find_add hn), run_add64 x y z x0 y0 (by omega) (by omega)]
          rfl
        · rename_i heq; cases heq
        · exact (runs_fail r).elim
      · split at he
        · rename_i hn0 hn
          injection he with he
          subst he
          split at r
          · rename_i heq; cases heq
          · rename_i x y z heq
            obtain ⟨⟨x0, x1, y0, y1, z0⟩, r⟩ := runs_req r
            refine done_effV R r (y := .tuple #[.int .u64 ((x + 18446744073709551616 - y - z) % 18446744073709551616), .int .u64 (if x < y + z then 1 else 0)]) ?_ (TV_two rfl rfl)
            rw [hexec, h3 x y z rfl, run_callFunc_extern hfn (by rw [hn]; rfl) (by simp [hb.1]) hb.2 (find_sub hn), run_sub64 x y z x0 x1 y0 y1 z0]
            rfl
          · exact (runs_fail r).elim
        · cases he
    · cases he
  · cases he

theorem aeff_sound {o : Oper} {n : Nat} {xs : List A} {eff : Eff} {rd : List Nat} (R : RelW c st a w loc S Fm) (hx : All2 (fun x z => TV z (envOf c st w loc S) (a.eval x)) o.op.operands.toList xs)
    (hn : allocs o.op = true → st.ids n = false) (r : RM.Runs st.bk (aeff P n o xs) eff rd) : Done P c (st.app eff) a o w eff.val := by
  unfold aeff at r
  cases ho : o.op <;> rw [ho] at r hx hn <;> simp only [Op.operands, allocs] at hx hn <;> try exact (runs_fail r).elim
  case move x =>
    obtain ⟨z, rfl, h1⟩ := hx.one
    exact done_effV R r (exec_value (.inl ho)) h1
  case assign x =>
    obtain ⟨z, rfl, h1⟩ := hx.one
    dsimp only at r
    split at r
    · rename_i x
      split at r
      · rename_i e s ht
        split at r
        · rename_i hs
          obtain rfl := runs_effN r
          refine ⟨_, _, _, _, _, _, exec_value (.inr ho), .inl rfl, R.nilRow (hn trivial) hs _, ?_⟩
          rw [TV_good rfl, VV_mk rfl]
          simp only [VR]
          exact ⟨trivial, by simp [envOf, St.app], none, 0, rfl, by simp, by simp, by simp, fun l hl => by simp [envOf] at hl; subst hl; simp⟩
        · exact (runs_fail r).elim
      · exact (runs_fail r).elim
    · exact done_effV R r (exec_value (.inr ho)) h1
  case pick q x y =>
    cases hx with
    | @cons _ z1 _ zs h1 hx =>
      obtain ⟨z2, z3, rfl, h2, h3⟩ := hx.two
      dsimp only at r
      split at r
      · rename_i t u v heq
        simp only [List.cons.injEq, and_true] at heq
        obtain ⟨rfl, rfl, rfl⟩ := heq
        rw [TV_v] at h1
        have hexec : (execOp a.eval o).run P w = .ok (.value (if t then a.eval x else a.eval y)) w := by
          simp [execOp, ho, h1.2, asBool]
        split at r
        · rename_i p q'
          rw [TV_v] at h2 h3
          refine done_effV R r hexec ?_
          rw [TV_v]
          cases t <;> simp [h2.2, h3.2, plainV]
        · refine done_effV R r hexec ?_
          cases t
          · exact h3
          · exact h2
      · exact (runs_fail r).elim
  case alloc t =>
    dsimp only at r
    split at r
    · rename_i z hz
      obtain rfl := runs_effN r
      exact alloc_sound ho R (hn trivial) hz
    · exact (runs_fail r).elim
  case box t x =>
    obtain ⟨z, rfl, h1⟩ := hx.one
    dsimp only at r
    split at r
    · rename_i hg
      obtain rfl := runs_effN r
      exact box_sound ho R (hn trivial) hg h1
    · exact (runs_fail r).elim
  case build t ps => exact aBuild_sound ho R (by simpa using hx) r
  case buildSlice t len ps => exact aBuildSlice_sound ho R (hn trivial) (by simpa using hx) r
  case load t x =>
    obtain ⟨z, rfl, h1⟩ := hx.one
    exact aLoad_sound ho R h1 r
  case store t x y =>
    obtain ⟨z, z', rfl, h1, h2⟩ := hx.two
    exact aStore_sound ho R h1 h2 r
  case nilCheck x =>
    obtain ⟨z, rfl, h1⟩ := hx.one
    dsimp only at r
    split at r
    · rename_i d p heq
      simp only [List.cons.injEq, and_true] at heq
      subst heq
      obtain ⟨_, ad, hy, _⟩ := TV_ptr h1
      refine done_effV R r ?_ h1
      simp [execOp, ho, hy]
    · rename_i q z heq
      simp only [List.cons.injEq, and_true] at heq
      subst heq
      refine done_effV R r ?_ h1
      rw [TV_good rfl, VV_mk rfl] at h1
      simp only [VR] at h1
      obtain ⟨_, ad, us, hy, _⟩ := h1
      injection hy with hy
      simp [execOp, ho, hy]
    · rename_i f fa ca heq
      simp only [List.cons.injEq, and_true] at heq
      subst heq
      refine done_effV R r ?_ h1
      rw [TV_good rfl, VV_mk rfl] at h1
      simp only [VR] at h1
      obtain ⟨fvs, cvs, _, _, hy, _⟩ := h1
      injection hy with hy
      simp [execOp, ho, hy]
    · exact (runs_fail r).elim
  case binOp op t x y t' =>
    obtain ⟨z, z', rfl, h1, h2⟩ := hx.two
    dsimp only at r
    split at r
    · rename_i xs ys heq
      simp only [List.cons.injEq, and_true] at heq
      obtain ⟨rfl, rfl⟩ := heq
      exact aEqOp_sound ho R rfl rfl h1 h2 r
    · rename_i n xs m ys heq
      simp only [List.cons.injEq, and_true] at heq
      obtain ⟨rfl, rfl⟩ := heq
      exact aEqOp_sound ho R rfl rfl h1 h2 r
    · rename_i heq
      simp only [List.cons.injEq, and_true] at heq
      obtain ⟨rfl, rfl⟩ := heq
      rw [TV_v] at h1 h2
      exact aNilOp_sound ho R h1.2 h2.2 (.inl ⟨rfl, rfl⟩) r
    · rename_i d p heq
      simp only [List.cons.injEq, and_true] at heq
      obtain ⟨rfl, rfl⟩ := heq
      rw [TV_v] at h2
      obtain ⟨_, ad, hy, _⟩ := TV_ptr h1
      exact aNilOp_sound ho R hy h2.2 (.inr ⟨ad, rfl, rfl⟩) r
    · rename_i q z heq
      simp only [List.cons.injEq, and_true] at heq
      obtain ⟨rfl, rfl⟩ := heq
      rw [TV_v] at h2
      rw [TV_good rfl, VV_mk rfl] at h1
      simp only [VR] at h1
      obtain ⟨_, ad, us, hy, _⟩ := h1
      injection hy with hy
      exact aNilOp_sound ho R hy h2.2 (.inr ⟨ad, rfl, rfl⟩) r
    · rename_i u v _ _ _ _ _ heq
      simp only [List.cons.injEq, and_true] at heq
      obtain ⟨rfl, rfl⟩ := heq
      exact aBin_sound ho R h1 h2 r
    · exact (runs_fail r).elim
  case unOp op t x =>
    obtain ⟨z, rfl, h1⟩ := hx.one
    exact aUn_sound ho R h1 r
  case convert s d x =>
    obtain ⟨z, rfl, h1⟩ := hx.one
    exact aConv_sound ho R h1 r
  case makeMap t hint =>
    cases hint with
    | some x => exact (runs_fail r).elim
    | none =>
      dsimp only at r
      split at r
      · obtain rfl := runs_effN r
        exact makeMap_sound ho R (hn trivial)
      · exact (runs_fail r).elim
  case lookup t x ix ok =>
    obtain ⟨z, z', rfl, h1, h2⟩ := hx.two
    exact aLookup_sound ho R h1 h2 r
  case mapUpdate t x ix xv =>
    obtain ⟨z, z', z'', rfl, h1, h2, h3⟩ := All2.three hx
    exact aMapAdd_sound ho R h1 h2 h3 r
  case makeFunc fn first caps =>
    dsimp only at r
    split at r
    · rename_i hg
      have hV := VVs_of_All2 hx hg
      have hlen : xs.length = first.size + caps.size := by
        have : ∀ {l : List Operand} {ys : List A}, All2 (fun x z => TV z (envOf c st w loc S) (a.eval x)) l ys → ys.length = l.length := by
          intro l
          induction l with
          | nil => intro ys h; cases h; rfl
          | cons x l ih => intro ys h; cases h with | cons h1 h2 => simp [ih h2]
        rw [this hx]; simp
      have hsp := VVs_split (xs.take first.size) (xs.drop first.size) _ _ (by rw [List.take_append_drop]; exact hV)
      have htl : (xs.take first.size).length = first.size := by simp; omega
      rw [htl] at hsp
      refine done_effV R r (y := .func fn (first.map a.eval) (caps.map a.eval)) ?_ ?_
      · simp [execOp, ho, Instr.makeFunc]
      · rw [TV_good rfl, VV_mk rfl]
        simp only [VR]
        refine ⟨(first.map a.eval).toList, (caps.map a.eval).toList, [], [], by rw [Array.toArray_toList, Array.toArray_toList], rfl, ?_, ?_⟩
        · have : (first.map a.eval).toList = ((first ++ caps).toList.map a.eval).take first.size := by
            simp
          rw [this]; exact hsp.1
        · have : (caps.map a.eval).toList = ((first ++ caps).toList.map a.eval).drop first.size := by
            simp
          rw [this]; exact hsp.2
    · exact (runs_fail r).elim
  case makeSlice t x y =>
    obtain ⟨z, z', rfl, h1, h2⟩ := hx.two
    dsimp only at r
    split at r
    · rename_i k l k' m heq
      simp only [List.cons.injEq, and_true] at heq
      obtain ⟨rfl, rfl⟩ := heq
      exact aMake_sound ho R (hn trivial) (TV_int h1) (TV_int h2) r
    · exact (runs_fail r).elim
  case slice t x lo hi mx =>
    dsimp only at r
    split at r
    · obtain ⟨z, h0, h1⟩ := All2.one (by simpa using hx)
      simp only [List.cons.injEq, and_true] at h0
      subst h0
      exact aSlice_sound (l := none) (h := none) ho R h1 rfl rfl r
    · rename_i l k n
      obtain ⟨z, z', h0, h1, h2⟩ := All2.two (by simpa using hx)
      simp only [List.cons.injEq, and_true] at h0
      obtain ⟨rfl, rfl⟩ := h0
      exact aSlice_sound (l := some n) (h := none) ho R h1 ⟨k, by simp [TV_int h2]⟩ rfl r
    · rename_i l k n
      obtain ⟨z, z', h0, h1, h2⟩ := All2.two (by simpa using hx)
      simp only [List.cons.injEq, and_true] at h0
      obtain ⟨rfl, rfl⟩ := h0
      exact aSlice_sound (l := none) (h := some n) ho R h1 rfl ⟨k, by simp [TV_int h2]⟩ r
    · rename_i l h k n k' n'
      simp at hx
      cases hx with
      | @cons _ z1 _ zs h1 hx =>
        obtain ⟨z2, z3, h0, h2, h3⟩ := hx.two
        simp only [List.cons.injEq, and_true] at h0
        obtain ⟨rfl, rfl⟩ := h0
        exact aSlice_sound (l := some n) (h := some n') ho R h1 ⟨k, by simp [TV_int h2]⟩ ⟨k', by simp [TV_int h3]⟩ r
    · exact (runs_fail r).elim
  case fieldAddr t x k =>
    obtain ⟨z, rfl, h1⟩ := hx.one
    exact aFieldAddr_sound ho R h1 r
  case field t x k =>
    obtain ⟨z, rfl, h1⟩ := hx.one
    exact aField_sound ho R h1 r
  case indexAddr t x i =>
    obtain ⟨z, z', rfl, h1, h2⟩ := hx.two
    dsimp only at r
    split at r
    · rename_i u k n heq
      simp only [List.cons.injEq, and_true] at heq
      obtain ⟨rfl, rfl⟩ := heq
      exact aIndexAddr_sound ho R h1 (TV_int h2) r
    · exact (runs_fail r).elim
  case index t x i =>
    obtain ⟨z, z', rfl, h1, h2⟩ := hx.two
    dsimp only at r
    split at r
    · rename_i u k n heq
      simp only [List.cons.injEq, and_true] at heq
      obtain ⟨rfl, rfl⟩ := heq
      exact aIndex_sound ho R h1 (TV_int h2) r
    · exact (runs_fail r).elim
  case extract x i =>
    obtain ⟨z, rfl, h1⟩ := hx.one
    dsimp only at r
    split at r
    · rename_i ys heq
      simp only [List.cons.injEq, and_true] at heq
      subst heq
      split at r
      · rename_i y hy
        obtain ⟨vs, hv, hvs⟩ := h1
        obtain ⟨u, hu, hvv⟩ := VVs_at ys _ vs i y hvs hy
        refine done_effV R r ?_ (VV_TV hvv)
        simp [execOp, ho, hv, Instr.extract, hu]
      · exact (runs_fail r).elim
    · exact (runs_fail r).elim
  case makeInterface t x =>
    obtain ⟨z, rfl, h1⟩ := hx.one
    dsimp only at r
    split at r
    · rename_i hg
      simp only [Bool.and_eq_true] at hg
      rw [TV_good hg.1] at h1
      refine done_effV R r (y := .iface t (a.eval x)) ?_ ?_
      · unfold tConcrete at hg
        cases hu : P.underlying t with
        | none => simp [hu] at hg
        | some d =>
          cases d <;> first
            | (simp [hu] at hg; done)
            | simp [execOp, ho, Instr.makeInterface, run_underlying hu]
      · rw [TV_good rfl, VV_mk rfl]
        simp only [VR]
        exact ⟨_, rfl, h1⟩
    · exact (runs_fail r).elim
  case call k =>
    dsimp only at r
    cases hk : k.callee with
    | value f =>
      rw [hk] at r
      dsimp only at r
      split at r
      · rename_i g args
        split at r
        · rename_i ek he
          have hops : k.operands.toList = f :: k.args.toList := by simp [Call.operands, hk]
          rw [hops] at hx
          cases hx with
          | cons h1 h2 => exact aExt_sound ho hk R h1 h2 he r
        · exact (runs_fail r).elim
      · exact (runs_fail r).elim
    | invoke f m => rw [hk] at r; exact (runs_fail r).elim
    | builtin b =>
      rw [hk] at r hn
      dsimp only at r
      have hops : k.operands.toList = k.args.toList := by simp [Call.operands, hk]
      rw [hops] at hx
      unfold aBuiltin at r
      split at r
      · rename_i x0
        have hargs : ∃ x, k.args = #[x] ∧ TV x0 (envOf c st w loc S) (a.eval x) := by
          cases hl : k.args.toList with
          | nil => rw [hl] at hx; cases hx
          | cons x l =>
            rw [hl] at hx
            cases hx with
            | cons h1 h2 =>
              cases h2
              exact ⟨x, by apply Array.toList_inj.1; simp [hl], h1⟩
        obtain ⟨x, hargs, h1⟩ := hargs
        split at r
        · rename_i t hT
          exact aLen_sound ho hk hargs R h1 hT r
        · exact (runs_fail r).elim
      · rename_i x0 y0
        split at r
        · rename_i t t' hT
          split at r
          case isFalse => exact (runs_fail r).elim
          rename_i htt
          subst htt
          have hargs : ∃ x y, k.args = #[x, y] ∧ TV x0 (envOf c st w loc S) (a.eval x) ∧ TV y0 (envOf c st w loc S) (a.eval y) := by
            cases hl : k.args.toList with
            | nil => rw [hl] at hx; cases hx
            | cons x l =>
              rw [hl] at hx
              cases hx with
              | cons h1 h2 =>
                cases h2 with
                | cons h2 h3 =>
                  cases h3
                  exact ⟨x, _, by apply Array.toList_inj.1; simp [hl], h1, h2⟩
          obtain ⟨x, y, hargs, h1, h2⟩ := hargs
          have hT' : k.argTypes = #[t, t] := by apply Array.toList_inj.1; simpa using hT
          refine aAppend_sound ho hk hargs hT' R (hn rfl) (fun hb => ?_) h1 h2 r
          rw [hargs] at hb
          dsimp only at hb
          split at hb
          · rename_i heq
            simp only [List.cons.injEq] at heq
            rw [heq.1]; rfl
          · cases hb
        · exact (runs_fail r).elim
      · exact (runs_fail r).elim
end
end Go.PA
