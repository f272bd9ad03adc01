/- Lists of numbers. -/
import Derived.Test.YtopigdkgjobdiaaPAf
set_option linter.unusedSimpArgs false
set_option linter.unusedVariables false
/- PA100: lists of numbers of one kind. -/
namespace Go.PA

/-- Numbers of a kind. -/
def nA (k : IntKind) (l : List Nat) : List A := l.map fun (n : Nat) => A.v (.int k (n : Int))
section
variable {k : IntKind}
theorem nA_nil : nA k [] = [] := rfl
theorem nA_length (l : List Nat) : (nA k l).length = l.length := by simp [nA]
theorem nA_append (l m : List Nat) : nA k l ++ nA k m = nA k (l ++ m) := by simp [nA]
theorem nA_snoc (l : List Nat) (n : Nat) : nA k l ++ [A.v (.int k n)] = nA k (l ++ [n]) := by simp [nA]
theorem nA_noowns (l : List Nat) : noowns (nA k l) = true := noowns_map (fun _ => rfl) l
theorem nA_nobors (l : List Nat) : nobors (nA k l) = true := nobors_map (fun _ => rfl) l
theorem nA_closeds (l : List Nat) : closeds (nA k l) = true := closeds_map (fun _ => rfl) l
theorem nA_lndOks (l : List Nat) : lndOks (nA k l) = true := lndOks_map (fun _ => rfl) l
theorem nA_lnds (l : List Nat) : lnds (nA k l) = nA k l := lnds_map (fun _ => rfl) l
theorem nA_frzOks (l : List Nat) : frzOks (nA k l) = true := frzOks_map (fun _ => rfl) l
theorem nA_frzs (l : List Nat) : frzs (nA k l) = nA k l := frzs_map (fun _ => rfl) l
theorem nA_take (l : List Nat) (i : Nat) : (nA k l).take i = nA k (l.take i) := by simp [nA, List.map_take]
theorem nA_drop (l : List Nat) (i : Nat) : (nA k l).drop i = nA k (l.drop i) := by simp [nA, List.map_drop]
theorem nA_set {l : List Nat} {i v : Nat} : (nA k l).set i (.v (.int k (v : Int))) = nA k (l.set i v) := by simp [nA, List.map_set]
theorem nA_sz {l : List Nat} : (∀ y, y ∈ nA k l → y.sz = 1) ↔ True := sz_map (f := fun (n : Nat) => A.v (.int k (n : Int))) (s := 1) fun _ => rfl
theorem nA_getD {l : List Nat} {i : Nat} (h : i < l.length) : (nA k l).getD i .und = A.v (.int k ((l.getD i 0 : Nat) : Int)) := by
  simp [nA, List.getD_eq_getElem?_getD, h]
theorem nA_szAt {l : List Nat} {i : Nat} (h : i < l.length) : szAt (nA k l) i 1 := ⟨A.v (.int k ((l.getD i 0 : Nat) : Int)), by simp [nA, List.getD_eq_getElem?_getD, h], rfl⟩
theorem nA_replicate (n x : Nat) : List.replicate n (A.v (.int k (x : Int))) = nA k (List.replicate n x) := by simp [nA]
theorem idx_nA {P : Program} {t : TypeId} {q : Bool} {xs : List Nat} {n : Int} {bk : Nat → Option Blk} {K : Eff → List Nat → Prop} {acc : List Nat} (h : (tSlice P t).map (·.2) = some 1) :
    (aIndexAddr P t (.sl q (nA k xs)) n).wpA bk K acc = ((0 ≤ n ∧ n < xs.length) ∧ K ⟨.rp q (.v (.int k ((xs.getD n.toNat 0 : Nat) : Int))), [], []⟩ acc) :=
  idx_map (f := fun (n : Nat) => A.v (.int k (n : Int))) (s := 1) (fun _ => rfl) h
theorem getR_nA {β : Type} {xs : List Nat} {i : Nat} {bk : Nat → Option Blk} {f : A → RM β} {K : β → List Nat → Prop} {acc : List Nat} :
    ((getR (nA k xs) 1 [.idx i 1]).bind f).wpA bk K acc = (i < xs.length ∧ (f (.v (.int k ((xs.getD i 0 : Nat) : Int)))).wpA bk K acc) :=
  getR_map (f := fun (n : Nat) => A.v (.int k (n : Int))) (s := 1)
end
attribute [go_sem] nA_nil nA_length nA_append nA_snoc nA_noowns nA_nobors nA_closeds nA_lndOks nA_lnds nA_frzOks nA_frzs nA_take nA_drop nA_set nA_sz idx_nA getR_nA
end Go.PA
