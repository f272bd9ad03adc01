/- WireCanon: what is read is the only writing of it. -/
import Derived.Test.YtmacfbboiippoaaW30
namespace Go.PA
open Go.Proofs
set_option linter.unusedSimpArgs false
set_option linter.unusedVariables false
set_option maxRecDepth 100000
set_option maxHeartbeats 4000000
attribute [local go_sem] MM
attribute [-go_sem] takeA

/-- What is read was put. -/
theorem rd_inv : ∀ (k : Nat) (f : Bool) (l : List Nat) (v c : Nat), (∀ x ∈ l, x < 256) → rd (k + 1) f l = .ok (v, c) → l.take c = enc k v ∧ c = (enc k v).length ∧ (f = false → 0 < v) ∧ c ≤ l.length
  | _, f, [], v, c, h8, h => by simp [rd] at h
  | 0, f, x :: t, v, c, h8, h => by
    have hx := h8 x (by simp)
    simp only [rd] at h
    split at h
    · simp at h
    · rename_i h1
      split at h
      · injection h with h
        injection h with h2 h3
        subst h2 h3
        refine ⟨by simp [enc]; omega, by simp [enc], fun hf => ?_, by simp⟩
        exact Nat.pos_of_ne_zero fun h0 => h1 (.inr ⟨hf, h0⟩)
      · simp at h
  | k + 1, f, x :: t, v, c, h8, h => by
    have hx := h8 x (by simp)
    rw [rd] at h
    split at h
    · simp at h
    · rename_i h1
      split at h
      · rename_i h2
        injection h with h
        injection h with h3 h4
        subst h3 h4
        refine ⟨by simp [enc, h2], by simp [enc, h2], fun hf => ?_, by simp⟩
        exact Nat.pos_of_ne_zero fun h0 => h1 (.inr ⟨hf, h0⟩)
      · rename_i h2
        cases hr : rd (k + 1) false t with
        | error e => rw [hr] at h; simp at h
        | ok q =>
          obtain ⟨v', c'⟩ := q
          rw [hr] at h
          dsimp only at h
          injection h with h
          injection h with h3 h4
          obtain ⟨i1, i2, i3, i4⟩ := rd_inv k false t v' c' (fun y hy => h8 y (by simp [hy])) hr
          have i3 := i3 rfl
          subst h3 h4
          have e1 : (x % 128 + 128 * v') % 128 = x % 128 := by omega
          have e2 : (x % 128 + 128 * v') / 128 = v' := by omega
          have e3 : x % 128 + 128 = x := by omega
          have e4 : enc (k + 1) (x % 128 + 128 * v') = x :: enc k v' := by rw [enc, if_neg (by omega), e1, e2, e3]
          rw [e4]
          exact ⟨by rw [List.take_succ_cons, i1], by simp [i2], fun _ => by omega, by simp; omega⟩

theorem numP_inv {b : List Nat} {p n e : Nat} (h8 : ∀ x ∈ b, x < 256) (hp : p ≤ b.length) (h : numP b p = (n, e, 0)) : b.drop p = enc 9 n ++ b.drop e ∧ e = p + (enc 9 n).length ∧ e ≤ b.length := by
  rw [numP, if_neg (by omega), Int.toNat_natCast] at h
  cases hr : rd 10 true (b.drop p) with
  | error e' =>
    rw [hr] at h
    simp only [comb, Prod.mk.injEq] at h
    obtain ⟨_, _, rfl⟩ := h
    exact absurd hr (rd_err 10 true _)
  | ok q =>
    obtain ⟨v, c⟩ := q
    rw [hr] at h
    simp only [comb, Prod.mk.injEq] at h
    obtain ⟨h1, h2, _⟩ := h
    obtain ⟨i1, i2, i3, i4⟩ := rd_inv 9 true _ v c (fun x hx => h8 x (List.mem_of_mem_drop hx)) hr
    have hv : v = n := by omega
    subst hv
    rw [List.length_drop] at i4
    refine ⟨?_, by omega, by omega⟩
    conv => lhs; rw [← List.take_append_drop c (b.drop p), i1, List.drop_drop]
    rw [← h2]

theorem piecesP_inv {b : List Nat} (h8 : ∀ x ∈ b, x < 256) : ∀ (k p count at' : Nat), p ≤ b.length → b.length - p < k → count ≤ 4096 → (piecesP b k p count at').2.2 = 0 →
    b.drop p = joinB (piecesP b k p count at').1 ∧ count + (piecesP b k p count at').1.length ≤ 4096 ∧ ∀ x ∈ (piecesP b k p count at').1, x.length ≤ b.length
  | 0, p, count, at', hp, hk, hc, h => by omega
  | k + 1, p, count, at', hp, hk, hc, h => by
    rw [piecesP] at h ⊢
    split at h
    · rename_i h1
      rw [if_pos h1]
      split at h
      · simp at h
      · rename_i h2
        rw [if_neg h2]
        obtain ⟨⟨n, e, er⟩, hr⟩ : ∃ r, numP b p = r := ⟨_, rfl⟩
        rw [hr] at h ⊢
        dsimp only at h ⊢
        split at h
        · rename_i h3
          exact absurd h h3
        · rename_i h3
          rw [if_neg h3]
          split at h
          · simp at h
          · rename_i h4
            rw [if_neg h4]
            obtain rfl : er = 0 := by omega
            obtain ⟨g1, g2, g3⟩ := numP_inv h8 hp hr
            have := enc_pos 9 n
            obtain ⟨i1, i2, i3⟩ := piecesP_inv h8 k (e + n) (count + 1) p (by omega) (by omega) (by omega) h
            have hl : ((b.drop e).take n).length = n := by rw [List.length_take, List.length_drop]; omega
            refine ⟨?_, by simp only [List.length_cons]; omega, fun x hx => ?_⟩
            · rw [g1]
              have hj : ∀ x l, joinB (x :: l) = itemB x ++ joinB l := fun x l => by simp [joinB]
              rw [hj, ← i1, itemB, hl, List.append_assoc]
              congr 1
              conv => lhs; rw [← List.take_append_drop n (b.drop e), List.drop_drop]
            · rcases List.mem_cons.1 hx with rfl | hx
              · omega
              · exact i3 x hx
    · rename_i h1
      rw [if_neg h1]
      exact ⟨by rw [List.drop_of_length_le (by omega)]; rfl, by simpa using hc, by simp⟩

theorem splitD_inv {b : List Nat} (h8 : ∀ x ∈ b, x < 256) (h : (splitD b).2.2 = 0) : joinP (splitD b).1 = (b, 0) ∧ (splitD b).1.length ≤ 4096 ∧ ∀ x ∈ (splitD b).1, x.length ≤ b.length := by
  unfold splitD at h ⊢
  split at h
  · simp at h
  · rename_i h1
    rw [if_neg h1]
    split at h
    · rename_i h2
      exact absurd h h2
    · rename_i h2
      rw [if_neg h2]
      obtain ⟨i1, i2, i3⟩ := piecesP_inv h8 (b.length + 1) 0 0 0 (by omega) (by omega) (by omega) (by simpa [piecesD] using h2)
      rw [List.drop_zero] at i1
      have i1 : b = joinB (piecesD b).1 := i1
      have i2 : 0 + (piecesD b).1.length ≤ 4096 := i2
      refine ⟨?_, by dsimp only; omega, i3⟩
      dsimp only
      rw [joinP, if_neg (by omega), ← i1, if_neg (by omega)]

theorem lowB_leV : ∀ l : List Nat, (∀ x ∈ l, x < 256) → lowB l.length (leV l) = l ∧ leV l < 256 ^ l.length
  | [], h => ⟨rfl, by simp [leV]⟩
  | x :: l, h => by
    obtain ⟨i1, i2⟩ := lowB_leV l fun y hy => h y (by simp [hy])
    have hx := h x (by simp)
    simp only [List.length_cons, leV, lowB]
    rw [show (x + 256 * leV l) % 256 = x by omega, show (x + 256 * leV l) / 256 = leV l by omega, i1, Nat.pow_succ]
    exact ⟨rfl, by omega⟩

theorem field_inv {b : List Nat} (h8 : ∀ x ∈ b, x < 256) {p count : Nat} {last : Int} {f0 f : Fld} {q e : Nat} (hp : p ≤ b.length) (hh : headP b p count last = .ok (f0, q)) (hv : valueP b f0 q = (f, e, 0)) :
    f0.no = f.no ∧ b.drop p = fieldB f ++ b.drop e ∧ p < e ∧ e ≤ b.length ∧ count ≠ 64 ∧ wrongP f last = 0 ∧ f.num < 2 ^ 64 ∧ f.data.length ≤ b.length := by
  unfold headP at hh
  obtain ⟨⟨n, q', er⟩, hr⟩ : ∃ r, numP b p = r := ⟨_, rfl⟩
  rw [hr] at hh
  dsimp only at hh
  split at hh
  · simp at hh
  · rename_i h1
    split at hh
    · simp at hh
    · rename_i h2
      split at hh
      · simp at hh
      · rename_i h3
        split at hh
        · simp at hh
        · rename_i h4
          injection hh with hh
          injection hh with hf0 hq
          subst hf0 hq
          obtain rfl : er = 0 := by omega
          obtain ⟨g1, g2, g3⟩ := numP_inv h8 hp hr
          have hpos := enc_pos 9 n
          have hkn : ((n % 8 : Nat) : Int) = 0 ∨ ((n % 8 : Nat) : Int) = 1 ∨ ((n % 8 : Nat) : Int) = 2 ∨ ((n % 8 : Nat) : Int) = 5 := by
            simpa only [knownP, Bool.not_eq_false, decide_eq_true_eq] using h4
          have hw : ∀ num data, headN ⟨((n / 8 : Nat) : Int), ((n % 8 : Nat) : Int), num, data⟩ = n := fun _ _ => by unfold headN; dsimp only; omega
          unfold valueP at hv
          dsimp only at hv
          split at hv
          · rename_i h0
            obtain ⟨⟨v, e', er'⟩, hr2⟩ : ∃ r, numP b q' = r := ⟨_, rfl⟩
            rw [hr2] at hv
            dsimp only at hv
            injection hv with hf he
            injection he with he her
            subst hf he her
            obtain ⟨j1, j2, j3⟩ := numP_inv h8 g3 hr2
            have hv64 := (numP_ok g3 hr2).1
            refine ⟨rfl, ?_, by omega, j3, h2, ?_, hv64, by simp⟩
            · rw [g1, fieldB_eq, hw, bodyB, if_pos h0, j1, List.append_assoc]
            · unfold wrongP
              dsimp only
              rw [if_neg (by omega), if_neg (by omega), if_pos (.inl h0), if_neg]
              simp only [List.length_nil]
              omega
          · rename_i h0
            split at hv
            · rename_i h5
              obtain ⟨⟨v, e', er'⟩, hr2⟩ : ∃ r, numP b q' = r := ⟨_, rfl⟩
              rw [hr2] at hv
              dsimp only at hv
              split at hv
              · rename_i h6
                injection hv with hf he
                injection he with he her
                omega
              · rename_i h6
                split at hv
                · injection hv with hf he
                  injection he with he her
                  omega
                · rename_i h7
                  injection hv with hf he
                  injection he with he her
                  subst hf he
                  obtain rfl : er' = 0 := by omega
                  obtain ⟨j1, j2, j3⟩ := numP_inv h8 g3 hr2
                  have hl : ((b.drop e').take v).length = v := by rw [List.length_take, List.length_drop]; omega
                  have hpos2 := enc_pos 9 v
                  refine ⟨rfl, ?_, by omega, by omega, h2, ?_, by dsimp only; omega, by dsimp only; omega⟩
                  · rw [g1, fieldB_eq, hw, bodyB, if_neg h0]
                    dsimp only
                    rw [if_neg (by omega), if_neg (by omega), hl, j1, List.append_assoc, List.append_assoc]
                    congr 2
                    conv => lhs; rw [← List.take_append_drop v (b.drop e'), List.drop_drop]
                  · unfold wrongP
                    dsimp only
                    rw [if_neg (by omega), if_pos h5, if_neg (by simp)]
            · rename_i h5
              split at hv
              · injection hv with hf he
                injection he with he her
                omega
              · rename_i h6
                injection hv with hf he
                injection he with he her
                subst hf he
                have hwd : wide ((n % 8 : Nat) : Int) = 4 ∨ wide ((n % 8 : Nat) : Int) = 8 := by unfold wide; split <;> simp
                have hl : ((b.drop q').take (wide ((n % 8 : Nat) : Int))).length = wide ((n % 8 : Nat) : Int) := by rw [List.length_take, List.length_drop]; omega
                obtain ⟨m1, m2⟩ := lowB_leV ((b.drop q').take (wide ((n % 8 : Nat) : Int))) (fun x hx => h8 x (List.mem_of_mem_drop (List.mem_of_mem_take hx)))
                rw [hl] at m1 m2
                have hwide : ((n % 8 : Nat) : Int) = 5 ∧ wide ((n % 8 : Nat) : Int) = 4 ∨ ((n % 8 : Nat) : Int) = 1 ∧ wide ((n % 8 : Nat) : Int) = 8 := by
                  unfold wide
                  split
                  · exact .inl ⟨by assumption, rfl⟩
                  · exact .inr ⟨by omega, rfl⟩
                refine ⟨rfl, ?_, by omega, by omega, h2, ?_, ?_, by simp⟩
                · rw [g1, fieldB_eq, hw, List.append_assoc]
                  congr 1
                  have hb : bodyB ⟨((n / 8 : Nat) : Int), ((n % 8 : Nat) : Int), leV ((b.drop q').take (wide ((n % 8 : Nat) : Int))), []⟩ = lowB (wide ((n % 8 : Nat) : Int)) (leV ((b.drop q').take (wide ((n % 8 : Nat) : Int)))) := by
                    unfold bodyB
                    dsimp only
                    rcases hwide with ⟨w1, w2⟩ | ⟨w1, w2⟩
                    · rw [if_neg (by omega), if_neg (by omega), if_pos w1, w2]
                    · rw [if_neg (by omega), if_pos w1, w2]
                  rw [hb, m1]
                  conv => lhs; rw [← List.take_append_drop (wide ((n % 8 : Nat) : Int)) (b.drop q'), List.drop_drop]
                · unfold wrongP
                  dsimp only
                  rw [if_neg (by omega), if_neg (by omega), if_pos (by omega), if_neg]
                  simp only [List.length_nil]
                  rcases hwide with ⟨w1, w2⟩ | ⟨w1, w2⟩
                  · rw [w2] at m2 ⊢
                    omega
                  · omega
                · dsimp only
                  rcases hwd with w | w
                  · rw [w] at m2 ⊢; omega
                  · rw [w] at m2 ⊢; omega

theorem walkP_inv {b : List Nat} (h8 : ∀ x ∈ b, x < 256) : ∀ (k p count : Nat) (last : Int), p ≤ b.length → b.length - p < k → count ≤ 64 → (walkP b k p count last).2.2 = 0 →
    b.drop p = msgB (walkP b k p count last).1 ∧ count + (walkP b k p count last).1.length ≤ 64 ∧ chk last (walkP b k p count last).1 = 0 ∧ ∀ f ∈ (walkP b k p count last).1, f.num < 2 ^ 64 ∧ f.data.length ≤ b.length
  | 0, p, count, last, hp, hk, hc, h => by omega
  | k + 1, p, count, last, hp, hk, hc, h => by
    rw [walkP] at h ⊢
    split at h
    · rename_i h1
      rw [if_pos h1]
      cases hh : headP b p count last with
      | error e =>
        rw [hh] at h
        exact absurd h (headP_err hh)
      | ok fq =>
        obtain ⟨f0, q⟩ := fq
        rw [hh] at h
        dsimp only at h ⊢
        obtain ⟨⟨f, e, er⟩, hv⟩ : ∃ r, valueP b f0 q = r := ⟨_, rfl⟩
        rw [hv] at h ⊢
        dsimp only at h ⊢
        split at h
        · rename_i h3
          exact absurd h h3
        · rename_i h3
          rw [if_neg h3]
          dsimp only at h ⊢
          obtain rfl : er = 0 := by omega
          obtain ⟨k0, k1, k2, k3, k4, k5, k6, k7⟩ := field_inv h8 hp hh hv
          rw [k0] at h ⊢
          obtain ⟨i1, i2, i3, i4⟩ := walkP_inv h8 k e (count + 1) f.no k3 (by omega) (by omega) h
          refine ⟨?_, by simp only [List.length_cons]; omega, ?_, fun g hg => ?_⟩
          · rw [k1, i1]
            simp [msgB]
          · rw [chk, k5, if_neg (by simp), i3]
          · rcases List.mem_cons.1 hg with rfl | hg
            · exact ⟨k6, k7⟩
            · exact i4 g hg
    · rename_i h1
      rw [if_neg h1]
      exact ⟨by rw [List.drop_of_length_le (by omega)]; rfl, by simpa using hc, rfl, by simp⟩

theorem sumD_msgB (l : List Fld) (h : ∀ f ∈ l, f.ty = 2 ∨ f.data = []) : sumD l ≤ (msgB l).length := by
  induction l with
  | nil => simp [sumD]
  | cons f l ih =>
    have ih := ih fun g hg => h g (by simp [hg])
    have hm : msgB (f :: l) = fieldB f ++ msgB l := by simp [msgB]
    have hs : sumD (f :: l) = f.data.length + sumD l := by simp [sumD]
    have hf : f.data.length ≤ (fieldB f).length := by
      rw [fieldB_eq, List.length_append, bodyB]
      rcases h f (by simp) with h2 | h2
      · rw [if_neg (by omega), if_neg (by omega), if_neg (by omega), List.length_append]; omega
      · simp [h2]
    rw [hm, hs, List.length_append]
    omega
theorem chk_ty : ∀ (l : List Fld) (last : Int), chk last l = 0 → ∀ f ∈ l, f.ty = 2 ∨ f.data = []
  | [], last, h, f, hf => by simp at hf
  | g :: l, last, h, f, hf => by
    rw [chk] at h
    split at h
    · contradiction
    · rename_i h1
      rcases List.mem_cons.1 hf with rfl | hf
      · obtain ⟨_, _, _, h4⟩ := wrongP_zero (f := f) (last := last) (by omega)
        rcases h4 with h4 | h4
        · exact .inl h4.1
        · exact .inr h4.2.1
      · exact chk_ty l _ h f hf

theorem decD_inv {b : List Nat} (h8 : ∀ x ∈ b, x < 256) (h : (decD b).2.2 = 0) : encP (decD b).1 = (b, 0) ∧ (decD b).1.length ≤ 64 ∧ ∀ f ∈ (decD b).1, f.num < 2 ^ 64 ∧ f.data.length ≤ b.length := by
  unfold decD at h ⊢
  split at h
  · rename_i h2
    exact absurd h h2
  · rename_i h2
    rw [if_neg h2]
    unfold walkD at h2 ⊢
    split at h2
    · simp at h2
    · rename_i h3
      rw [if_neg h3]
      obtain ⟨i1, i2, i3, i4⟩ := walkP_inv h8 (b.length + 1) 0 0 0 (by omega) (by omega) (by omega) (by omega)
      rw [List.drop_zero] at i1
      have hs := sumD_msgB _ (chk_ty _ _ i3)
      rw [← i1] at hs
      refine ⟨?_, by dsimp only; omega, i4⟩
      dsimp only
      rw [encP, if_neg (by omega), if_neg (by omega), if_neg (by omega), ← i1, if_neg (by omega)]

theorem enc_one : FS Try.prog 31 [.sl false [.agg [.v (.int .i64 1), .v (.int .i64 0), .v (.int .u64 150), .sl false []]]] (.ret [.osl 1 (bA [8, 150, 1]), .v (.int .i64 0)] [none]) := by
  have h := encode_FS false false [⟨1, 0, 150, []⟩] (by decide) (by simp) (by simp)
  have he : encP [⟨1, 0, 150, []⟩] = ([8, 150, 1], 0) := by decide
  rw [he] at h
  exact h
theorem same_150 : FS Try.prog 18 [.sl false (bA [8, 150, 1]), .sl false [.v (.int .u8 8), .v (.int .u8 150), .v (.int .u8 1)]] (.ret [.v (.bool true)] [none, none]) := same_self false false [8, 150, 1] (by decide)

theorem canon_FS (b : List Nat) (p : Int) (hb : b.length < 2 ^ 30) (h8 : ∀ x ∈ b, x < 256) (hp1 : -9223372036854775808 ≤ p) (hp2 : p ≤ 9223372036854775807) :
    FS Try.prog 14 [.sl true (bA b), .v (.int .i64 p)] (.ret [.v (.bool true)] [none, none]) := by
  refine FS_of_SW (kb := [false, false]) Try.func14 rfl rfl (by rfl) ?_
  refine SW.weak (Weak.of [] (sls := [(0, .sl true (bA b)), (1, .v (.int .i64 p))]) (bks := []) (ep := 64) (by rfl) ⟨rfl, rfl, trivial⟩ trivial) ?_
  have e : ∀ x : Int, (x == x) = true := fun x => by simp
  have e2 : ∀ x : Int, (x != x) = false := fun x => by simp
  have hnum := number_FS true b p (by omega)
  obtain ⟨⟨n, q, er⟩, hr⟩ : ∃ r, numP b p = r := ⟨_, rfl⟩
  rw [hr] at hnum
  simp only [numA] at hnum
  repeat' (first
    | apply_assumption -exfalso -symm (transparency := .reducible) only [*]
    | with_reducible refine SW.stopI 2 ?_
    | (refine ⟨_, _, hnum, ?_⟩ <;> (try simp -implicitDefEqProofs only [go_sem, e, e2]))
    | (with_reducible refine And.intro ?_ ?_)
    | (refine drawOf ?_; kernel_rfl)
    | ((with_reducible refine opsF_id ?_); simp -implicitDefEqProofs only [go_sem, e, e2])
    | ((with_reducible refine SW.id ?_); first | with_reducible refine SW.seqK fun K hK => ?_ | with_reducible refine SW.block ?_ | with_reducible refine SW.scope ?_ | ((first | with_reducible refine SW.skip ?_ | with_reducible refine SW.exit ?_ | with_reducible refine SW.label ?_ | with_reducible refine SW.ret ?_ | with_reducible refine SW.go MM ?_ | refine SW.goDrawF MM (by rfl) (by kernel_rfl) ?_); simp -implicitDefEqProofs only [go_sem, e, e2]) | (refine SW.cond (by simp -implicitDefEqProofs only [go_sem, e, e2]; rfl) (fun ht => ?_) (fun ht => ?_) <;> (try simp only [decide_eq_true_eq, decide_eq_false_iff_not, beq_iff_eq, bne_iff_ne, beq_eq_false_iff_ne, bne_eq_false_iff_eq, Bool.or_eq_true, Bool.and_eq_true, Bool.or_eq_false_iff, Bool.and_eq_false_imp, Bool.not_eq_true, Bool.not_eq_false, Bool.not_true, Bool.not_false, Bool.not_eq_true', Bool.not_eq_false', Bool.or_false, Bool.false_or, Bool.or_true, Bool.true_or, Bool.and_true, Bool.true_and, reduceCtorEq] at ht) <;> (try contradiction)))
    | ((with_reducible refine guardSplit (fun hg => ?_) (fun hg => ?_)) <;> (try simp only [Bool.not_true, Bool.not_false] at hg) <;> (have hc := hg) <;> simp -implicitDefEqProofs only [go_sem, hg, e, e2] <;> (try simp only [decide_eq_true_eq, decide_eq_false_iff_not, beq_iff_eq, bne_iff_ne, beq_eq_false_iff_ne, bne_eq_false_iff_eq, Bool.or_eq_true, Bool.and_eq_true, Bool.or_eq_false_iff, Bool.and_eq_false_imp, Bool.not_eq_true, Bool.not_eq_false, Bool.not_true, Bool.not_false, Bool.not_eq_true', Bool.not_eq_false', Bool.or_false, Bool.false_or, Bool.or_true, Bool.true_or, Bool.and_true, Bool.true_and, reduceCtorEq] at hc) <;> (try contradiction)))
  refine Stop.go ?_
  refine SW.cutS (γ := Unit) (fun _ => St.of [(0, .sl true (bA b))] [] 64) (fun K hK => ?_) fun _ => ?_
  · by_cases her : er = 0
    · subst her
      obtain ⟨pn, rfl, hpn⟩ : ∃ pn : Nat, p = (pn : Int) ∧ pn ≤ b.length := by
        by_cases h : p < 0 ∨ b.length < p
        · rw [numP, if_pos h] at hr
          simp at hr
        · exact ⟨p.toNat, by omega, by omega⟩
      obtain ⟨n1, n2, n3, n4⟩ := numP_ok hpn hr
      obtain ⟨n2, n5⟩ := n2 rfl
      obtain ⟨g1, g2, g3⟩ := numP_inv h8 hpn hr
      have hcut : (b.drop pn).take (q - pn) = enc 9 n := by rw [g1, show q - pn = (enc 9 n).length by omega, List.take_left]
      have hput := put_nil n n1
      have hs := same_self true false (enc 9 n) (by have := enc_length 9 n; omega)
      have l1 : ((pn : Int) < 0) = False := by simp
      repeat' (first
        | apply_assumption -exfalso -symm (transparency := .reducible) only [*]
        | (refine ⟨_, _, hput, ?_⟩ <;> (try simp -implicitDefEqProofs only [go_sem, e, e2, hcut]))
        | (refine ⟨_, _, hs, ?_⟩ <;> (try simp -implicitDefEqProofs only [go_sem, e, e2, hcut]))
        | (with_reducible refine And.intro ?_ ?_)
        | (refine drawOf ?_; kernel_rfl)
        | ((with_reducible refine opsF_id ?_); simp -implicitDefEqProofs only [go_sem, e, e2, hcut])
        | ((with_reducible refine SW.id ?_); first | with_reducible refine SW.seqK fun K hK => ?_ | with_reducible refine SW.block ?_ | with_reducible refine SW.scope ?_ | ((first | with_reducible refine SW.skip ?_ | with_reducible refine SW.exit ?_ | with_reducible refine SW.label ?_ | with_reducible refine SW.ret ?_ | with_reducible refine SW.go MM ?_ | refine SW.goDrawF MM (by rfl) (by kernel_rfl) ?_); simp -implicitDefEqProofs only [go_sem, e, e2, hcut]) | (refine SW.cond (by simp -implicitDefEqProofs only [go_sem, e, e2, hcut]; rfl) (fun ht => ?_) (fun ht => ?_) <;> (try simp only [decide_eq_true_eq, decide_eq_false_iff_not, beq_iff_eq, bne_iff_ne, beq_eq_false_iff_ne, bne_eq_false_iff_eq, Bool.or_eq_true, Bool.and_eq_true, Bool.or_eq_false_iff, Bool.and_eq_false_imp, Bool.not_eq_true, Bool.not_eq_false, Bool.not_true, Bool.not_false, Bool.not_eq_true', Bool.not_eq_false', Bool.or_false, Bool.false_or, Bool.or_true, Bool.true_or, Bool.and_true, Bool.true_and, reduceCtorEq] at ht) <;> (try contradiction)))
        | ((with_reducible refine guardSplit (fun hg => ?_) (fun hg => ?_)) <;> (try simp only [Bool.not_true, Bool.not_false] at hg) <;> (have hc := hg) <;> simp -implicitDefEqProofs only [go_sem, hg, e, e2, hcut] <;> (try simp only [decide_eq_true_eq, decide_eq_false_iff_not, beq_iff_eq, bne_iff_ne, beq_eq_false_iff_ne, bne_eq_false_iff_eq, Bool.or_eq_true, Bool.and_eq_true, Bool.or_eq_false_iff, Bool.and_eq_false_imp, Bool.not_eq_true, Bool.not_eq_false, Bool.not_true, Bool.not_false, Bool.not_eq_true', Bool.not_eq_false', Bool.or_false, Bool.false_or, Bool.or_true, Bool.true_or, Bool.and_true, Bool.true_and, reduceCtorEq] at hc) <;> (try contradiction)))
      all_goals first | omega | (exfalso; omega) | skip
      refine ⟨(), Weak.of [] (by rfl) ?_ trivial⟩
      simp -implicitDefEqProofs only [go_sem]
    · have hz : ((er : Int) == 0) = false := by simp; omega
      repeat' (first
        | apply_assumption -exfalso -symm (transparency := .reducible) only [*]
        | (with_reducible refine And.intro ?_ ?_)
        | (refine drawOf ?_; kernel_rfl)
        | ((with_reducible refine opsF_id ?_); simp -implicitDefEqProofs only [go_sem, e, e2, hz])
        | ((with_reducible refine SW.id ?_); first | with_reducible refine SW.seqK fun K hK => ?_ | with_reducible refine SW.block ?_ | with_reducible refine SW.scope ?_ | ((first | with_reducible refine SW.skip ?_ | with_reducible refine SW.exit ?_ | with_reducible refine SW.label ?_ | with_reducible refine SW.ret ?_ | with_reducible refine SW.go MM ?_ | refine SW.goDrawF MM (by rfl) (by kernel_rfl) ?_); simp -implicitDefEqProofs only [go_sem, e, e2, hz]) | (refine SW.cond (by simp -implicitDefEqProofs only [go_sem, e, e2, hz]; rfl) (fun ht => ?_) (fun ht => ?_) <;> (try simp only [decide_eq_true_eq, decide_eq_false_iff_not, beq_iff_eq, bne_iff_ne, beq_eq_false_iff_ne, bne_eq_false_iff_eq, Bool.or_eq_true, Bool.and_eq_true, Bool.or_eq_false_iff, Bool.and_eq_false_imp, Bool.not_eq_true, Bool.not_eq_false, Bool.not_true, Bool.not_false, Bool.not_eq_true', Bool.not_eq_false', Bool.or_false, Bool.false_or, Bool.or_true, Bool.true_or, Bool.and_true, Bool.true_and, reduceCtorEq] at ht) <;> (try contradiction)))
        | ((with_reducible refine guardSplit (fun hg => ?_) (fun hg => ?_)) <;> (try simp only [Bool.not_true, Bool.not_false] at hg) <;> (have hc := hg) <;> simp -implicitDefEqProofs only [go_sem, hg, e, e2, hz] <;> (try simp only [decide_eq_true_eq, decide_eq_false_iff_not, beq_iff_eq, bne_iff_ne, beq_eq_false_iff_ne, bne_eq_false_iff_eq, Bool.or_eq_true, Bool.and_eq_true, Bool.or_eq_false_iff, Bool.and_eq_false_imp, Bool.not_eq_true, Bool.not_eq_false, Bool.not_true, Bool.not_false, Bool.not_eq_true', Bool.not_eq_false', Bool.or_false, Bool.false_or, Bool.or_true, Bool.true_or, Bool.and_true, Bool.true_and, reduceCtorEq] at hc) <;> (try contradiction)))
      refine ⟨(), Weak.of [] (by rfl) ?_ trivial⟩
      simp -implicitDefEqProofs only [go_sem]
  · have hdec := decode_FS true b (by omega) h8
    have hsp := split_FS true b hb h8
    have hdi := decD_inv h8
    have hsi := splitD_inv h8
    obtain ⟨⟨fs, pl, er⟩, hd⟩ : ∃ r, decD b = r := ⟨_, rfl⟩
    obtain ⟨⟨l, pl2, er2⟩, hs⟩ : ∃ r, splitD b = r := ⟨_, rfl⟩
    rw [hd] at hdec hdi
    rw [hs] at hsp hsi
    dsimp only at hdec hdi hsp hsi
    have hself := same_self false true b (by omega)
    repeat' (first
      | apply_assumption -exfalso -symm (transparency := .reducible) only [*]
      | with_reducible refine SW.stopI 6 ?_
      | (refine ⟨_, _, hdec, ?_⟩ <;> (try simp -implicitDefEqProofs only [go_sem, e, e2]))
      | (with_reducible refine And.intro ?_ ?_)
      | (refine drawOf ?_; kernel_rfl)
      | ((with_reducible refine opsF_id ?_); simp -implicitDefEqProofs only [go_sem, e, e2])
      | ((with_reducible refine SW.id ?_); first | with_reducible refine SW.seqK fun K hK => ?_ | with_reducible refine SW.block ?_ | with_reducible refine SW.scope ?_ | ((first | with_reducible refine SW.skip ?_ | with_reducible refine SW.exit ?_ | with_reducible refine SW.label ?_ | with_reducible refine SW.ret ?_ | with_reducible refine SW.go MM ?_ | refine SW.goDrawF MM (by rfl) (by kernel_rfl) ?_); simp -implicitDefEqProofs only [go_sem, e, e2]) | (refine SW.cond (by simp -implicitDefEqProofs only [go_sem, e, e2]; rfl) (fun ht => ?_) (fun ht => ?_) <;> (try simp only [decide_eq_true_eq, decide_eq_false_iff_not, beq_iff_eq, bne_iff_ne, beq_eq_false_iff_ne, bne_eq_false_iff_eq, Bool.or_eq_true, Bool.and_eq_true, Bool.or_eq_false_iff, Bool.and_eq_false_imp, Bool.not_eq_true, Bool.not_eq_false, Bool.not_true, Bool.not_false, Bool.not_eq_true', Bool.not_eq_false', Bool.or_false, Bool.false_or, Bool.or_true, Bool.true_or, Bool.and_true, Bool.true_and, reduceCtorEq] at ht) <;> (try contradiction)))
      | ((with_reducible refine guardSplit (fun hg => ?_) (fun hg => ?_)) <;> (try simp only [Bool.not_true, Bool.not_false] at hg) <;> (have hc := hg) <;> simp -implicitDefEqProofs only [go_sem, hg, e, e2] <;> (try simp only [decide_eq_true_eq, decide_eq_false_iff_not, beq_iff_eq, bne_iff_ne, beq_eq_false_iff_ne, bne_eq_false_iff_eq, Bool.or_eq_true, Bool.and_eq_true, Bool.or_eq_false_iff, Bool.and_eq_false_imp, Bool.not_eq_true, Bool.not_eq_false, Bool.not_true, Bool.not_false, Bool.not_eq_true', Bool.not_eq_false', Bool.or_false, Bool.false_or, Bool.or_true, Bool.true_or, Bool.and_true, Bool.true_and, reduceCtorEq] at hc) <;> (try contradiction)))
    refine Stop.go ?_
    refine SW.cutS (γ := Unit) (fun _ => St.of [(0, .sl true (bA b))] [] 64) (fun K hK => ?_) fun _ => ?_
    · by_cases her : er = 0
      · subst her
        obtain ⟨i1, i2, i3⟩ := hdi rfl
        have hen := encode_FS false false fs (by omega) (fun f hf => by have := (i3 f hf).2; omega) (fun f hf => (i3 f hf).1)
        rw [i1] at hen
        dsimp only at hen
        repeat' (first
          | apply_assumption -exfalso -symm (transparency := .reducible) only [*]
          | (refine ⟨_, _, hen, ?_⟩ <;> (try simp -implicitDefEqProofs only [go_sem, e, e2]))
          | (refine ⟨_, _, hself, ?_⟩ <;> (try simp -implicitDefEqProofs only [go_sem, e, e2]))
          | (with_reducible refine And.intro ?_ ?_)
          | (refine drawOf ?_; kernel_rfl)
          | ((with_reducible refine opsF_id ?_); simp -implicitDefEqProofs only [go_sem, e, e2])
          | ((with_reducible refine SW.id ?_); first | with_reducible refine SW.seqK fun K hK => ?_ | with_reducible refine SW.block ?_ | with_reducible refine SW.scope ?_ | ((first | with_reducible refine SW.skip ?_ | with_reducible refine SW.exit ?_ | with_reducible refine SW.label ?_ | with_reducible refine SW.ret ?_ | with_reducible refine SW.go MM ?_ | refine SW.goDrawF MM (by rfl) (by kernel_rfl) ?_); simp -implicitDefEqProofs only [go_sem, e, e2]) | (refine SW.cond (by simp -implicitDefEqProofs only [go_sem, e, e2]; rfl) (fun ht => ?_) (fun ht => ?_) <;> (try simp only [decide_eq_true_eq, decide_eq_false_iff_not, beq_iff_eq, bne_iff_ne, beq_eq_false_iff_ne, bne_eq_false_iff_eq, Bool.or_eq_true, Bool.and_eq_true, Bool.or_eq_false_iff, Bool.and_eq_false_imp, Bool.not_eq_true, Bool.not_eq_false, Bool.not_true, Bool.not_false, Bool.not_eq_true', Bool.not_eq_false', Bool.or_false, Bool.false_or, Bool.or_true, Bool.true_or, Bool.and_true, Bool.true_and, reduceCtorEq] at ht) <;> (try contradiction)))
          | ((with_reducible refine guardSplit (fun hg => ?_) (fun hg => ?_)) <;> (try simp only [Bool.not_true, Bool.not_false] at hg) <;> (have hc := hg) <;> simp -implicitDefEqProofs only [go_sem, hg, e, e2] <;> (try simp only [decide_eq_true_eq, decide_eq_false_iff_not, beq_iff_eq, bne_iff_ne, beq_eq_false_iff_ne, bne_eq_false_iff_eq, Bool.or_eq_true, Bool.and_eq_true, Bool.or_eq_false_iff, Bool.and_eq_false_imp, Bool.not_eq_true, Bool.not_eq_false, Bool.not_true, Bool.not_false, Bool.not_eq_true', Bool.not_eq_false', Bool.or_false, Bool.false_or, Bool.or_true, Bool.true_or, Bool.and_true, Bool.true_and, reduceCtorEq] at hc) <;> (try contradiction)))
        refine ⟨(), Weak.of [] (by rfl) ?_ trivial⟩
        simp -implicitDefEqProofs only [go_sem]
      · have hz : ((er : Int) == 0) = false := by simp; omega
        repeat' (first
          | apply_assumption -exfalso -symm (transparency := .reducible) only [*]
          | (with_reducible refine And.intro ?_ ?_)
          | (refine drawOf ?_; kernel_rfl)
          | ((with_reducible refine opsF_id ?_); simp -implicitDefEqProofs only [go_sem, e, e2, hz])
          | ((with_reducible refine SW.id ?_); first | with_reducible refine SW.seqK fun K hK => ?_ | with_reducible refine SW.block ?_ | with_reducible refine SW.scope ?_ | ((first | with_reducible refine SW.skip ?_ | with_reducible refine SW.exit ?_ | with_reducible refine SW.label ?_ | with_reducible refine SW.ret ?_ | with_reducible refine SW.go MM ?_ | refine SW.goDrawF MM (by rfl) (by kernel_rfl) ?_); simp -implicitDefEqProofs only [go_sem, e, e2, hz]) | (refine SW.cond (by simp -implicitDefEqProofs only [go_sem, e, e2, hz]; rfl) (fun ht => ?_) (fun ht => ?_) <;> (try simp only [decide_eq_true_eq, decide_eq_false_iff_not, beq_iff_eq, bne_iff_ne, beq_eq_false_iff_ne, bne_eq_false_iff_eq, Bool.or_eq_true, Bool.and_eq_true, Bool.or_eq_false_iff, Bool.and_eq_false_imp, Bool.not_eq_true, Bool.not_eq_false, Bool.not_true, Bool.not_false, Bool.not_eq_true', Bool.not_eq_false', Bool.or_false, Bool.false_or, Bool.or_true, Bool.true_or, Bool.and_true, Bool.true_and, reduceCtorEq] at ht) <;> (try contradiction)))
          | ((with_reducible refine guardSplit (fun hg => ?_) (fun hg => ?_)) <;> (try simp only [Bool.not_true, Bool.not_false] at hg) <;> (have hc := hg) <;> simp -implicitDefEqProofs only [go_sem, hg, e, e2, hz] <;> (try simp only [decide_eq_true_eq, decide_eq_false_iff_not, beq_iff_eq, bne_iff_ne, beq_eq_false_iff_ne, bne_eq_false_iff_eq, Bool.or_eq_true, Bool.and_eq_true, Bool.or_eq_false_iff, Bool.and_eq_false_imp, Bool.not_eq_true, Bool.not_eq_false, Bool.not_true, Bool.not_false, Bool.not_eq_true', Bool.not_eq_false', Bool.or_false, Bool.false_or, Bool.or_true, Bool.true_or, Bool.and_true, Bool.true_and, reduceCtorEq] at hc) <;> (try contradiction)))
        refine ⟨(), Weak.of [] (by rfl) ?_ trivial⟩
        simp -implicitDefEqProofs only [go_sem]
    · repeat' (first
        | apply_assumption -exfalso -symm (transparency := .reducible) only [*]
        | with_reducible refine SW.stopI 11 ?_
        | (refine ⟨_, _, hsp, ?_⟩ <;> (try simp -implicitDefEqProofs only [go_sem, e, e2]))
        | (with_reducible refine And.intro ?_ ?_)
        | (refine drawOf ?_; kernel_rfl)
        | ((with_reducible refine opsF_id ?_); simp -implicitDefEqProofs only [go_sem, e, e2])
        | ((with_reducible refine SW.id ?_); first | with_reducible refine SW.seqK fun K hK => ?_ | with_reducible refine SW.block ?_ | with_reducible refine SW.scope ?_ | ((first | with_reducible refine SW.skip ?_ | with_reducible refine SW.exit ?_ | with_reducible refine SW.label ?_ | with_reducible refine SW.ret ?_ | with_reducible refine SW.go MM ?_ | refine SW.goDrawF MM (by rfl) (by kernel_rfl) ?_); simp -implicitDefEqProofs only [go_sem, e, e2]) | (refine SW.cond (by simp -implicitDefEqProofs only [go_sem, e, e2]; rfl) (fun ht => ?_) (fun ht => ?_) <;> (try simp only [decide_eq_true_eq, decide_eq_false_iff_not, beq_iff_eq, bne_iff_ne, beq_eq_false_iff_ne, bne_eq_false_iff_eq, Bool.or_eq_true, Bool.and_eq_true, Bool.or_eq_false_iff, Bool.and_eq_false_imp, Bool.not_eq_true, Bool.not_eq_false, Bool.not_true, Bool.not_false, Bool.not_eq_true', Bool.not_eq_false', Bool.or_false, Bool.false_or, Bool.or_true, Bool.true_or, Bool.and_true, Bool.true_and, reduceCtorEq] at ht) <;> (try contradiction)))
        | ((with_reducible refine guardSplit (fun hg => ?_) (fun hg => ?_)) <;> (try simp only [Bool.not_true, Bool.not_false] at hg) <;> (have hc := hg) <;> simp -implicitDefEqProofs only [go_sem, hg, e, e2] <;> (try simp only [decide_eq_true_eq, decide_eq_false_iff_not, beq_iff_eq, bne_iff_ne, beq_eq_false_iff_ne, bne_eq_false_iff_eq, Bool.or_eq_true, Bool.and_eq_true, Bool.or_eq_false_iff, Bool.and_eq_false_imp, Bool.not_eq_true, Bool.not_eq_false, Bool.not_true, Bool.not_false, Bool.not_eq_true', Bool.not_eq_false', Bool.or_false, Bool.false_or, Bool.or_true, Bool.true_or, Bool.and_true, Bool.true_and, reduceCtorEq] at hc) <;> (try contradiction)))
      refine Stop.go ?_
      refine SW.cutS (γ := Unit) (fun _ => St.of [] [] 64) (fun K hK => ?_) fun _ => ?_
      · by_cases her : er2 = 0
        · subst her
          obtain ⟨i1, i2, i3⟩ := hsi rfl
          have hjo := join_FS false false l (by omega) (fun f hf => by have := i3 f hf; omega)
          rw [i1] at hjo
          dsimp only at hjo
          repeat' (first
            | apply_assumption -exfalso -symm (transparency := .reducible) only [*]
            | (refine ⟨_, _, hjo, ?_⟩ <;> (try simp -implicitDefEqProofs only [go_sem, e, e2]))
            | (refine ⟨_, _, hself, ?_⟩ <;> (try simp -implicitDefEqProofs only [go_sem, e, e2]))
            | (with_reducible refine And.intro ?_ ?_)
            | (refine drawOf ?_; kernel_rfl)
            | ((with_reducible refine opsF_id ?_); simp -implicitDefEqProofs only [go_sem, e, e2])
            | ((with_reducible refine SW.id ?_); first | with_reducible refine SW.seqK fun K hK => ?_ | with_reducible refine SW.block ?_ | with_reducible refine SW.scope ?_ | ((first | with_reducible refine SW.skip ?_ | with_reducible refine SW.exit ?_ | with_reducible refine SW.label ?_ | with_reducible refine SW.ret ?_ | with_reducible refine SW.go MM ?_ | refine SW.goDrawF MM (by rfl) (by kernel_rfl) ?_); simp -implicitDefEqProofs only [go_sem, e, e2]) | (refine SW.cond (by simp -implicitDefEqProofs only [go_sem, e, e2]; rfl) (fun ht => ?_) (fun ht => ?_) <;> (try simp only [decide_eq_true_eq, decide_eq_false_iff_not, beq_iff_eq, bne_iff_ne, beq_eq_false_iff_ne, bne_eq_false_iff_eq, Bool.or_eq_true, Bool.and_eq_true, Bool.or_eq_false_iff, Bool.and_eq_false_imp, Bool.not_eq_true, Bool.not_eq_false, Bool.not_true, Bool.not_false, Bool.not_eq_true', Bool.not_eq_false', Bool.or_false, Bool.false_or, Bool.or_true, Bool.true_or, Bool.and_true, Bool.true_and, reduceCtorEq] at ht) <;> (try contradiction)))
            | ((with_reducible refine guardSplit (fun hg => ?_) (fun hg => ?_)) <;> (try simp only [Bool.not_true, Bool.not_false] at hg) <;> (have hc := hg) <;> simp -implicitDefEqProofs only [go_sem, hg, e, e2] <;> (try simp only [decide_eq_true_eq, decide_eq_false_iff_not, beq_iff_eq, bne_iff_ne, beq_eq_false_iff_ne, bne_eq_false_iff_eq, Bool.or_eq_true, Bool.and_eq_true, Bool.or_eq_false_iff, Bool.and_eq_false_imp, Bool.not_eq_true, Bool.not_eq_false, Bool.not_true, Bool.not_false, Bool.not_eq_true', Bool.not_eq_false', Bool.or_false, Bool.false_or, Bool.or_true, Bool.true_or, Bool.and_true, Bool.true_and, reduceCtorEq] at hc) <;> (try contradiction)))
          exact ⟨(), Weak.of [] (by rfl) trivial trivial⟩
        · have hz : ((er2 : Int) == 0) = false := by simp; omega
          repeat' (first
            | apply_assumption -exfalso -symm (transparency := .reducible) only [*]
            | (with_reducible refine And.intro ?_ ?_)
            | (refine drawOf ?_; kernel_rfl)
            | ((with_reducible refine opsF_id ?_); simp -implicitDefEqProofs only [go_sem, e, e2, hz])
            | ((with_reducible refine SW.id ?_); first | with_reducible refine SW.seqK fun K hK => ?_ | with_reducible refine SW.block ?_ | with_reducible refine SW.scope ?_ | ((first | with_reducible refine SW.skip ?_ | with_reducible refine SW.exit ?_ | with_reducible refine SW.label ?_ | with_reducible refine SW.ret ?_ | with_reducible refine SW.go MM ?_ | refine SW.goDrawF MM (by rfl) (by kernel_rfl) ?_); simp -implicitDefEqProofs only [go_sem, e, e2, hz]) | (refine SW.cond (by simp -implicitDefEqProofs only [go_sem, e, e2, hz]; rfl) (fun ht => ?_) (fun ht => ?_) <;> (try simp only [decide_eq_true_eq, decide_eq_false_iff_not, beq_iff_eq, bne_iff_ne, beq_eq_false_iff_ne, bne_eq_false_iff_eq, Bool.or_eq_true, Bool.and_eq_true, Bool.or_eq_false_iff, Bool.and_eq_false_imp, Bool.not_eq_true, Bool.not_eq_false, Bool.not_true, Bool.not_false, Bool.not_eq_true', Bool.not_eq_false', Bool.or_false, Bool.false_or, Bool.or_true, Bool.true_or, Bool.and_true, Bool.true_and, reduceCtorEq] at ht) <;> (try contradiction)))
            | ((with_reducible refine guardSplit (fun hg => ?_) (fun hg => ?_)) <;> (try simp only [Bool.not_true, Bool.not_false] at hg) <;> (have hc := hg) <;> simp -implicitDefEqProofs only [go_sem, hg, e, e2, hz] <;> (try simp only [decide_eq_true_eq, decide_eq_false_iff_not, beq_iff_eq, bne_iff_ne, beq_eq_false_iff_ne, bne_eq_false_iff_eq, Bool.or_eq_true, Bool.and_eq_true, Bool.or_eq_false_iff, Bool.and_eq_false_imp, Bool.not_eq_true, Bool.not_eq_false, Bool.not_true, Bool.not_false, Bool.not_eq_true', Bool.not_eq_false', Bool.or_false, Bool.false_or, Bool.or_true, Bool.true_or, Bool.and_true, Bool.true_and, reduceCtorEq] at hc) <;> (try contradiction)))
          exact ⟨(), Weak.of [] (by rfl) trivial trivial⟩
      · repeat' (first
          | apply_assumption -exfalso -symm (transparency := .reducible) only [*]
          | (refine ⟨_, _, enc_one, ?_⟩ <;> (try simp -implicitDefEqProofs only [go_sem, e, e2]))
          | (refine ⟨_, _, same_150, ?_⟩ <;> (try simp -implicitDefEqProofs only [go_sem, e, e2]))
          | (with_reducible refine And.intro ?_ ?_)
          | (refine drawOf ?_; kernel_rfl)
          | ((with_reducible refine opsF_id ?_); simp -implicitDefEqProofs only [go_sem, e, e2])
          | ((with_reducible refine SW.id ?_); first | with_reducible refine SW.seqK fun K hK => ?_ | with_reducible refine SW.block ?_ | with_reducible refine SW.scope ?_ | ((first | with_reducible refine SW.skip ?_ | with_reducible refine SW.exit ?_ | with_reducible refine SW.label ?_ | with_reducible refine SW.ret ?_ | with_reducible refine SW.go MM ?_ | refine SW.goDrawF MM (by rfl) (by kernel_rfl) ?_); simp -implicitDefEqProofs only [go_sem, e, e2]) | (refine SW.cond (by simp -implicitDefEqProofs only [go_sem, e, e2]; rfl) (fun ht => ?_) (fun ht => ?_) <;> (try simp only [decide_eq_true_eq, decide_eq_false_iff_not, beq_iff_eq, bne_iff_ne, beq_eq_false_iff_ne, bne_eq_false_iff_eq, Bool.or_eq_true, Bool.and_eq_true, Bool.or_eq_false_iff, Bool.and_eq_false_imp, Bool.not_eq_true, Bool.not_eq_false, Bool.not_true, Bool.not_false, Bool.not_eq_true', Bool.not_eq_false', Bool.or_false, Bool.false_or, Bool.or_true, Bool.true_or, Bool.and_true, Bool.true_and, reduceCtorEq] at ht) <;> (try contradiction)))
          | ((with_reducible refine guardSplit (fun hg => ?_) (fun hg => ?_)) <;> (try simp only [Bool.not_true, Bool.not_false] at hg) <;> (have hc := hg) <;> simp -implicitDefEqProofs only [go_sem, hg, e, e2] <;> (try simp only [decide_eq_true_eq, decide_eq_false_iff_not, beq_iff_eq, bne_iff_ne, beq_eq_false_iff_ne, bne_eq_false_iff_eq, Bool.or_eq_true, Bool.and_eq_true, Bool.or_eq_false_iff, Bool.and_eq_false_imp, Bool.not_eq_true, Bool.not_eq_false, Bool.not_true, Bool.not_false, Bool.not_eq_true', Bool.not_eq_false', Bool.or_false, Bool.false_or, Bool.or_true, Bool.true_or, Bool.and_true, Bool.true_and, reduceCtorEq] at hc) <;> (try contradiction)))

theorem canon_law {H : Type} (ds : List (DataW H)) (xs : List A) (h : DAs [.slice (.int .u8), .int .i64] ds xs) (hk : dBulks ds ≤ 1048576) : ∃ back, FS Try.prog 14 xs (.ret [.v (.bool true)] back) := by
  obtain ⟨d0, ds, a0, xs, rfl, rfl, h0, h⟩ := h.cons_inv
  obtain ⟨d1, ds, a1, xs, rfl, rfl, h1, h⟩ := h.cons_inv
  obtain ⟨rfl, rfl⟩ := h.nil_inv
  obtain ⟨b, rfl, hb, h8⟩ := h0.bytes_inv
  obtain ⟨k, rfl, rfl, n1, n2⟩ := h1.int_inv
  have hmin : IntKind.min .i64 = -9223372036854775808 := rfl
  have hmax : IntKind.max .i64 = 9223372036854775807 := rfl
  simp only [dBulks] at hk
  exact ⟨_, canon_FS b k (by omega) h8 (by omega) (by omega)⟩
end Go.PA
