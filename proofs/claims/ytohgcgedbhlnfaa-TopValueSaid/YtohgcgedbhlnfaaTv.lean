/- Of two rows: mixing gains just if there is no place from which neither would go. Plain law: no program in sight. -/
import Derived.Test.YtohgcgedbhlnfaaMy
namespace Go.Proofs.Ytohgcgedbhlnfaa
set_option linter.all false
theorem exists_least {g : Nat} {P : Nat → Prop} (R : Nat → Nat → Prop) (tot : ∀ x y, P x → P y → R x y ∨ R y x) (tr : ∀ x y z, P x → P y → P z → R x y → R y z → R x z) (h : ∃ k, k < g ∧ P k) : ∃ k, k < g ∧ P k ∧ ∀ j, j < g → P j → R k j := by
  induction g with
  | zero => obtain ⟨k, hk, _⟩ := h; omega
  | succ g ih =>
    by_cases h2 : ∃ k, k < g ∧ P k
    · obtain ⟨k, hk, hP, hm⟩ := ih h2
      by_cases hg : P g
      · rcases tot k g hP hg with hr | hr
        · refine ⟨k, by omega, hP, fun j hj hj2 => ?_⟩
          by_cases e : j = g
          · subst e; exact hr
          · exact hm j (by omega) hj2
        · refine ⟨g, by omega, hg, fun j hj hj2 => ?_⟩
          by_cases e : j = g
          · subst e; rcases tot j j hg hg with h | h <;> exact h
          · exact tr _ _ _ hg hP hj2 hr (hm j (by omega) hj2)
      · refine ⟨k, by omega, hP, fun j hj hj2 => ?_⟩
        by_cases e : j = g
        · subst e; exact absurd hj2 hg
        · exact hm j (by omega) hj2
    · obtain ⟨k, hk, hP⟩ := h
      have e : k = g := by
        rcases Nat.lt_or_ge k g with h | h
        · exact absurd ⟨k, h, hP⟩ h2
        · omega
      subst e
      refine ⟨k, by omega, hP, fun j hj hj2 => ?_⟩
      by_cases e : j = k
      · subst e; rcases tot j j hP hP with h | h <;> exact h
      · exact absurd ⟨j, by omega, hj2⟩ h2
theorem lst_ge {A B : List Int} {f : Int × Int} {g : Nat} {x : Int} (hg : 1 ≤ g) (h : ∀ k, k < g → x ≤ vl A B f k) : x ≤ lst A B f g := by
  obtain ⟨k, hk, e⟩ := lst_mem (A := A) (B := B) (f := f) (n := g)
  rw [e]
  rcases hk with rfl | hk
  · exact h 0 (by omega)
  · exact h k hk
theorem vl_slope (A B : List Int) (f : Int × Int) (k : Nat) : vl A B f k = (A.getD k 0 - B.getD k 0) * f.1 + B.getD k 0 * f.2 := by
  unfold vl; rw [Int.sub_mul, Int.mul_sub]; omega
/-- Where the second row is the better one, and none of its places is one from which neither would go, mixing gains. -/
theorem gain_half {A B : List Int} {g : Nat} {mB : Int} (hm : ∃ k, k < g ∧ B.getD k 0 = mB) (hl : ∀ k, k < g → mB ≤ B.getD k 0)
    (hn : ∀ k, k < g → B.getD k 0 = mB → B.getD k 0 < A.getD k 0) : ∃ f, inPl A B g f ∧ mB * f.2 < lst A B f g := by
  obtain ⟨k0, hk0, hb0, hs0⟩ := exists_least (g := g) (P := fun k => B.getD k 0 = mB) (fun x y => A.getD x 0 - B.getD x 0 ≤ A.getD y 0 - B.getD y 0) (fun x y _ _ => by omega) (fun x y z _ _ _ => by omega) hm
  have hpos := hn k0 hk0 hb0
  have hg : 1 ≤ g := by omega
  let s (k : Nat) : Int := A.getD k 0 - B.getD k 0
  let p (k : Nat) : Int := B.getD k 0 - B.getD k0 0
  let q (k : Nat) : Int := s k0 - s k
  have hP : ∀ k, k < g → 0 < q k → 0 < p k := fun k hk h => by
    rcases Int.lt_or_le 0 (p k) with h2 | h2
    · exact h2
    · exfalso
      have e : B.getD k 0 = mB := by have := hl k hk; show B.getD k 0 = mB; have h3 : B.getD k 0 - B.getD k0 0 ≤ 0 := h2; omega
      have h4 := hs0 k hk e
      have h5 : 0 < (A.getD k0 0 - B.getD k0 0) - (A.getD k 0 - B.getD k 0) := h
      omega
  have base : ∀ f : Int × Int, 0 ≤ f.1 → 0 < f.2 → 0 < f.1 → (∀ k, k < g → 0 < q k → q k * f.1 ≤ p k * f.2) → mB * f.2 < lst A B f g := fun f h0 h1 h2 hc => by
    have h3 : vl A B f k0 = s k0 * f.1 + mB * f.2 := by rw [vl_slope, hb0]; simp only [s, hb0]
    have h4 : 0 < s k0 * f.1 := Int.mul_pos (by show 0 < A.getD k0 0 - B.getD k0 0; omega) h2
    have h5 : vl A B f k0 ≤ lst A B f g := lst_ge hg fun k hk => by
      have e1 := vl_slope A B f k
      have e2 : (A.getD k 0 - B.getD k 0) * f.1 = s k0 * f.1 - q k * f.1 := by rw [← Int.sub_mul]; congr 1; show _ = s k0 - (s k0 - s k); simp only [s]; omega
      have e3 : B.getD k 0 * f.2 = p k * f.2 + mB * f.2 := by rw [← Int.add_mul]; congr 1; simp only [p]; omega
      rw [e1, e2, e3, h3]
      by_cases c : 0 < q k
      · have := hc k hk c; omega
      · have a1 : 0 ≤ p k := by have := hl k hk; simp only [p]; omega
        have a2 : q k * f.1 ≤ 0 := Int.mul_nonpos_of_nonpos_of_nonneg (by omega) h0
        have a3 : 0 ≤ p k * f.2 := Int.mul_nonneg a1 (Int.le_of_lt h1)
        omega
    omega
  by_cases hK : ∃ k, k < g ∧ 0 < q k
  · obtain ⟨k1, hk1, hq1, hr⟩ := exists_least (g := g) (P := fun k => 0 < q k) (fun x y => p x * q y ≤ p y * q x) (fun x y _ _ => by omega) (fun x y z h1 h2 h3 a b => cross_le h1 h2 h3 a b) hK
    have hp1 := hP k1 hk1 hq1
    by_cases c : p k1 ≤ q k1
    · refine ⟨(p k1, q k1), .inr (.inr ⟨k0, k1, hk0, hk1, ⟨Int.le_of_lt hp1, c, hq1⟩, rfl⟩), base _ (Int.le_of_lt hp1) hq1 hp1 fun k hk h => ?_⟩
      have := hr k hk h
      rw [Int.mul_comm (q k)]; exact this
    · refine ⟨(1, 1), .inr (.inl rfl), base _ (by decide) (by decide) (by decide) fun k hk h => ?_⟩
      have h2 := hr k hk h
      simp only [Int.mul_one]
      -- p k1 > q k1, p k1 * q k ≤ p k * q k1
      rcases Int.lt_or_le (p k) (q k) with h3 | h3
      · exfalso
        have a1 : p k * q k1 < q k * q k1 := Int.mul_lt_mul_of_pos_right h3 hq1
        have a2 : q k1 * q k < p k1 * q k := Int.mul_lt_mul_of_pos_right (by omega) h
        rw [Int.mul_comm (q k1)] at a2
        omega
      · exact h3
  · refine ⟨(1, 1), .inr (.inl rfl), base _ (by decide) (by decide) (by decide) fun k hk h => absurd ⟨k, hk, h⟩ hK⟩
theorem vl_swap (A B : List Int) (f : Int × Int) (k : Nat) : vl B A (f.2 - f.1, f.2) k = vl A B f k := by
  unfold vl
  simp only
  rw [show f.2 - (f.2 - f.1) = f.1 by omega]; omega
theorem lst_swap (A B : List Int) (f : Int × Int) : ∀ n, lst B A (f.2 - f.1, f.2) n = lst A B f n
  | 0 => vl_swap A B f 0
  | n + 1 => by unfold lst; rw [vl_swap, lst_swap A B f n]
theorem inPl_swap {A B : List Int} {g : Nat} {f : Int × Int} (h : inPl A B g f) : inPl B A g (f.2 - f.1, f.2) := by
  rcases h with rfl | rfl | ⟨i, k, hi, hk, ⟨h1, h2, h3⟩, e⟩
  · exact .inr (.inl rfl)
  · exact .inl rfl
  · refine .inr (.inr ⟨k, i, hk, hi, ⟨by show 0 ≤ f.2 - f.1; omega, by show f.2 - f.1 ≤ f.2; omega, h3⟩, ?_⟩)
    rw [e]
    apply Prod.ext <;> simp only <;> omega
/-- **Mixing gains just if there is no place from which neither would go.** -/
theorem gain_iff {A B : List Int} {g : Nat} {mA mB : Int} {c : Int × Int} (ha : ∃ k, k < g ∧ A.getD k 0 = mA) (hla : ∀ k, k < g → mA ≤ A.getD k 0) (hb : ∃ k, k < g ∧ B.getD k 0 = mB) (hlb : ∀ k, k < g → mB ≤ B.getD k 0)
    (hc : Best (fun f => lst A B f g) (inPl A B g) c) (hp : okR c) :
    max mA mB * c.2 < lst A B c g ↔ ¬ ∃ k, k < g ∧ ((A.getD k 0 = mA ∧ B.getD k 0 ≤ A.getD k 0) ∨ (B.getD k 0 = mB ∧ A.getD k 0 ≤ B.getD k 0)) := by
  obtain ⟨hp1, hp2, hp3⟩ := hp
  constructor
  · rintro h ⟨k, hk, h2⟩
    have h3 := lst_le (A := A) (B := B) (f := c) hk
    have h4 : vl A B c k ≤ max mA mB * c.2 := by
      unfold vl
      rcases h2 with ⟨e, h2⟩ | ⟨e, h2⟩
      · have a1 : B.getD k 0 * (c.2 - c.1) ≤ A.getD k 0 * (c.2 - c.1) := Int.mul_le_mul_of_nonneg_right h2 (by omega)
        have a2 : A.getD k 0 * c.1 + A.getD k 0 * (c.2 - c.1) = A.getD k 0 * c.2 := by rw [← Int.mul_add]; congr 1; omega
        have a3 : A.getD k 0 * c.2 ≤ max mA mB * c.2 := Int.mul_le_mul_of_nonneg_right (by omega) (by omega)
        omega
      · have a1 : A.getD k 0 * c.1 ≤ B.getD k 0 * c.1 := Int.mul_le_mul_of_nonneg_right h2 (by omega)
        have a2 : B.getD k 0 * c.1 + B.getD k 0 * (c.2 - c.1) = B.getD k 0 * c.2 := by rw [← Int.mul_add]; congr 1; omega
        have a3 : B.getD k 0 * c.2 ≤ max mA mB * c.2 := Int.mul_le_mul_of_nonneg_right (by omega) (by omega)
        omega
    omega
  · intro hn
    rcases Int.lt_or_le (max mA mB * c.2) (lst A B c g) with h | h
    · exact h
    · exfalso
      have key : ∀ f, inPl A B g f → 0 < f.2 → lst A B f g ≤ max mA mB * f.2 := fun f hf hf2 => by
        have h1 := hc.best f hf
        unfold bt at h1
        simp only at h1
        have h2 : lst A B f g * c.2 ≤ lst A B c g * f.2 := by omega
        have := cross_le (f := 1) hf2 hp3 (by decide) h2 (by rw [Int.mul_one]; exact h)
        rwa [Int.mul_one] at this
      have pos : ∀ A B : List Int, ∀ f, inPl A B g f → 0 < f.2 := fun A B f hf => by
        rcases hf with rfl | rfl | ⟨_, _, _, _, h, _⟩
        · decide
        · decide
        · exact h.2.2
      by_cases hab : mA ≤ mB
      · obtain ⟨f, hf, hv⟩ := gain_half hb hlb fun k hk e => by
          rcases Int.lt_or_le (B.getD k 0) (A.getD k 0) with h3 | h3
          · exact h3
          · exact absurd ⟨k, hk, .inr ⟨e, h3⟩⟩ hn
        have := key f hf (pos _ _ f hf)
        rw [show max mA mB = mB by omega] at this
        omega
      · obtain ⟨f, hf, hv⟩ := gain_half (A := B) (B := A) ha hla fun k hk e => by
          rcases Int.lt_or_le (A.getD k 0) (B.getD k 0) with h3 | h3
          · exact h3
          · exact absurd ⟨k, hk, .inl ⟨e, h3⟩⟩ hn
        have h5 := inPl_swap hf
        have := key _ h5 (pos _ _ _ h5)
        rw [show max mA mB = mA by omega] at this
        rw [lst_swap] at this
        simp only at this
        omega
end Go.Proofs.Ytohgcgedbhlnfaa
