/- The best of several by a ratio: forward with 'more', backward with 'as much or more'. No program in sight. -/
import Derived.Test.YtohgcgedbhlnfaaTf
namespace Go.Proofs.Ytohgcgedbhlnfaa
set_option linter.all false
def fb (e : Nat → Bool) (w v : Nat → Int) : Nat → Int
  | 0 => -1
  | i + 1 => if e i = true ∧ (fb e w v i < 0 ∨ v (fb e w v i).toNat * w i < v i * w (fb e w v i).toNat) then (i : Int) else fb e w v i
def bb (e : Nat → Bool) (w v : Nat → Int) (n : Nat) : Nat → Int
  | 0 => -1
  | k + 1 => if e (n - 1 - k) = true ∧ (bb e w v n k < 0 ∨ v (bb e w v n k).toNat * w (n - 1 - k) ≤ v (n - 1 - k) * w (bb e w v n k).toNat) then ((n - 1 - k : Nat) : Int) else bb e w v n k
/-- What the best of those from lo to hi is. -/
def isB (e : Nat → Bool) (w v : Nat → Int) (lo hi : Nat) (b : Int) : Prop :=
  (b = -1 ∧ ∀ i, lo ≤ i → i < hi → e i = false) ∨ ∃ k : Nat, b = k ∧ lo ≤ k ∧ k < hi ∧ e k = true ∧ ∀ i, lo ≤ i → i < hi → e i = true → (v i * w k ≤ v k * w i ∧ (i < k → v i * w k < v k * w i))
theorem ratio_le {a b c wa wb wc : Int} (hb : 0 < wb) (ha : 0 ≤ wa) (hc : 0 ≤ wc) (h1 : a * wb ≤ b * wa) (h2 : b * wc ≤ c * wb) : a * wc ≤ c * wa := by
  have e1 := Int.mul_le_mul_of_nonneg_right h1 hc
  have e2 := Int.mul_le_mul_of_nonneg_right h2 ha
  have e3 : (a * wc) * wb ≤ (c * wa) * wb := by
    have x1 : a * wb * wc = (a * wc) * wb := by rw [Int.mul_assoc, Int.mul_comm wb, ← Int.mul_assoc]
    have x2 : b * wa * wc = b * wc * wa := by rw [Int.mul_assoc, Int.mul_comm wa, ← Int.mul_assoc]
    have x3 : c * wb * wa = (c * wa) * wb := by rw [Int.mul_assoc, Int.mul_comm wb, ← Int.mul_assoc]
    omega
  exact Int.le_of_mul_le_mul_right e3 hb
theorem ratio_lt1 {a b c wa wb wc : Int} (hb : 0 < wb) (ha : 0 ≤ wa) (hc : 0 < wc) (h1 : a * wb < b * wa) (h2 : b * wc ≤ c * wb) : a * wc < c * wa := by
  have e1 := Int.mul_lt_mul_of_pos_right h1 hc
  have e2 := Int.mul_le_mul_of_nonneg_right h2 ha
  have e3 : (a * wc) * wb < (c * wa) * wb := by
    have x1 : a * wb * wc = (a * wc) * wb := by rw [Int.mul_assoc, Int.mul_comm wb, ← Int.mul_assoc]
    have x2 : b * wa * wc = b * wc * wa := by rw [Int.mul_assoc, Int.mul_comm wa, ← Int.mul_assoc]
    have x3 : c * wb * wa = (c * wa) * wb := by rw [Int.mul_assoc, Int.mul_comm wb, ← Int.mul_assoc]
    omega
  exact Int.lt_of_mul_lt_mul_right e3 (Int.le_of_lt hb)
theorem ratio_lt2 {a b c wa wb wc : Int} (hb : 0 < wb) (ha : 0 < wa) (hc : 0 ≤ wc) (h1 : a * wb ≤ b * wa) (h2 : b * wc < c * wb) : a * wc < c * wa := by
  have e1 := Int.mul_le_mul_of_nonneg_right h1 hc
  have e2 := Int.mul_lt_mul_of_pos_right h2 ha
  have e3 : (a * wc) * wb < (c * wa) * wb := by
    have x1 : a * wb * wc = (a * wc) * wb := by rw [Int.mul_assoc, Int.mul_comm wb, ← Int.mul_assoc]
    have x2 : b * wa * wc = b * wc * wa := by rw [Int.mul_assoc, Int.mul_comm wa, ← Int.mul_assoc]
    have x3 : c * wb * wa = (c * wa) * wb := by rw [Int.mul_assoc, Int.mul_comm wb, ← Int.mul_assoc]
    omega
  exact Int.lt_of_mul_lt_mul_right e3 (Int.le_of_lt hb)
section
variable {e : Nat → Bool} {w v : Nat → Int}
theorem isB_one {lo hi : Nat} {b b' : Int} (h : isB e w v lo hi b) (h' : isB e w v lo hi b') : b = b' := by
  rcases h with ⟨h1, h2⟩ | ⟨k, h1, h2, h3, h4, h5⟩ <;> rcases h' with ⟨g1, g2⟩ | ⟨k', g1, g2, g3, g4, g5⟩
  · omega
  · rw [h2 k' g2 g3] at g4; cases g4
  · rw [g2 k h2 h3] at h4; cases h4
  · have a1 := h5 k' g2 g3 g4
    have a2 := g5 k h2 h3 h4
    rcases Nat.lt_trichotomy k k' with h | h | h
    · have := a2.2 h; have := a1.1; omega
    · omega
    · have := a1.2 h; have := a2.1; omega
theorem fb_isB (hw : ∀ i, 0 < w i) : ∀ n, isB e w v 0 n (fb e w v n)
  | 0 => .inl ⟨rfl, fun i _ h => by omega⟩
  | n + 1 => by
    have ih := fb_isB hw n
    unfold fb
    rcases ih with ⟨h1, h2⟩ | ⟨k, h1, h2, h3, h4, h5⟩
    · rw [h1]
      by_cases he : e n = true
      · rw [if_pos ⟨he, .inl (by omega)⟩]
        refine .inr ⟨n, rfl, Nat.zero_le _, Nat.lt_succ_self _, he, fun i _ hi hei => ?_⟩
        by_cases hin : i = n
        · subst hin; exact ⟨Int.le_refl _, fun h => absurd h (Nat.lt_irrefl _)⟩
        · rw [h2 i (Nat.zero_le _) (by omega)] at hei; cases hei
      · rw [if_neg (fun h => he h.1)]
        refine .inl ⟨rfl, fun i _ hi => ?_⟩
        by_cases hin : i = n
        · subst hin; simpa using he
        · exact h2 i (Nat.zero_le _) (by omega)
    · rw [h1, Int.toNat_natCast]
      by_cases hc : e n = true ∧ v k * w n < v n * w k
      · rw [if_pos ⟨hc.1, .inr hc.2⟩]
        refine .inr ⟨n, rfl, Nat.zero_le _, Nat.lt_succ_self _, hc.1, fun i _ hi hei => ?_⟩
        by_cases hin : i = n
        · subst hin; exact ⟨Int.le_refl _, fun h => absurd h (Nat.lt_irrefl _)⟩
        · have := ratio_lt2 (hw k) (hw i) (Int.le_of_lt (hw n)) (h5 i (Nat.zero_le _) (by omega) hei).1 hc.2
          exact ⟨Int.le_of_lt this, fun _ => this⟩
      · rw [if_neg (by rintro ⟨h, h' | h'⟩; omega; exact hc ⟨h, h'⟩)]
        refine .inr ⟨k, rfl, Nat.zero_le _, by omega, h4, fun i _ hi hei => ?_⟩
        by_cases hin : i = n
        · subst hin
          refine ⟨?_, fun h => by omega⟩
          rcases Int.lt_or_le (v k * w i) (v i * w k) with h | h
          · exact absurd ⟨hei, h⟩ hc
          · exact h
        · exact h5 i (Nat.zero_le _) (by omega) hei
theorem bb_isB (hw : ∀ i, 0 < w i) {n : Nat} : ∀ k, k ≤ n → isB e w v (n - k) n (bb e w v n k)
  | 0, _ => .inl ⟨rfl, fun i h1 h2 => by omega⟩
  | m + 1, hm => by
    have ih := bb_isB hw m (Nat.le_of_succ_le hm)
    unfold bb
    have e1 : n - 1 - m = n - (m + 1) := by omega
    rw [e1]
    obtain ⟨j, hj⟩ : ∃ j, j = n - (m + 1) := ⟨_, rfl⟩
    have hjm : n - m = j + 1 := by omega
    rw [hjm] at ih
    rw [← hj]
    rcases ih with ⟨h1, h2⟩ | ⟨k, h1, h2, h3, h4, h5⟩
    · rw [h1]
      by_cases he : e j = true
      · rw [if_pos ⟨he, .inl (by omega)⟩]
        refine .inr ⟨j, rfl, Nat.le_refl _, by omega, he, fun i hi0 hi hei => ?_⟩
        by_cases hin : i = j
        · subst hin; exact ⟨Int.le_refl _, fun h => absurd h (Nat.lt_irrefl _)⟩
        · rw [h2 i (by omega) hi] at hei; cases hei
      · rw [if_neg (fun h => he h.1)]
        refine .inl ⟨rfl, fun i hi0 hi => ?_⟩
        by_cases hin : i = j
        · subst hin; simpa using he
        · exact h2 i (by omega) hi
    · rw [h1, Int.toNat_natCast]
      by_cases hc : e j = true ∧ v k * w j ≤ v j * w k
      · rw [if_pos ⟨hc.1, .inr hc.2⟩]
        refine .inr ⟨j, rfl, Nat.le_refl _, by omega, hc.1, fun i hi0 hi hei => ?_⟩
        by_cases hin : i = j
        · subst hin; exact ⟨Int.le_refl _, fun h => absurd h (Nat.lt_irrefl _)⟩
        · exact ⟨ratio_le (hw k) (Int.le_of_lt (hw i)) (Int.le_of_lt (hw j)) (h5 i (by omega) hi hei).1 hc.2, fun h => by omega⟩
      · rw [if_neg (by rintro ⟨h, h' | h'⟩; omega; exact hc ⟨h, h'⟩)]
        refine .inr ⟨k, rfl, by omega, h3, h4, fun i hi0 hi hei => ?_⟩
        by_cases hin : i = j
        · subst hin
          have : v i * w k < v k * w i := by
            rcases Int.lt_or_le (v i * w k) (v k * w i) with h | h
            · exact h
            · exact absurd ⟨hei, h⟩ hc
          exact ⟨Int.le_of_lt this, fun _ => this⟩
        · exact h5 i (by omega) hi hei
/-- Forward and backward the same one is the best. -/
theorem bb_fb (hw : ∀ i, 0 < w i) (n : Nat) : bb e w v n n = fb e w v n := isB_one (by have := bb_isB hw (e := e) (v := v) n (Nat.le_refl _); rwa [Nat.sub_self] at this) (fb_isB hw n)
theorem fb_range (n : Nat) : fb e w v n = -1 ∨ ∃ k : Nat, fb e w v n = k ∧ k < n ∧ e k = true := by
  induction n with
  | zero => exact .inl rfl
  | succ n ih =>
    unfold fb
    split
    · rename_i h; exact .inr ⟨n, rfl, Nat.lt_succ_self _, h.1⟩
    · rcases ih with h | ⟨k, h1, h2, h3⟩
      · exact .inl h
      · exact .inr ⟨k, h1, by omega, h3⟩
theorem bb_range {n : Nat} : ∀ k, k ≤ n → bb e w v n k = -1 ∨ ∃ j : Nat, bb e w v n k = j ∧ j < n ∧ e j = true
  | 0, _ => .inl rfl
  | k + 1, hk => by
    have ih := bb_range k (Nat.le_of_succ_le hk)
    unfold bb
    split
    · rename_i h; exact .inr ⟨n - 1 - k, rfl, by omega, h.1⟩
    · exact ih
theorem fb_congr {e' : Nat → Bool} {w' v' : Nat → Int} : ∀ n, (∀ i, i < n → e i = e' i ∧ w i = w' i ∧ v i = v' i) → fb e w v n = fb e' w' v' n
  | 0, _ => rfl
  | n + 1, h => by
    have ih := fb_congr n fun i hi => h i (by omega)
    have hn := h n (Nat.lt_succ_self _)
    unfold fb
    rw [← ih, hn.1, hn.2.1, hn.2.2]
    rcases fb_range (e := e) (w := w) (v := v) n with hr | ⟨k, hr, hk, _⟩
    · rw [hr]; simp
    · have hh := h k (by omega)
      rw [hr, Int.toNat_natCast, hh.2.1, hh.2.2]
end
end Go.Proofs.Ytohgcgedbhlnfaa
