/- Mixing two rows: which of the places where two columns meet is the best, and least terms. Plain law: no program in sight. -/
namespace Go.Proofs.Ytohgcgedbhlnfaa
set_option linter.all false
/-- What a column gives at p by q, times q. -/
def vl (A B : List Int) (f : Int × Int) (k : Nat) : Int := A.getD k 0 * f.1 + B.getD k 0 * (f.2 - f.1)
def lst (A B : List Int) (f : Int × Int) : Nat → Int
  | 0 => vl A B f 0
  | k + 1 => min (lst A B f k) (vl A B f k)
theorem lst_le {A B : List Int} {f : Int × Int} : ∀ {n k : Nat}, k < n → lst A B f n ≤ vl A B f k
  | 0, k, h => by omega
  | n + 1, k, h => by
    unfold lst
    by_cases e : k = n
    · subst e; omega
    · have := lst_le (A := A) (B := B) (f := f) (n := n) (k := k) (by omega); omega
theorem lst_mem {A B : List Int} {f : Int × Int} : ∀ {n : Nat}, ∃ k, (k = 0 ∨ k < n) ∧ lst A B f n = vl A B f k
  | 0 => ⟨0, .inl rfl, rfl⟩
  | n + 1 => by
    obtain ⟨k, h1, h2⟩ := lst_mem (A := A) (B := B) (f := f) (n := n)
    unfold lst
    by_cases c : lst A B f n ≤ vl A B f n
    · exact ⟨k, by omega, by omega⟩
    · exact ⟨n, by omega, by omega⟩
theorem cross_le {a b c d e f : Int} (hb : 0 < b) (hd : 0 < d) (hf : 0 < f) (h1 : a * d ≤ c * b) (h2 : c * f ≤ e * d) : a * f ≤ e * b := by
  have e1 : a * d * f ≤ c * b * f := Int.mul_le_mul_of_nonneg_right h1 (Int.le_of_lt hf)
  have e2 : c * f * b ≤ e * d * b := Int.mul_le_mul_of_nonneg_right h2 (Int.le_of_lt hb)
  have a1 : a * f * d = a * d * f := Int.mul_right_comm ..
  have a2 : c * b * f = c * f * b := Int.mul_right_comm ..
  have a3 : e * b * d = e * d * b := Int.mul_right_comm ..
  exact Int.le_of_mul_le_mul_right (a := d) (by omega) hd
theorem cross_lt {a b c d e f : Int} (hb : 0 < b) (hd : 0 < d) (hf : 0 < f) (h1 : a * d < c * b) (h2 : c * f ≤ e * d) : a * f < e * b := by
  have e1 : a * d * f < c * b * f := Int.mul_lt_mul_of_pos_right h1 hf
  have e2 : c * f * b ≤ e * d * b := Int.mul_le_mul_of_nonneg_right h2 (Int.le_of_lt hb)
  have a1 : a * f * d = a * d * f := Int.mul_right_comm ..
  have a2 : c * b * f = c * f * b := Int.mul_right_comm ..
  have a3 : e * b * d = e * d * b := Int.mul_right_comm ..
  exact Int.lt_of_mul_lt_mul_right (a := d) (by omega) (Int.le_of_lt hd)
theorem cross_lt2 {a b c d e f : Int} (hb : 0 < b) (hd : 0 < d) (hf : 0 < f) (h1 : a * d ≤ c * b) (h2 : c * f < e * d) : a * f < e * b := by
  have e1 : a * d * f ≤ c * b * f := Int.mul_le_mul_of_nonneg_right h1 (Int.le_of_lt hf)
  have e2 : c * f * b < e * d * b := Int.mul_lt_mul_of_pos_right h2 hb
  have a1 : a * f * d = a * d * f := Int.mul_right_comm ..
  have a2 : c * b * f = c * f * b := Int.mul_right_comm ..
  have a3 : e * b * d = e * d * b := Int.mul_right_comm ..
  exact Int.lt_of_mul_lt_mul_right (a := d) (by omega) (Int.le_of_lt hd)
/-- A place, as a ratio between 0 and 1. -/
def okR (f : Int × Int) : Prop := 0 ≤ f.1 ∧ f.1 ≤ f.2 ∧ 0 < f.2
/-- x is better than y. -/
def bt (V : Int × Int → Int) (x y : Int × Int) : Prop := V y * x.2 < V x * y.2 ∨ (V x * y.2 = V y * x.2 ∧ x.1 * y.2 < y.1 * x.2)
instance (V : Int × Int → Int) (x y : Int × Int) : Decidable (bt V x y) := by unfold bt; infer_instance
theorem bt_trans {V : Int × Int → Int} {x y z : Int × Int} (hx : 0 < x.2) (hy : 0 < y.2) (hz : 0 < z.2) (h1 : bt V x y) (h2 : bt V y z) : bt V x z := by
  unfold bt at *
  rcases h1 with h1 | ⟨h1, h1'⟩ <;> rcases h2 with h2 | ⟨h2, h2'⟩
  · exact .inl (cross_lt hz hy hx h2 (Int.le_of_lt h1))
  · exact .inl (cross_lt2 hz hy hx (Int.le_of_eq h2.symm) h1)
  · exact .inl (cross_lt hz hy hx h2 (Int.le_of_eq h1.symm))
  · exact .inr ⟨Int.le_antisymm (cross_le hx hy hz (Int.le_of_eq h1) (Int.le_of_eq h2)) (cross_le hz hy hx (Int.le_of_eq h2.symm) (Int.le_of_eq h1.symm)), cross_lt hx hy hz h1' (Int.le_of_lt h2')⟩
/-- c is the best of those of which S holds. -/
structure Best (V : Int × Int → Int) (S : Int × Int → Prop) (c : Int × Int) : Prop where
  mem : S c
  best : ∀ y, S y → ¬ bt V y c
theorem Best.congr {V : Int × Int → Int} {S S' : Int × Int → Prop} {c : Int × Int} (h : Best V S c) (e : ∀ f, S f ↔ S' f) : Best V S' c :=
  ⟨(e c).1 h.mem, fun y hy => h.best y ((e y).2 hy)⟩
theorem Best.same {V : Int × Int → Int} {S : Int × Int → Prop} {c d : Int × Int} (h : Best V S c) (g : Best V S d) : V c * d.2 = V d * c.2 ∧ c.1 * d.2 = d.1 * c.2 := by
  have h1 := h.best d g.mem
  have h2 := g.best c h.mem
  unfold bt at h1 h2
  omega
theorem Best.step {V : Int × Int → Int} {S S' : Int × Int → Prop} {c f : Int × Int} (h : Best V S c) (hp : ∀ y, S' y → 0 < y.2) (hS : ∀ y, S' y ↔ S y ∨ y = f) : Best V S' (if bt V f c then f else c) := by
  have hc := hp c ((hS c).2 (.inl h.mem))
  have hf := hp f ((hS f).2 (.inr rfl))
  by_cases hb : bt V f c
  · rw [if_pos hb]
    refine ⟨(hS f).2 (.inr rfl), fun y hy hyf => ?_⟩
    have hy0 := hp y hy
    rcases (hS y).1 hy with hy | rfl
    · exact h.best y hy (bt_trans hy0 hf hc hyf hb)
    · unfold bt at hyf; omega
  · rw [if_neg hb]
    refine ⟨(hS c).2 (.inl h.mem), fun y hy hyc => ?_⟩
    rcases (hS y).1 hy with hy | rfl
    · exact h.best y hy hyc
    · exact hb hyc
/-! ### the code's way: whatever is tried -/
def nrm (f : Int × Int) : Int × Int := if f.2 < 0 then (-f.1, -f.2) else f
def stp (V : Int × Int → Int) (c f : Int × Int) : Int × Int :=
  if (nrm f).1 < 0 ∨ (nrm f).2 < (nrm f).1 then c else if bt V (nrm f) c then nrm f else c
def cand (A B : List Int) (i k : Nat) : Int × Int := (B.getD k 0 - B.getD i 0, A.getD i 0 - B.getD i 0 - A.getD k 0 + B.getD k 0)
def inn (A B : List Int) (V : Int × Int → Int) (i : Nat) (c : Int × Int) : Nat → Int × Int
  | 0 => c
  | k + 1 => if (cand A B i k).2 ≠ 0 then stp V (inn A B V i c k) (cand A B i k) else inn A B V i c k
def outr (A B : List Int) (V : Int × Int → Int) : Nat → Int × Int
  | 0 => stp V (0, 1) (1, 1)
  | i + 1 => inn A B V i (outr A B V i) i
/-- What has been tried. -/
def seen (A B : List Int) (i j : Nat) (f : Int × Int) : Prop :=
  f = (0, 1) ∨ f = (1, 1) ∨ ∃ a b, b < a ∧ (a < i ∨ (a = i ∧ b < j)) ∧ (cand A B a b).2 ≠ 0 ∧ f = nrm (cand A B a b) ∧ okR f
theorem seen_pos {A B : List Int} {i j : Nat} {f : Int × Int} (h : seen A B i j f) : okR f := by
  rcases h with rfl | rfl | ⟨a, b, _, _, _, _, h⟩
  · exact ⟨by decide, by decide, by decide⟩
  · exact ⟨by decide, by decide, by decide⟩
  · exact h
theorem nrm_pos {f : Int × Int} (h : f.2 ≠ 0) : 0 < (nrm f).2 := by
  unfold nrm; split
  · show 0 < -f.2; omega
  · omega
theorem outr_zero {A B : List Int} {V : Int × Int → Int} : Best V (seen A B 0 0) (outr A B V 0) := by
  have h0 : Best V (fun f => f = (0, 1)) (0, 1) := ⟨rfl, fun y hy => by subst hy; unfold bt; omega⟩
  have h1 := h0.step (S' := seen A B 0 0) (f := (1, 1)) (fun y hy => (seen_pos hy).2.2) fun y => by
    constructor
    · rintro (h | h | ⟨a, b, _, h2, _⟩)
      · exact .inl h
      · exact .inr h
      · omega
    · rintro (h | h)
      · exact .inl h
      · exact .inr (.inl h)
  exact h1
theorem seen_succ {A B : List Int} {i k : Nat} (hk : k < i) (f : Int × Int) : seen A B i (k + 1) f ↔ seen A B i k f ∨ ((cand A B i k).2 ≠ 0 ∧ f = nrm (cand A B i k) ∧ okR f) := by
  constructor
  · rintro (h | h | ⟨a, b, h1, h2, h3, h4, h5⟩)
    · exact .inl (.inl h)
    · exact .inl (.inr (.inl h))
    · by_cases e : a = i ∧ b = k
      · obtain ⟨rfl, rfl⟩ := e; exact .inr ⟨h3, h4, h5⟩
      · exact .inl (.inr (.inr ⟨a, b, h1, by omega, h3, h4, h5⟩))
  · rintro ((h | h | ⟨a, b, h1, h2, h3, h4, h5⟩) | ⟨h3, h4, h5⟩)
    · exact .inl h
    · exact .inr (.inl h)
    · exact .inr (.inr ⟨a, b, h1, by omega, h3, h4, h5⟩)
    · exact .inr (.inr ⟨i, k, hk, by omega, h3, h4, h5⟩)
theorem inn_best {A B : List Int} {V : Int × Int → Int} {i : Nat} {c : Int × Int} (h : Best V (seen A B i 0) c) : ∀ k, k ≤ i → Best V (seen A B i k) (inn A B V i c k)
  | 0, _ => h
  | k + 1, hk => by
    have ih := inn_best h k (by omega)
    have hs := seen_succ (A := A) (B := B) (show k < i by omega)
    unfold inn
    by_cases c0 : (cand A B i k).2 ≠ 0
    · rw [if_pos c0]
      unfold stp
      have hp := nrm_pos c0
      by_cases c1 : (nrm (cand A B i k)).1 < 0 ∨ (nrm (cand A B i k)).2 < (nrm (cand A B i k)).1
      · rw [if_pos c1]
        refine ih.congr fun f => ⟨fun h => (hs f).2 (.inl h), fun h => ?_⟩
        rcases (hs f).1 h with h | ⟨_, rfl, h⟩
        · exact h
        · exact absurd h (by unfold okR; omega)
      · rw [if_neg c1]
        refine ih.step (fun y hy => (seen_pos hy).2.2) fun y => ⟨fun h => ?_, fun h => (hs y).2 ?_⟩
        · rcases (hs y).1 h with h | ⟨_, h, _⟩
          · exact .inl h
          · exact .inr h
        · rcases h with h | rfl
          · exact .inl h
          · exact .inr ⟨c0, rfl, by unfold okR; omega⟩
    · rw [if_neg c0]
      refine ih.congr fun f => ⟨fun h => (hs f).2 (.inl h), fun h => ?_⟩
      rcases (hs f).1 h with h | ⟨h, _⟩
      · exact h
      · exact absurd h c0
theorem outr_best {A B : List Int} {V : Int × Int → Int} : ∀ i, Best V (seen A B i 0) (outr A B V i)
  | 0 => outr_zero
  | i + 1 => (inn_best (outr_best i) i (Nat.le_refl _)).congr fun f => by
    constructor
    · rintro (h | h | ⟨a, b, h1, h2, h3⟩)
      · exact .inl h
      · exact .inr (.inl h)
      · exact .inr (.inr ⟨a, b, h1, by omega, h3⟩)
    · rintro (h | h | ⟨a, b, h1, h2, h3⟩)
      · exact .inl h
      · exact .inr (.inl h)
      · exact .inr (.inr ⟨a, b, h1, by omega, h3⟩)
/-! ### the reference's way: the first of the greatest, from the least on -/
def pk (V : Int × Int → Int) (c : Int × Int) : List (Int × Int) → Int × Int
  | [] => c
  | x :: l => pk V (if V c * x.2 < V x * c.2 then x else c) l
theorem pk_best {V : Int × Int → Int} : ∀ (l : List (Int × Int)) (S : Int × Int → Prop) (c : Int × Int), Best V S c → (∀ y, S y → 0 < y.2) → (∀ y ∈ l, 0 < y.2) → (∀ y, S y → ∀ x ∈ l, ¬ x.1 * y.2 < y.1 * x.2) → l.Pairwise (fun y x => ¬ x.1 * y.2 < y.1 * x.2) → Best V (fun f => S f ∨ f ∈ l) (pk V c l)
  | [], S, c, h, _, _, _, _ => h.congr fun f => by simp
  | x :: l, S, c, h, hp, hq, hs, hw => by
    rw [List.pairwise_cons] at hw
    have e : (if V c * x.2 < V x * c.2 then x else c) = if bt V x c then x else c := by
      have := hs c h.mem x (List.mem_cons_self ..)
      by_cases c1 : V c * x.2 < V x * c.2
      · rw [if_pos c1, if_pos (.inl c1)]
      · rw [if_neg c1, if_neg (by unfold bt; omega)]
    unfold pk
    rw [e]
    have h2 := h.step (S' := fun f => S f ∨ f = x) (f := x) (fun y hy => by
      rcases hy with hy | rfl
      · exact hp y hy
      · exact hq y (List.mem_cons_self ..)) fun y => Iff.rfl
    refine (pk_best l _ _ h2 (fun y hy => ?_) (fun y hy => hq y (List.mem_cons_of_mem _ hy)) (fun y hy z hz => ?_) hw.2).congr fun f => by simp [or_assoc]
    · rcases hy with hy | rfl
      · exact hp y hy
      · exact hq y (List.mem_cons_self ..)
    · rcases hy with hy | rfl
      · exact hs y hy z (List.mem_cons_of_mem _ hz)
      · exact hw.1 z hz
/-- The places: the ends, and where two columns meet. -/
def inPl (A B : List Int) (g : Nat) (f : Int × Int) : Prop :=
  f = (0, 1) ∨ f = (1, 1) ∨ ∃ i k, i < g ∧ k < g ∧ okR f ∧ f = (B.getD k 0 - B.getD i 0, (A.getD i 0 - B.getD i 0) - (A.getD k 0 - B.getD k 0))
theorem seen_inPl {A B : List Int} {g : Nat} (f : Int × Int) : seen A B g 0 f ↔ inPl A B g f := by
  constructor
  · rintro (h | h | ⟨a, b, h1, h2, h3, h4, h5⟩)
    · exact .inl h
    · exact .inr (.inl h)
    · refine .inr (.inr ?_)
      subst h4
      unfold nrm at h5 ⊢
      by_cases c : (cand A B a b).2 < 0
      · rw [if_pos c] at h5 ⊢
        exact ⟨b, a, by omega, by omega, h5, by unfold cand; apply Prod.ext <;> simp only <;> omega⟩
      · rw [if_neg c] at h5 ⊢
        exact ⟨a, b, by omega, by omega, h5, by unfold cand; apply Prod.ext <;> simp only <;> omega⟩
  · rintro (h | h | ⟨i, k, hi, hk, ho, rfl⟩)
    · exact .inl h
    · exact .inr (.inl h)
    · refine .inr (.inr ?_)
      have ho2 := ho.2.2
      simp only at ho2
      rcases Nat.lt_trichotomy k i with c | rfl | c
      · refine ⟨i, k, c, .inl hi, by unfold cand; simp only; omega, ?_, ho⟩
        unfold nrm
        rw [if_neg (by unfold cand; simp only; omega)]
        unfold cand; apply Prod.ext <;> simp only <;> omega
      · omega
      · refine ⟨k, i, c, .inl hk, by unfold cand; simp only; omega, ?_, ho⟩
        unfold nrm
        rw [if_pos (by unfold cand; simp only; omega)]
        unfold cand; apply Prod.ext <;> simp only <;> omega
/-! ### least terms -/
theorem red_unique {p q a b : Int} (hq : 0 < q) (hb : 0 < b) (h : p * b = a * q) (h1 : Int.gcd p q = 1) (h2 : Int.gcd a b = 1) : p = a ∧ q = b := by
  have e : p.natAbs * b.natAbs = a.natAbs * q.natAbs := by rw [← Int.natAbs_mul, ← Int.natAbs_mul, h]
  have d1 : q.natAbs ∣ b.natAbs := by
    have : q.natAbs ∣ p.natAbs * b.natAbs := ⟨a.natAbs, by rw [e, Nat.mul_comm]⟩
    exact Nat.Coprime.dvd_of_dvd_mul_left (by rw [Nat.coprime_comm]; exact h1) this
  have d2 : b.natAbs ∣ q.natAbs := by
    have : b.natAbs ∣ a.natAbs * q.natAbs := ⟨p.natAbs, by rw [← e, Nat.mul_comm]⟩
    exact Nat.Coprime.dvd_of_dvd_mul_left (by rw [Nat.coprime_comm]; exact h2) this
  have hqb : q = b := by have := Nat.dvd_antisymm d1 d2; omega
  subst hqb
  exact ⟨Int.eq_of_mul_eq_mul_right (by omega) h, rfl⟩
def lowT (p q : Int) : Int × Int := (p.tdiv (Int.gcd p q), q.tdiv (Int.gcd p q))
theorem gcd_pos {p q : Int} (hq : 0 < q) : 0 < Int.gcd p q := by
  rcases Nat.eq_zero_or_pos (Int.gcd p q) with h | h
  · have := (Int.gcd_eq_zero_iff.1 h).2; omega
  · exact h
theorem lowT_spec {p q : Int} (hq : 0 < q) : (lowT p q).1 * q = p * (lowT p q).2 ∧ 0 < (lowT p q).2 ∧ Int.gcd (lowT p q).1 (lowT p q).2 = 1 := by
  have hg := gcd_pos (p := p) hq
  obtain ⟨a, ha⟩ := Int.gcd_dvd_left (a := p) (b := q)
  obtain ⟨b, hb⟩ := Int.gcd_dvd_right (a := p) (b := q)
  generalize hgg : Int.gcd p q = g at *
  have hg' : (0 : Int) < (g : Int) := by omega
  have e1 : p.tdiv g = a := by rw [ha]; exact Int.mul_tdiv_cancel_left _ (by omega)
  have e2 : q.tdiv g = b := by rw [hb]; exact Int.mul_tdiv_cancel_left _ (by omega)
  have hb0 : 0 < b := by
    rcases Int.lt_or_le 0 b with h | h
    · exact h
    · exfalso
      have : (g : Int) * b ≤ 0 := Int.mul_nonpos_of_nonneg_of_nonpos (by omega) h
      omega
  unfold lowT
  simp only [hgg, e1, e2]
  refine ⟨?_, hb0, ?_⟩
  · rw [ha, hb, Int.mul_assoc, Int.mul_left_comm]
  · have h : Int.gcd ((g : Int) * a) ((g : Int) * b) = g * Int.gcd a b := by rw [Int.gcd_mul_left]; simp
    rw [← ha, ← hb, hgg] at h
    exact Nat.eq_of_mul_eq_mul_left hg (by omega)
theorem lowT_eq {p q a b : Int} (hq : 0 < q) (hb : 0 < b) (h : p * b = a * q) : lowT p q = lowT a b := by
  obtain ⟨h1, h2, h3⟩ := lowT_spec (p := p) hq
  obtain ⟨g1, g2, g3⟩ := lowT_spec (p := a) hb
  have e : (lowT p q).1 * (lowT a b).2 = (lowT a b).1 * (lowT p q).2 := by
    have x1 : (lowT p q).1 * (lowT a b).2 * (q * b) = (lowT a b).1 * (lowT p q).2 * (q * b) := by
      have y1 : (lowT p q).1 * (lowT a b).2 * (q * b) = ((lowT p q).1 * q) * ((lowT a b).2 * b) := by
        rw [Int.mul_assoc, Int.mul_assoc, Int.mul_left_comm (lowT a b).2]
      have y2 : (lowT a b).1 * (lowT p q).2 * (q * b) = ((lowT a b).1 * b) * ((lowT p q).2 * q) := by
        rw [Int.mul_comm q b, Int.mul_assoc, Int.mul_assoc, Int.mul_left_comm (lowT p q).2]
      rw [y1, y2, h1, g1]
      have y3 : p * (lowT p q).2 * ((lowT a b).2 * b) = (p * b) * ((lowT p q).2 * (lowT a b).2) := by
        rw [Int.mul_comm (lowT a b).2 b, Int.mul_assoc, Int.mul_assoc, Int.mul_left_comm (lowT p q).2]
      have y4 : a * (lowT a b).2 * ((lowT p q).2 * q) = (a * q) * ((lowT p q).2 * (lowT a b).2) := by
        rw [Int.mul_comm (lowT p q).2 q, Int.mul_assoc, Int.mul_assoc, Int.mul_left_comm (lowT a b).2, Int.mul_comm (lowT a b).2]
      rw [y3, y4, h]
    exact Int.eq_of_mul_eq_mul_right (by have := Int.mul_pos hq hb; omega) x1
  obtain ⟨e1, e2⟩ := red_unique h2 g2 e h3 g3
  exact Prod.ext e1 e2
theorem lowT_of {p q a b : Int} (hq : 0 < q) (hb : 0 < b) (h : a * q = p * b) (h1 : Int.gcd a b = 1) : lowT p q = (a, b) := by
  obtain ⟨g1, g2, g3⟩ := lowT_spec (p := p) hq
  have e : (lowT p q).1 * b = a * (lowT p q).2 := by
    refine Int.eq_of_mul_eq_mul_right (a := q) (by omega) ?_
    rw [Int.mul_right_comm, g1, Int.mul_right_comm a, h, Int.mul_right_comm]
  obtain ⟨e1, e2⟩ := red_unique g2 hb e g3 h1
  exact Prod.ext e1 e2
/-- The two ways end at the same. -/
theorem solve_same {A B : List Int} {g : Nat} {V : Int × Int → Int} {c : Int × Int} (h : Best V (inPl A B g) c) (hp : ∀ f, inPl A B g f → 0 < f.2) :
    lowT c.1 c.2 = lowT (outr A B V g).1 (outr A B V g).2 ∧ lowT (V c) c.2 = lowT (V (outr A B V g)) (outr A B V g).2 := by
  have h2 : Best V (inPl A B g) (outr A B V g) := (outr_best g).congr seen_inPl
  obtain ⟨e1, e2⟩ := h.same h2
  exact ⟨lowT_eq (hp _ h.mem) (hp _ h2.mem) e2, lowT_eq (hp _ h.mem) (hp _ h2.mem) e1⟩
end Go.Proofs.Ytohgcgedbhlnfaa
