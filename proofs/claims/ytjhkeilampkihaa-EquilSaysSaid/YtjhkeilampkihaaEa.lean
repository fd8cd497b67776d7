/- Who is left: the order does not matter (plain). -/
import Derived.Test.YtjhkeilampkihaaTn
namespace Go.Proofs.Ytjhkeilampkihaa
open Go FM
set_option maxRecDepth 10000
set_option linter.all false
/-- Of what is left across, i is always less than k. -/
def dm (A : Nat → Nat → Int) (g : Nat) (h : Nat → Bool) (i k : Nat) : Prop := ∀ c, c < g → h c = true → A i c < A k c
def dmB (A : Nat → Nat → Int) (g : Nat) (h : Nat → Bool) (i k : Nat) : Bool := (List.range g).all fun c => !(h c) || decide (A i c < A k c)
theorem dmB_iff {A : Nat → Nat → Int} {g : Nat} {h : Nat → Bool} {i k : Nat} : dmB A g h i k = true ↔ dm A g h i k := by
  unfold dmB dm
  simp only [List.all_eq_true, List.mem_range, Bool.or_eq_true, Bool.not_eq_true', decide_eq_true_iff]
  exact ⟨fun H c hc hh => (H c hc).resolve_left (by rw [hh]; exact fun e => by cases e), fun H c hc => by
    cases hh : h c with
    | false => exact .inl rfl
    | true => exact .inr (H c hc hh)⟩
theorem dm.trans {A : Nat → Nat → Int} {g : Nat} {h : Nat → Bool} {i k l : Nat} (h1 : dm A g h i k) (h2 : dm A g h k l) : dm A g h i l := fun c hc hh => by
  have := h1 c hc hh; have := h2 c hc hh; omega
theorem dm.anti {A : Nat → Nat → Int} {g : Nat} {h h' : Nat → Bool} {i k : Nat} (h1 : dm A g h i k) (hs : ∀ c, c < g → h' c = true → h c = true) : dm A g h' i k := fun c hc hh => h1 c hc (hs c hc hh)
structure Sol (A T : Nat → Nat → Int) (n g : Nat) (F H : Nat → Bool) : Prop where
  f1 : ∀ i k, i < n → k < n → F i = true → F k = true → ¬ dm A g H i k
  f2 : ∀ k, k < n → F k = false → ∃ k', k' < n ∧ F k' = true ∧ dm A g H k k'
  h1 : ∀ i k, i < g → k < g → H i = true → H k = true → ¬ dm T n F i k
  h2 : ∀ k, k < g → H k = false → ∃ k', k' < g ∧ H k' = true ∧ dm T n F k k'
structure Inv (A T : Nat → Nat → Int) (n g : Nat) (f h : Nat → Bool) : Prop where
  fne : ∃ i, i < n ∧ f i = true
  hne : ∃ i, i < g ∧ h i = true
  fc : ∀ k, k < n → f k = false → ∃ k', k' < n ∧ f k' = true ∧ dm A g h k k'
  hc : ∀ k, k < g → h k = false → ∃ k', k' < g ∧ h k' = true ∧ dm T n f k k'
  sf : ∀ F H, Sol A T n g F H → ∀ i, i < n → F i = true → f i = true
  sh : ∀ F H, Sol A T n g F H → ∀ i, i < g → H i = true → h i = true
theorem Sol.swap {A T : Nat → Nat → Int} {n g : Nat} {F H : Nat → Bool} (s : Sol A T n g F H) : Sol T A g n H F := ⟨s.h1, s.h2, s.f1, s.f2⟩
theorem Inv.swap {A T : Nat → Nat → Int} {n g : Nat} {f h : Nat → Bool} (s : Inv A T n g f h) : Inv T A g n h f :=
  ⟨s.hne, s.fne, s.hc, s.fc, fun F H hs => s.sh H F hs.swap, fun F H hs => s.sf H F hs.swap⟩
/-- What is less than another that is left is in no solution. -/
theorem Inv.out {A T : Nat → Nat → Int} {n g : Nat} {f h : Nat → Bool} (s : Inv A T n g f h) {F H : Nat → Bool} (hs : Sol A T n g F H) {i k : Nat} (hi : i < n) (hk : k < n) (hd : dm A g h i k) : F i ≠ true := fun hF => by
  have hd' : dm A g H i k := hd.anti (s.sh F H hs)
  cases hFk : F k with
  | true => exact hs.f1 i k hi hk hF hFk hd'
  | false =>
    obtain ⟨k', h1, h2, h3⟩ := hs.f2 k hk hFk
    exact hs.f1 i k' hi h1 hF h2 (hd'.trans h3)
theorem Inv.irr {A T : Nat → Nat → Int} {n g : Nat} {f h : Nat → Bool} (s : Inv A T n g f h) {i : Nat} : ¬ dm A g h i i := fun hd => by
  obtain ⟨c, hc, hh⟩ := s.hne
  have := hd c hc hh
  omega
def rem (f : Nat → Bool) (i x : Nat) : Bool := if x = i then false else f x
theorem Inv.one {A T : Nat → Nat → Int} {n g : Nat} {f h : Nat → Bool} (s : Inv A T n g f h) {i k : Nat} (hi : i < n) (hk : k < n) (hfk : f k = true) (hd : dm A g h i k) : Inv A T n g (rem f i) h := by
  have hne : k ≠ i := fun e => by subst e; exact s.irr hd
  have hrk : rem f i k = true := by unfold rem; rw [if_neg hne]; exact hfk
  have hle : ∀ x, x < n → rem f i x = true → f x = true := fun x _ hx => by
    unfold rem at hx
    split at hx
    · cases hx
    · exact hx
  refine ⟨⟨k, hk, hrk⟩, s.hne, fun x hx hfx => ?_, fun c hc hhc => ?_, fun F H hs x hx hF => ?_, s.sh⟩
  · by_cases e : x = i
    · subst e; exact ⟨k, hk, hrk, hd⟩
    · have : f x = false := by unfold rem at hfx; rwa [if_neg e] at hfx
      obtain ⟨x', h1, h2, h3⟩ := s.fc x hx this
      by_cases e' : x' = i
      · subst e'; exact ⟨k, hk, hrk, h3.trans hd⟩
      · exact ⟨x', h1, by unfold rem; rw [if_neg e']; exact h2, h3⟩
  · obtain ⟨c', h1, h2, h3⟩ := s.hc c hc hhc
    exact ⟨c', h1, h2, h3.anti hle⟩
  · have h1 := s.sf F H hs x hx hF
    unfold rem
    rw [if_neg fun e => by subst e; exact s.out hs hx hk hd hF]
    exact h1
/-- All that are less than another at once. -/
def keep (A : Nat → Nat → Int) (n g : Nat) (f h : Nat → Bool) (i : Nat) : Bool := f i && !((List.range n).any fun k => f k && dmB A g h i k)
theorem keep_le {A : Nat → Nat → Int} {n g : Nat} {f h : Nat → Bool} {i : Nat} (e : keep A n g f h i = true) : f i = true := ((Bool.and_eq_true _ _).mp e).1
theorem keep_no {A : Nat → Nat → Int} {n g : Nat} {f h : Nat → Bool} {i k : Nat} (e : keep A n g f h i = true) (hk : k < n) (hf : f k = true) : ¬ dm A g h i k := fun hd => by
  have h2 := ((Bool.and_eq_true _ _).mp e).2
  have : ((List.range n).any fun k => f k && dmB A g h i k) = true := List.any_eq_true.2 ⟨k, List.mem_range.2 hk, by rw [hf, dmB_iff.2 hd]; rfl⟩
  rw [this] at h2; cases h2
theorem keep_out {A : Nat → Nat → Int} {n g : Nat} {f h : Nat → Bool} {i : Nat} (hf : f i = true) (e : keep A n g f h i = false) : ∃ k, k < n ∧ f k = true ∧ dm A g h i k := by
  unfold keep at e
  rw [hf, Bool.true_and, Bool.not_eq_false'] at e
  obtain ⟨k, hk, hb⟩ := List.any_eq_true.1 e
  obtain ⟨h1, h2⟩ := (Bool.and_eq_true _ _).mp hb
  exact ⟨k, List.mem_range.1 hk, h1, dmB_iff.1 h2⟩
theorem Inv.up {A T : Nat → Nat → Int} {n g : Nat} {f h : Nat → Bool} (s : Inv A T n g f h) (hA : ∀ i c, A i c ≤ 1000) {c0 : Nat} (hc0 : c0 < g) (hh0 : h c0 = true) :
    ∀ (m : Nat) (k : Nat), k < n → f k = true → (1000 - A k c0).toNat ≤ m → ∃ k', k' < n ∧ keep A n g f h k' = true ∧ (k' = k ∨ dm A g h k k')
  | m, k, hk, hf, hm => by
    cases e : keep A n g f h k with
    | true => exact ⟨k, hk, e, .inl rfl⟩
    | false =>
      obtain ⟨k2, h1, h2, h3⟩ := keep_out hf e
      have hlt := h3 c0 hc0 hh0
      have hb := hA k2 c0
      match m with
      | 0 => omega
      | m + 1 =>
        obtain ⟨k', j1, j2, j3⟩ := s.up hA hc0 hh0 m k2 h1 h2 (by omega)
        refine ⟨k', j1, j2, .inr ?_⟩
        rcases j3 with rfl | j3
        · exact h3
        · exact h3.trans j3
theorem Inv.all {A T : Nat → Nat → Int} {n g : Nat} {f h : Nat → Bool} (s : Inv A T n g f h) (hA : ∀ i c, A i c ≤ 1000) : Inv A T n g (keep A n g f h) h := by
  obtain ⟨c0, hc0, hh0⟩ := s.hne
  refine ⟨?_, s.hne, fun x hx hfx => ?_, fun c hc hhc => ?_, fun F H hs x hx hF => ?_, s.sh⟩
  · obtain ⟨i, hi, hf⟩ := s.fne
    obtain ⟨k', h1, h2, _⟩ := s.up hA hc0 hh0 _ i hi hf (Nat.le_refl _)
    exact ⟨k', h1, h2⟩
  · have base : ∃ k, k < n ∧ f k = true ∧ dm A g h x k := by
      cases e : f x with
      | true => exact keep_out e hfx
      | false => exact s.fc x hx e
    obtain ⟨k, h1, h2, h3⟩ := base
    obtain ⟨k', j1, j2, j3⟩ := s.up hA hc0 hh0 _ k h1 h2 (Nat.le_refl _)
    refine ⟨k', j1, j2, ?_⟩
    rcases j3 with rfl | j3
    · exact h3
    · exact h3.trans j3
  · obtain ⟨c', h1, h2, h3⟩ := s.hc c hc hhc
    exact ⟨c', h1, h2, h3.anti fun c _ h => keep_le h⟩
  · have h1 := s.sf F H hs x hx hF
    cases e : keep A n g f h x with
    | true => rfl
    | false =>
      obtain ⟨k, j1, j2, j3⟩ := keep_out h1 e
      exact absurd hF (s.out hs hx j1 j3)
theorem Inv.start {A T : Nat → Nat → Int} {n g : Nat} (hn : 1 ≤ n) (hg : 1 ≤ g) : Inv A T n g (fun _ => true) (fun _ => true) :=
  ⟨⟨0, hn, rfl⟩, ⟨0, hg, rfl⟩, fun _ _ h => (by cases h), fun _ _ h => (by cases h), fun _ _ _ _ _ _ => rfl, fun _ _ _ _ _ _ => rfl⟩
theorem Inv.fin {A T : Nat → Nat → Int} {n g : Nat} {f h : Nat → Bool} (s : Inv A T n g f h) (h1 : ∀ i k, i < n → k < n → f i = true → f k = true → ¬ dm A g h i k) (h2 : ∀ i k, i < g → k < g → h i = true → h k = true → ¬ dm T n f i k) : Sol A T n g f h :=
  ⟨h1, s.fc, h2, s.hc⟩
theorem Inv.uniq {A T : Nat → Nat → Int} {n g : Nat} {f h f' h' : Nat → Bool} (s : Inv A T n g f h) (s' : Inv A T n g f' h') (hs : Sol A T n g f h) (hs' : Sol A T n g f' h') : (∀ i, i < n → f i = f' i) ∧ ∀ i, i < g → h i = h' i := by
  have key : ∀ {x y : Bool}, (x = true → y = true) → (y = true → x = true) → x = y := fun {x y} a b => by
    cases x <;> cases y <;> simp_all
  exact ⟨fun i hi => key (s'.sf f h hs i hi) (s.sf f' h' hs' i hi), fun i hi => key (s'.sh f h hs i hi) (s.sh f' h' hs' i hi)⟩
/-! ### what is left, as rows of numbers -/
def fl (n : Nat) (f : Nat → Bool) : List Int := ((List.range n).filter f).map fun (k : Nat) => (k : Int)
theorem fl_yes {n : Nat} {f : Nat → Bool} (h : f n = true) : fl (n + 1) f = fl n f ++ [(n : Int)] := by
  unfold fl; rw [List.range_succ, List.filter_append, List.map_append]; simp [h]
theorem fl_no {n : Nat} {f : Nat → Bool} (h : f n = false) : fl (n + 1) f = fl n f := by
  unfold fl; rw [List.range_succ, List.filter_append, List.map_append]; simp [h]
theorem fl_len {n : Nat} {f : Nat → Bool} : (fl n f).length ≤ n := by
  unfold fl; rw [List.length_map]
  have := List.length_filter_le f (List.range n)
  rwa [List.length_range] at this
theorem fl_congr {n : Nat} {f f' : Nat → Bool} (h : ∀ i, i < n → f i = f' i) : fl n f = fl n f' := by
  unfold fl; rw [List.filter_congr fun i hi => h i (List.mem_range.1 hi)]
theorem fl_mem {n : Nat} {f : Nat → Bool} {x : Int} : x ∈ fl n f ↔ ∃ k : Nat, x = k ∧ k < n ∧ f k = true := by
  unfold fl
  simp only [List.mem_map, List.mem_filter, List.mem_range]
  exact ⟨fun ⟨k, ⟨h1, h2⟩, h3⟩ => ⟨k, h3.symm, h1, h2⟩, fun ⟨k, h1, h2, h3⟩ => ⟨k, ⟨h2, h3⟩, h1.symm⟩⟩
theorem fl_true {n : Nat} : fl n (fun _ => true) = (List.range n).map fun (k : Nat) => (k : Int) := by
  unfold fl; rw [List.filter_eq_self.2 fun _ _ => rfl]
theorem fl_filter {n : Nat} {f : Nat → Bool} {p : Int → Bool} : (fl n f).filter p = fl n fun k => f k && p k := by
  unfold fl
  rw [List.filter_map, List.filter_filter]
  congr 1
  exact List.filter_congr fun k _ => by simp [Function.comp, Bool.and_comm]
/-- A kept row that is as long is the same. -/
theorem fl_same {n : Nat} {f f' : Nat → Bool} (hle : ∀ i, f' i = true → f i = true) (hl : (fl n f').length = (fl n f).length) : ∀ i, i < n → f' i = f i := by
  unfold fl at hl
  rw [List.length_map, List.length_map, ← List.countP_eq_length_filter, ← List.countP_eq_length_filter] at hl
  revert hl
  induction n with
  | zero => intro _ i hi; omega
  | succ n ih =>
    intro hl
    rw [List.range_succ, List.countP_append, List.countP_append] at hl
    have hm : (List.range n).countP f' ≤ (List.range n).countP f := List.countP_mono_left fun x _ h => hle x h
    have hn := hle n
    cases e1 : f' n <;> cases e2 : f n <;> simp [e1, e2] at hl hn
    · intro i hi
      by_cases e : i = n
      · subst e; rw [e1, e2]
      · exact ih hl i (by omega)
    · exfalso; omega
    · intro i hi
      by_cases e : i = n
      · subst e; rw [e1, e2]
      · exact ih hl i (by omega)
theorem fl_shrink {n : Nat} {f f' : Nat → Bool} (hle : ∀ i, f' i = true → f i = true) : (fl n f').length ≤ (fl n f).length := by
  unfold fl
  rw [List.length_map, List.length_map, ← List.countP_eq_length_filter, ← List.countP_eq_length_filter]
  exact List.countP_mono_left fun x _ h => hle x h
theorem fl_rem {n : Nat} {f : Nat → Bool} {i : Nat} (hi : i < n) (hf : f i = true) : (fl n (rem f i)).length < (fl n f).length := by
  have hle : ∀ x, rem f i x = true → f x = true := fun x hx => by
    unfold rem at hx
    split at hx
    · cases hx
    · exact hx
  have h1 := fl_shrink (n := n) hle
  have h2 : (fl n (rem f i)).length ≠ (fl n f).length := fun e => by
    have := fl_same hle e i hi
    rw [hf] at this
    unfold rem at this
    rw [if_pos rfl] at this
    cases this
  omega
end Go.Proofs.Ytjhkeilampkihaa
