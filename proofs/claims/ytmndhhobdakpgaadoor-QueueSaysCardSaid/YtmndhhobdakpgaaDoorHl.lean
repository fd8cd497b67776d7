/- Accounts: one more account, where it belongs. No program in sight. -/
import Derived.Test.YtmndhhobdakpgaaDoorHh
namespace Go.Proofs.YtmndhhobdakpgaaDoor
open Go FM
set_option maxRecDepth 10000
set_option linter.all false
/-- What is answered when an account is opened. -/
def opE (l : List Ac) (s : Str) (m : Int) : Int :=
  if acE l ≠ 0 then acE l else if nmB s = false then 3 else if wiB m = false then 1 else if 0 ≤ fA l s then 7 else if 6 ≤ l.length then 8 else 0
def opK (l : List Ac) (s : Str) : Nat := (l.takeWhile fun a => decide (a.1 < s)).length
def opM (l : List Ac) (s : Str) (m : Int) : List Ac := l.take (opK l s) ++ (s, m, 0, ()) :: l.drop (opK l s)
theorem opK_le {l : List Ac} {s : Str} : opK l s ≤ l.length := List.Sublist.length_le (List.takeWhile_sublist _)
theorem opK_lt : ∀ {l : List Ac} {s : Str} {k : Nat} (_ : k < opK l s) (hl : k < l.length), l[k].1 < s
  | [], s, k, h, hl => absurd hl (Nat.not_lt_zero _)
  | a :: r, s, k, h, hl => by
    unfold opK at h
    rw [List.takeWhile_cons] at h
    by_cases c : a.1 < s
    · rw [if_pos (decide_eq_true c)] at h
      cases k with
      | zero => exact c
      | succ k => exact opK_lt (l := r) (k := k) (by unfold opK; simpa using h) (by simpa using hl)
    · rw [if_neg (by simpa using c)] at h; simp at h
theorem opK_at : ∀ {l : List Ac} {s : Str} (h : opK l s < l.length), ¬ l[opK l s].1 < s
  | [], s, h => absurd h (Nat.not_lt_zero _)
  | a :: r, s, h => by
    have e : opK (a :: r) s = if a.1 < s then opK r s + 1 else 0 := by
      unfold opK
      rw [List.takeWhile_cons]
      by_cases c : a.1 < s
      · rw [if_pos (decide_eq_true c), if_pos c]; rfl
      · rw [if_neg (by simpa using c), if_neg c]; rfl
    by_cases c : a.1 < s
    · rw [if_pos c] at e
      have h' : opK r s < r.length := by rw [e] at h; simpa using h
      have := opK_at (l := r) h'
      intro hh
      apply this
      have e2 : (a :: r)[opK (a :: r) s] = r[opK r s] := by
        have : ∀ (j : Nat) (hj : j < (a :: r).length), j = opK r s + 1 → (a :: r)[j] = r[opK r s] := fun j hj hje => by subst hje; rfl
        exact this _ _ e
      rw [e2] at hh; exact hh
    · rw [if_neg c] at e
      intro hh
      apply c
      have : ∀ (j : Nat) (hj : j < (a :: r).length), j = 0 → (a :: r)[j] = a := fun j hj hje => by subst hje; rfl
      rw [this _ _ e] at hh; exact hh
theorem fidx_none {α : Type} {p : α → Bool} : ∀ {l : List α} {k : Nat}, fidx p l k < 0 → ∀ x ∈ l, p x = false
  | [], k, _, x, h => by cases h
  | y :: r, k, h, x, hx => by
    unfold fidx at h
    cases hp : p y with
    | true => rw [hp, cond_true] at h; omega
    | false =>
      rw [hp, cond_false] at h
      rcases List.mem_cons.1 hx with rfl | hx
      · exact hp
      · exact fidx_none h x hx
/-- Sorted by names: only one way. -/
theorem nm_unique {l l' : List Ac} (hp : l.Perm l') (h : l.Pairwise fun a b => ¬ b.1 < a.1) (h' : l'.Pairwise fun a b => ¬ b.1 < a.1) (hn : ∀ a ∈ l, ∀ b ∈ l, a.1 = b.1 → a = b) : l = l' :=
  List.Perm.eq_of_pairwise (le := fun a b => ¬ b.1 < a.1) (fun a b ha hb h1 h2 => hn a ha b (hp.mem_iff.2 hb) (List.le_antisymm (List.not_lt.1 h1) (List.not_lt.1 h2))) h h' hp
theorem opM_srt {l : List Ac} {s : Str} {m : Int} (h : l.Pairwise fun a b => a.1 < b.1) : (opM l s m).Pairwise fun a b => ¬ b.1 < a.1 := by
  have irr : ∀ {a b : Str}, a < b → ¬ b < a := fun h1 h2 => List.lt_irrefl _ (List.lt_trans h1 h2)
  unfold opM
  rw [List.pairwise_append, List.pairwise_cons]
  refine ⟨(h.sublist (List.take_sublist _ _)).imp fun h => irr h, ⟨fun b hb => ?_, (h.sublist (List.drop_sublist _ _)).imp fun h => irr h⟩, fun a ha b hb => ?_⟩
  · obtain ⟨j, hj, rfl⟩ := List.mem_iff_getElem.1 hb
    rw [List.length_drop] at hj
    rw [List.getElem_drop]
    have h0 := opK_at (l := l) (s := s) (by omega)
    by_cases e : j = 0
    · subst e
      have : l[opK l s + 0] = l[opK l s]'(by omega) := rfl
      rw [this]; exact h0
    · have h1 := List.pairwise_iff_getElem.1 h (opK l s) (opK l s + j) (by omega) (by omega) (by omega)
      intro h2
      exact h0 (List.lt_trans h1 h2)
  · obtain ⟨j, hj, rfl⟩ := List.mem_iff_getElem.1 ha
    rw [List.length_take] at hj
    rw [List.getElem_take]
    have h0 := opK_lt (l := l) (s := s) (k := j) (by omega) (by omega)
    rcases List.mem_cons.1 hb with rfl | hb
    · exact irr h0
    · obtain ⟨i, hi, rfl⟩ := List.mem_iff_getElem.1 hb
      rw [List.length_drop] at hi
      rw [List.getElem_drop]
      exact irr (List.pairwise_iff_getElem.1 h j (opK l s + i) (by omega) (by omega) (by omega))
theorem opM_perm {l : List Ac} {s : Str} {m : Int} : (l ++ [(s, m, 0, ())]).Perm (opM l s m) := by
  unfold opM
  refine List.Perm.trans ?_ (List.perm_middle.symm)
  rw [List.take_append_drop]
  exact List.perm_append_singleton _ _
theorem nm_inj {l : List Ac} (h : l.Pairwise fun a b => a.1 < b.1) {s : Str} {m : Int} (hf : fA l s < 0) : ∀ a ∈ l ++ [(s, m, 0, ())], ∀ b ∈ l ++ [(s, m, 0, ())], a.1 = b.1 → a = b := by
  have hno : ∀ a ∈ l, a.1 ≠ s := fun a ha e => by
    have := fidx_none (p := fun a : Ac => decide (a.1 = s)) hf a ha
    rw [decide_eq_false_iff_not] at this; exact this e
  have hin : ∀ a ∈ l, ∀ b ∈ l, a.1 = b.1 → a = b := fun a ha b hb e => by
    obtain ⟨i, hi, rfl⟩ := List.mem_iff_getElem.1 ha
    obtain ⟨j, hj, rfl⟩ := List.mem_iff_getElem.1 hb
    rcases Nat.lt_trichotomy i j with c | c | c
    · have := List.pairwise_iff_getElem.1 h i j hi hj c
      rw [e] at this; exact absurd this (List.lt_irrefl _)
    · subst c; rfl
    · have := List.pairwise_iff_getElem.1 h j i hj hi c
      rw [e] at this; exact absurd this (List.lt_irrefl _)
  intro a ha b hb e
  rcases List.mem_append.1 ha with ha | ha <;> rcases List.mem_append.1 hb with hb | hb
  · exact hin a ha b hb e
  · rw [List.mem_singleton] at hb; subst hb; exact absurd e (hno a ha)
  · rw [List.mem_singleton] at ha; subst ha; exact absurd e.symm (hno b hb)
  · rw [List.mem_singleton] at ha hb; rw [ha, hb]
theorem opM_len {l : List Ac} {s : Str} {m : Int} : (opM l s m).length = l.length + 1 := by rw [← opM_perm.length_eq, List.length_append]; rfl
end Go.Proofs.YtmndhhobdakpgaaDoor
