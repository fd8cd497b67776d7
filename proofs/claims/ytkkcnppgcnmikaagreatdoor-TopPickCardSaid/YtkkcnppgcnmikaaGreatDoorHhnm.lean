/- Accounts, plain: what is right; what is paid. No program in sight. -/
import Derived.Test.YtkkcnppgcnmikaaGreatDoorHdnm
import Derived.Test.YtkkcnppgcnmikaaGreatDoorHfnm
namespace Go.Proofs.YtkkcnppgcnmikaaGreatDoor
open Go FM
set_option maxRecDepth 10000
set_option linter.all false
theorem str_tri {a b : Str} (h : ¬ (a < b ∨ a = b)) : b < a := by
  have h1 : ¬ a < b := fun h' => h (.inl h')
  have h2 : b ≤ a := List.not_lt.1 h1
  refine Classical.byContradiction fun hn => h (.inr ?_)
  exact List.le_antisymm (List.not_lt.1 hn) h2
structure AcOk (l : List Ac) : Prop where
  len : l.length ≤ 6
  nm : ∀ a ∈ l, nmB a.1 = true
  mo : ∀ a ∈ l, 0 ≤ a.2.1 ∧ a.2.1 ≤ 1000000
  nu : ∀ a ∈ l, 0 ≤ a.2.2.1 ∧ a.2.2.1 ≤ 1000000
  srt : l.Pairwise fun a b => a.1 < b.1
theorem acR_zero : ∀ {l : List Ac} {last : Str}, acR last l = 0 → (∀ a ∈ l, nmB a.1 = true ∧ (0 ≤ a.2.1 ∧ a.2.1 ≤ 1000000) ∧ (0 ≤ a.2.2.1 ∧ a.2.2.1 ≤ 1000000) ∧ last < a.1) ∧ l.Pairwise fun a b => a.1 < b.1
  | [], last, _ => ⟨fun a h => (by cases h), List.Pairwise.nil⟩
  | a :: r, last, h => by
    unfold acR at h
    by_cases c : nmB a.1 = false ∨ (a.1 < last ∨ a.1 = last)
    · rw [if_pos c] at h; cases h
    rw [if_neg c] at h
    by_cases c2 : (wiB a.2.1 && (wiB a.2.2.1 && true)) = false
    · rw [if_pos c2] at h; cases h
    rw [if_neg c2] at h
    obtain ⟨h1, h2⟩ := acR_zero h
    have c2 : (wiB a.2.1 && (wiB a.2.2.1 && true)) = true := by simpa using c2
    rw [Bool.and_true, Bool.and_eq_true, wiB_iff, wiB_iff] at c2
    have hn : nmB a.1 = true := by
      cases e : nmB a.1 with
      | true => rfl
      | false => exact absurd (.inl e) c
    have hl : last < a.1 := str_tri fun h => c (.inr h)
    refine ⟨fun b hb => ?_, List.pairwise_cons.2 ⟨fun b hb => (h1 b hb).2.2.2, h2⟩⟩
    rcases List.mem_cons.1 hb with rfl | hb
    · exact ⟨hn, c2.1, c2.2, hl⟩
    · obtain ⟨g1, g2, g3, g4⟩ := h1 b hb
      exact ⟨g1, g2, g3, List.lt_trans hl g4⟩
theorem acE_ok {l : List Ac} (h : acE l = 0) : AcOk l := by
  unfold acE at h
  by_cases c : 6 < l.length
  · rw [if_pos c] at h; cases h
  rw [if_neg c] at h
  obtain ⟨h1, h2⟩ := acR_zero h
  exact ⟨by omega, fun a ha => (h1 a ha).1, fun a ha => (h1 a ha).2.1, fun a ha => (h1 a ha).2.2.1, h2⟩
theorem acR_range : ∀ (l : List Ac) (last : Str), 0 ≤ acR last l ∧ acR last l ≤ 3
  | [], last => by simp [acR]
  | a :: r, last => by
    have := acR_range r a.1
    unfold acR
    repeat' split
    all_goals omega
theorem acE_range (l : List Ac) : 0 ≤ acE l ∧ acE l ≤ 3 := by
  have := acR_range l []
  unfold acE; split <;> omega
theorem dlE_range (d : Dl) : 0 ≤ dlE d ∧ dlE d ≤ 3 := by
  unfold dlE; repeat' split
  all_goals omega
structure DlOk (d : Dl) : Prop where
  f : nmB d.1 = true
  t : nmB d.2.1 = true
  ne : d.1 ≠ d.2.1
  num : 0 ≤ d.2.2.1 ∧ d.2.2.1 ≤ 1000000
  much : 0 ≤ d.2.2.2.1 ∧ d.2.2.2.1 ≤ 1000000
  fee : 0 ≤ d.2.2.2.2.1 ∧ d.2.2.2.2.1 ≤ 1000000
  size : 1 ≤ d.2.2.2.2.2.1 ∧ d.2.2.2.2.2.1 ≤ 100
theorem dlE_ok {d : Dl} (h : dlE d = 0) : DlOk d := by
  unfold dlE at h
  by_cases c : nmB d.1 = false ∨ nmB d.2.1 = false ∨ d.1 = d.2.1
  · rw [if_pos c] at h; cases h
  rw [if_neg c] at h
  by_cases c2 : (wiB d.2.2.1 && (wiB d.2.2.2.1 && (wiB d.2.2.2.2.1 && true))) = false ∨ d.2.2.2.2.2.1 < 1 ∨ 100 < d.2.2.2.2.2.1
  · rw [if_pos c2] at h; cases h
  have e1 : nmB d.1 = true := by
    cases e : nmB d.1 with
    | true => rfl
    | false => exact absurd (.inl e) c
  have e2 : nmB d.2.1 = true := by
    cases e : nmB d.2.1 with
    | true => rfl
    | false => exact absurd (.inr (.inl e)) c
  have e3 : (wiB d.2.2.1 && (wiB d.2.2.2.1 && (wiB d.2.2.2.2.1 && true))) = true := by
    cases e : (wiB d.2.2.1 && (wiB d.2.2.2.1 && (wiB d.2.2.2.2.1 && true))) with
    | true => rfl
    | false => exact absurd (.inl e) c2
  rw [Bool.and_true, Bool.and_eq_true, Bool.and_eq_true, wiB_iff, wiB_iff, wiB_iff] at e3
  exact ⟨e1, e2, fun h => c (.inr (.inr h)), e3.1, e3.2.1, e3.2.2, by omega⟩
/-! ### where an account is -/
theorem fidx_at {α : Type} {p : α → Bool} : ∀ {l : List α} {k : Nat}, 0 ≤ fidx p l k → ∃ i : Nat, ∃ (h : i < l.length), fidx p l k = ((k + i : Nat) : Int) ∧ p l[i] = true
  | [], k, h => by simp [fidx] at h
  | x :: r, k, h => by
    unfold fidx at h ⊢
    cases hp : p x with
    | true => exact ⟨0, by simp, by rw [cond_true]; rfl, hp⟩
    | false =>
      rw [hp, cond_false] at h
      obtain ⟨i, hi, e1, e2⟩ := fidx_at h
      refine ⟨i + 1, by simpa using hi, ?_, e2⟩
      rw [cond_false, e1, show k + 1 + i = k + (i + 1) by omega]
theorem fA_at {l : List Ac} {s : Str} (h : 0 ≤ fA l s) : ∃ i : Nat, ∃ (h : i < l.length), fA l s = (i : Int) ∧ l[i].1 = s := by
  obtain ⟨i, hi, e1, e2⟩ := fidx_at (p := fun a : Ac => decide (a.1 = s)) (k := 0) h
  exact ⟨i, hi, by unfold fA; rw [e1, Nat.zero_add], of_decide_eq_true e2⟩
theorem fA_range (l : List Ac) (s : Str) : -1 ≤ fA l s ∧ fA l s < l.length := by
  have := fidx_range (p := fun a : Ac => decide (a.1 = s)) (l := l) (k := 0)
  rw [Nat.zero_add] at this; exact this
/-- One account is turned: by its place, or by its name. -/
theorem set_name {l : List Ac} (h : l.Pairwise fun a b => a.1 < b.1) {i : Nat} (hi : i < l.length) (f : Ac → Ac) : l.set i (f l[i]) = l.map fun a => if a.1 = l[i].1 then f a else a := by
  refine List.ext_getElem (by simp) fun j h1 h2 => ?_
  rw [List.getElem_set, List.getElem_map]
  have hj : j < l.length := by simpa using h2
  by_cases e : i = j
  · subst e; rw [if_pos rfl, if_pos rfl]
  · rw [if_neg e, if_neg]
    intro hn
    rcases Nat.lt_or_gt_of_ne e with h' | h'
    · have := List.pairwise_iff_getElem.1 h i j hi hj h'
      rw [hn] at this; exact List.lt_irrefl _ this
    · have := List.pairwise_iff_getElem.1 h j i hj hi h'
      rw [hn] at this; exact List.lt_irrefl _ this
def pay1 (d : Dl) (a : Ac) : Ac := (a.1, a.2.1 - (d.2.2.2.1 + d.2.2.2.2.1), a.2.2.1 + 1, ())
def pay2 (d : Dl) (a : Ac) : Ac := (a.1, a.2.1 + d.2.2.2.1, a.2.2.1, ())
def pay3 (d : Dl) (a : Ac) : Ac := (a.1, a.2.1 + d.2.2.2.2.1, a.2.2.1, ())
def if1 (d : Dl) (a : Ac) : Ac := if a.1 = d.1 then pay1 d a else a
def if2 (d : Dl) (a : Ac) : Ac := if a.1 = d.2.1 then pay2 d a else a
def if3 (d : Dl) (w : Str) (a : Ac) : Ac := if a.1 = w then pay3 d a else a
theorem if1_nm {d : Dl} {a : Ac} : (if1 d a).1 = a.1 := by unfold if1; split <;> rfl
theorem if2_nm {d : Dl} {a : Ac} : (if2 d a).1 = a.1 := by unfold if2; split <;> rfl
theorem if3_nm {d : Dl} {w : Str} {a : Ac} : (if3 d w a).1 = a.1 := by unfold if3; split <;> rfl
/-- What accounts are when a deal is taken in. -/
def tkM (l : List Ac) (d : Dl) (w : Str) : List Ac := l.map fun a => if3 d w (if2 d (if1 d a))
theorem map_srt {l : List Ac} (h : l.Pairwise fun a b => a.1 < b.1) {f : Ac → Ac} (hf : ∀ a, (f a).1 = a.1) : (l.map f).Pairwise fun a b => a.1 < b.1 := by
  rw [List.pairwise_map]
  exact h.imp fun h => by rw [hf, hf]; exact h
/-- What is answered when a deal is taken in. -/
def tkE (l : List Ac) (d : Dl) (w : Str) : Int :=
  if acE l ≠ 0 then acE l else if dlE d ≠ 0 then dlE d else if fA l d.1 < 0 ∨ fA l d.2.1 < 0 ∨ fA l w < 0 then 4
  else if d.2.2.1 ≠ (l.getD (fA l d.1).toNat ([], 0, 0, ())).2.2.1 then 6 else if (l.getD (fA l d.1).toNat ([], 0, 0, ())).2.1 < d.2.2.2.1 + d.2.2.2.2.1 then 11
  else if acE (tkM l d w) ≠ 0 then 8 else 0
theorem tkM_len {l : List Ac} {d : Dl} {w : Str} : (tkM l d w).length = l.length := List.length_map _
theorem tkM_L {l : List Ac} {d : Dl} {w : Str} (h : AcL l) : AcL (tkM l d w) := ⟨by rw [tkM_len]; exact h.len, fun a ha => by
  obtain ⟨b, hb, rfl⟩ := List.mem_map.1 ha
  rw [if3_nm, if2_nm, if1_nm]; exact h.str b hb⟩
end Go.Proofs.YtkkcnppgcnmikaaGreatDoor

/- Accounts: one more account, where it belongs. No program in sight. -/
namespace Go.Proofs.YtkkcnppgcnmikaaGreatDoor
open Go FM
set_option maxRecDepth 10000
set_option linter.all false
/-- What is answered when an account is opened. -/
def opE (l : List Ac) (s : Str) (m : Int) : Int :=
  if acE l ≠ 0 then acE l else if nmB s = false then 3 else if wiB m = false then 1 else if 0 ≤ fA l s then 7 else if 6 ≤ l.length then 8 else 0
def opK (l : List Ac) (s : Str) : Nat := (l.takeWhile fun a => decide (a.1 < s)).length
def opM (l : List Ac) (s : Str) (m : Int) : List Ac := l.take (opK l s) ++ (s, m, 0, ()) :: l.drop (opK l s)
theorem opK_lt : ∀ {l : List Ac} {s : Str} {k : Nat} (_ : k < opK l s) (hl : k < l.length), l[k].1 < s
  | [], s, k, h, hl => absurd hl (Nat.not_lt_zero _)
  | a :: r, s, k, h, hl => by
    unfold opK at h
    rw [List.takeWhile_cons] at h
    by_cases c : a.1 < s
    · rw [if_pos (decide_eq_true c)] at h
      cases k with
      | zero => exact c
      | succ k => exact opK_lt (l := r) (k := k) (by unfold opK; simpa using h) (by simpa using hl)
    · rw [if_neg (by simpa using c)] at h; simp at h
theorem opK_at : ∀ {l : List Ac} {s : Str} (h : opK l s < l.length), ¬ l[opK l s].1 < s
  | [], s, h => absurd h (Nat.not_lt_zero _)
  | a :: r, s, h => by
    have e : opK (a :: r) s = if a.1 < s then opK r s + 1 else 0 := by
      unfold opK
      rw [List.takeWhile_cons]
      by_cases c : a.1 < s
      · rw [if_pos (decide_eq_true c), if_pos c]; rfl
      · rw [if_neg (by simpa using c), if_neg c]; rfl
    by_cases c : a.1 < s
    · rw [if_pos c] at e
      have h' : opK r s < r.length := by rw [e] at h; simpa using h
      have := opK_at (l := r) h'
      intro hh
      apply this
      have e2 : (a :: r)[opK (a :: r) s] = r[opK r s] := by
        have : ∀ (j : Nat) (hj : j < (a :: r).length), j = opK r s + 1 → (a :: r)[j] = r[opK r s] := fun j hj hje => by subst hje; rfl
        exact this _ _ e
      rw [e2] at hh; exact hh
    · rw [if_neg c] at e
      intro hh
      apply c
      have : ∀ (j : Nat) (hj : j < (a :: r).length), j = 0 → (a :: r)[j] = a := fun j hj hje => by subst hje; rfl
      rw [this _ _ e] at hh; exact hh
theorem fidx_none {α : Type} {p : α → Bool} : ∀ {l : List α} {k : Nat}, fidx p l k < 0 → ∀ x ∈ l, p x = false
  | [], k, _, x, h => by cases h
  | y :: r, k, h, x, hx => by
    unfold fidx at h
    cases hp : p y with
    | true => rw [hp, cond_true] at h; omega
    | false =>
      rw [hp, cond_false] at h
      rcases List.mem_cons.1 hx with rfl | hx
      · exact hp
      · exact fidx_none h x hx
/-- Sorted by names: only one way. -/
theorem nm_unique {l l' : List Ac} (hp : l.Perm l') (h : l.Pairwise fun a b => ¬ b.1 < a.1) (h' : l'.Pairwise fun a b => ¬ b.1 < a.1) (hn : ∀ a ∈ l, ∀ b ∈ l, a.1 = b.1 → a = b) : l = l' :=
  List.Perm.eq_of_pairwise (le := fun a b => ¬ b.1 < a.1) (fun a b ha hb h1 h2 => hn a ha b (hp.mem_iff.2 hb) (List.le_antisymm (List.not_lt.1 h1) (List.not_lt.1 h2))) h h' hp
theorem opM_srt {l : List Ac} {s : Str} {m : Int} (h : l.Pairwise fun a b => a.1 < b.1) : (opM l s m).Pairwise fun a b => ¬ b.1 < a.1 := by
  have irr : ∀ {a b : Str}, a < b → ¬ b < a := fun h1 h2 => List.lt_irrefl _ (List.lt_trans h1 h2)
  unfold opM
  rw [List.pairwise_append, List.pairwise_cons]
  refine ⟨(h.sublist (List.take_sublist _ _)).imp fun h => irr h, ⟨fun b hb => ?_, (h.sublist (List.drop_sublist _ _)).imp fun h => irr h⟩, fun a ha b hb => ?_⟩
  · obtain ⟨j, hj, rfl⟩ := List.mem_iff_getElem.1 hb
    rw [List.length_drop] at hj
    rw [List.getElem_drop]
    have h0 := opK_at (l := l) (s := s) (by omega)
    by_cases e : j = 0
    · subst e
      have : l[opK l s + 0] = l[opK l s]'(by omega) := rfl
      rw [this]; exact h0
    · have h1 := List.pairwise_iff_getElem.1 h (opK l s) (opK l s + j) (by omega) (by omega) (by omega)
      intro h2
      exact h0 (List.lt_trans h1 h2)
  · obtain ⟨j, hj, rfl⟩ := List.mem_iff_getElem.1 ha
    rw [List.length_take] at hj
    rw [List.getElem_take]
    have h0 := opK_lt (l := l) (s := s) (k := j) (by omega) (by omega)
    rcases List.mem_cons.1 hb with rfl | hb
    · exact irr h0
    · obtain ⟨i, hi, rfl⟩ := List.mem_iff_getElem.1 hb
      rw [List.length_drop] at hi
      rw [List.getElem_drop]
      exact irr (List.pairwise_iff_getElem.1 h j (opK l s + i) (by omega) (by omega) (by omega))
theorem opM_perm {l : List Ac} {s : Str} {m : Int} : (l ++ [(s, m, 0, ())]).Perm (opM l s m) := by
  unfold opM
  refine List.Perm.trans ?_ (List.perm_middle.symm)
  rw [List.take_append_drop]
  exact List.perm_append_singleton _ _
theorem nm_inj {l : List Ac} (h : l.Pairwise fun a b => a.1 < b.1) {s : Str} {m : Int} (hf : fA l s < 0) : ∀ a ∈ l ++ [(s, m, 0, ())], ∀ b ∈ l ++ [(s, m, 0, ())], a.1 = b.1 → a = b := by
  have hno : ∀ a ∈ l, a.1 ≠ s := fun a ha e => by
    have := fidx_none (p := fun a : Ac => decide (a.1 = s)) hf a ha
    rw [decide_eq_false_iff_not] at this; exact this e
  have hin : ∀ a ∈ l, ∀ b ∈ l, a.1 = b.1 → a = b := fun a ha b hb e => by
    obtain ⟨i, hi, rfl⟩ := List.mem_iff_getElem.1 ha
    obtain ⟨j, hj, rfl⟩ := List.mem_iff_getElem.1 hb
    rcases Nat.lt_trichotomy i j with c | c | c
    · have := List.pairwise_iff_getElem.1 h i j hi hj c
      rw [e] at this; exact absurd this (List.lt_irrefl _)
    · subst c; rfl
    · have := List.pairwise_iff_getElem.1 h j i hj hi c
      rw [e] at this; exact absurd this (List.lt_irrefl _)
  intro a ha b hb e
  rcases List.mem_append.1 ha with ha | ha <;> rcases List.mem_append.1 hb with hb | hb
  · exact hin a ha b hb e
  · rw [List.mem_singleton] at hb; subst hb; exact absurd e (hno a ha)
  · rw [List.mem_singleton] at ha; subst ha; exact absurd e.symm (hno b hb)
  · rw [List.mem_singleton] at ha hb; rw [ha, hb]
end Go.Proofs.YtkkcnppgcnmikaaGreatDoor
