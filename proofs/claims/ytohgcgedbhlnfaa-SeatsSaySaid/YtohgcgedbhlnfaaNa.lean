/- Rows of parts, sorted by quotients: the order, sorting, merging, blocks. No program in sight. -/
namespace Go.Proofs.Ytohgcgedbhlnfaa
set_option linter.all false
/-- Whose it is, how many people, by what they are divided. -/
abbrev Pt := Int × Int × Int
theorem q_le {p1 b1 p2 b2 p3 b3 : Int} (h1 : 0 < b1) (h2 : 0 < b2) (h3 : 0 < b3) (a : p2 * b1 ≤ p1 * b2) (b : p3 * b2 ≤ p2 * b3) : p3 * b1 ≤ p1 * b3 := by
  have e1 : p3 * b2 * b1 ≤ p2 * b3 * b1 := Int.mul_le_mul_of_nonneg_right b (by omega)
  have e2 : p2 * b1 * b3 ≤ p1 * b2 * b3 := Int.mul_le_mul_of_nonneg_right a (by omega)
  rw [Int.mul_right_comm] at e1
  rw [Int.mul_right_comm p2, Int.mul_right_comm p1] at e2
  exact Int.le_of_mul_le_mul_right (Int.le_trans e1 e2) h2
theorem q_lt1 {p1 b1 p2 b2 p3 b3 : Int} (h1 : 0 < b1) (h2 : 0 < b2) (h3 : 0 < b3) (a : p2 * b1 < p1 * b2) (b : p3 * b2 ≤ p2 * b3) : p3 * b1 < p1 * b3 := by
  have e1 : p3 * b2 * b1 ≤ p2 * b3 * b1 := Int.mul_le_mul_of_nonneg_right b (by omega)
  have e2 : p2 * b1 * b3 < p1 * b2 * b3 := Int.mul_lt_mul_of_pos_right a h3
  rw [Int.mul_right_comm] at e1
  rw [Int.mul_right_comm p2, Int.mul_right_comm p1] at e2
  exact Int.lt_of_mul_lt_mul_right (Int.lt_of_le_of_lt e1 e2) (by omega)
theorem q_lt2 {p1 b1 p2 b2 p3 b3 : Int} (h1 : 0 < b1) (h2 : 0 < b2) (h3 : 0 < b3) (a : p2 * b1 ≤ p1 * b2) (b : p3 * b2 < p2 * b3) : p3 * b1 < p1 * b3 := by
  have e1 : p3 * b2 * b1 < p2 * b3 * b1 := Int.mul_lt_mul_of_pos_right b h1
  have e2 : p2 * b1 * b3 ≤ p1 * b2 * b3 := Int.mul_le_mul_of_nonneg_right a (by omega)
  rw [Int.mul_right_comm] at e1
  rw [Int.mul_right_comm p2, Int.mul_right_comm p1] at e2
  exact Int.lt_of_mul_lt_mul_right (Int.lt_of_lt_of_le e1 e2) (by omega)
/-- x has the greater quotient. -/
abbrev kb (x y : Pt) : Prop := y.2.1 * x.2.2 < x.2.1 * y.2.2
/-- x stands ahead in the row. -/
abbrev lx (x y : Pt) : Prop := x.1 < y.1 ∨ (x.1 = y.1 ∧ x.2.2 < y.2.2)
/-- x is to stand ahead of y. -/
def tl (x y : Pt) : Prop := kb x y ∨ (y.2.1 * x.2.2 = x.2.1 * y.2.2 ∧ lx x y)
instance (x y : Pt) : Decidable (tl x y) := by unfold tl; infer_instance
def Gd (x : Pt) : Prop := (0 ≤ x.2.1 ∧ x.2.1 ≤ 1000000000) ∧ 1 ≤ x.2.2 ∧ x.2.2 ≤ 1000
theorem tl_asymm {x y : Pt} (a : tl x y) (b : tl y x) : False := by unfold tl kb lx at *; omega
theorem tl_trans {x y z : Pt} (hx : Gd x) (hy : Gd y) (hz : Gd z) (a : tl x y) (b : tl y z) : tl x z := by
  unfold tl kb lx Gd at *
  have h1 : 0 < x.2.2 := by omega
  have h2 : 0 < y.2.2 := by omega
  have h3 : 0 < z.2.2 := by omega
  rcases a with a | ⟨a, a'⟩
  · have := q_lt1 h1 h2 h3 a (show z.2.1 * y.2.2 ≤ y.2.1 * z.2.2 by omega)
    omega
  · rcases b with b | ⟨b, b'⟩
    · have := q_lt2 h1 h2 h3 (show y.2.1 * x.2.2 ≤ x.2.1 * y.2.2 by omega) b
      omega
    · have e1 := q_le h1 h2 h3 (show y.2.1 * x.2.2 ≤ x.2.1 * y.2.2 by omega) (show z.2.1 * y.2.2 ≤ y.2.1 * z.2.2 by omega)
      have e2 := q_le h3 h2 h1 (show y.2.1 * z.2.2 ≤ z.2.1 * y.2.2 by omega) (show x.2.1 * y.2.2 ≤ y.2.1 * x.2.2 by omega)
      omega
theorem tl_total {x y : Pt} (hx : Gd x) (hy : Gd y) (h : x ≠ y) : tl x y ∨ tl y x := by
  unfold tl kb lx
  by_cases c : y.2.1 * x.2.2 = x.2.1 * y.2.2
  · by_cases c1 : x.1 = y.1
    · by_cases c2 : x.2.2 = y.2.2
      · exfalso
        obtain ⟨a, p, b⟩ := x
        obtain ⟨a', p', b'⟩ := y
        unfold Gd at hx hy
        dsimp only at *
        subst c1; subst c2
        have := Int.eq_of_mul_eq_mul_right (show b ≠ 0 by omega) c
        subst this
        exact h rfl
      · omega
    · omega
  · omega
/-- Asked of a later one and an earlier one, the quotients alone tell. -/
theorem kb_tl {x y : Pt} (h : lx x y) : kb y x ↔ tl y x := by unfold tl kb lx at *; omega
def insP (x : Pt) : List Pt → List Pt
  | [] => [x]
  | y :: l => if tl x y then x :: y :: l else y :: insP x l
def srt : List Pt → List Pt
  | [] => []
  | x :: l => insP x (srt l)
theorem insP_perm (x : Pt) : ∀ l, (insP x l).Perm (x :: l)
  | [] => .refl _
  | y :: l => by
    unfold insP
    split
    · exact .refl _
    · exact ((insP_perm x l).cons y).trans (.swap ..)
theorem srt_perm : ∀ l, (srt l).Perm l
  | [] => .refl _
  | x :: l => (insP_perm x (srt l)).trans ((srt_perm l).cons x)
theorem srt_len (l : List Pt) : (srt l).length = l.length := (srt_perm l).length_eq
theorem insP_sorted {x : Pt} (hx : Gd x) : ∀ {l : List Pt}, l.Pairwise tl → (∀ y ∈ l, Gd y) → x ∉ l → (insP x l).Pairwise tl
  | [], _, _, _ => by simp [insP]
  | y :: l, h, hg, hn => by
    rw [List.pairwise_cons] at h
    unfold insP
    have hgy := hg y (List.mem_cons_self ..)
    split
    · rename_i c
      refine .cons (fun z hz => ?_) (.cons h.1 h.2)
      rcases List.mem_cons.1 hz with rfl | hz
      · exact c
      · exact tl_trans hx hgy (hg z (List.mem_cons_of_mem _ hz)) c (h.1 z hz)
    · rename_i c
      have c' : tl y x := (tl_total hx hgy (fun e => hn (e ▸ List.mem_cons_self ..))).resolve_left c
      refine .cons (fun z hz => ?_) (insP_sorted hx h.2 (fun z hz => hg z (List.mem_cons_of_mem _ hz)) fun hz => hn (List.mem_cons_of_mem _ hz))
      rcases List.mem_cons.1 ((insP_perm x l).mem_iff.1 hz) with rfl | hz
      · exact c'
      · exact h.1 z hz
structure OkP (l : List Pt) : Prop where
  g : ∀ x ∈ l, Gd x
  nd : l.Nodup
theorem OkP.sub {l r : List Pt} (h : OkP l) (hs : r.Sublist l) : OkP r := ⟨fun x hx => h.g x (hs.mem hx), h.nd.sublist hs⟩
theorem OkP.perm {l r : List Pt} (h : OkP l) (hp : r.Perm l) : OkP r := ⟨fun x hx => h.g x (hp.mem_iff.1 hx), hp.nodup_iff.2 h.nd⟩
theorem srt_sorted : ∀ {l : List Pt}, OkP l → (srt l).Pairwise tl
  | [], _ => by simp [srt]
  | x :: l, h => by
    have hn := List.nodup_cons.1 h.nd
    exact insP_sorted (h.g x (List.mem_cons_self ..)) (srt_sorted ⟨fun y hy => h.g y (List.mem_cons_of_mem _ hy), hn.2⟩) (fun y hy => h.g y (List.mem_cons_of_mem _ ((srt_perm l).mem_iff.1 hy))) fun hx => hn.1 ((srt_perm l).mem_iff.1 hx)
theorem sorted_eq : ∀ {r s : List Pt}, r.Perm s → r.Pairwise tl → s.Pairwise tl → r = s
  | [], s, hp, _, _ => hp.nil_eq
  | x :: r, [], hp, _, _ => absurd hp.length_eq (by simp)
  | x :: r, y :: s, hp, hr, hs => by
    have hr' := List.pairwise_cons.1 hr
    have hs' := List.pairwise_cons.1 hs
    have hxy : x = y := by
      rcases List.mem_cons.1 (hp.mem_iff.1 (List.mem_cons_self ..)) with e | e
      · exact e
      · rcases List.mem_cons.1 (hp.mem_iff.2 (List.mem_cons_self (a := y) (l := s))) with e' | e'
        · exact e'.symm
        · exact (tl_asymm (hr'.1 y e') (hs'.1 x e)).elim
    subst hxy
    rw [sorted_eq ((List.perm_cons x).1 hp) hr'.2 hs'.2]
theorem srt_of {r l : List Pt} (hl : OkP l) (hp : r.Perm l) (hr : r.Pairwise tl) : srt l = r := sorted_eq ((srt_perm l).trans hp.symm) (srt_sorted hl) hr
theorem srt_congr {r l : List Pt} (hl : OkP l) (hp : r.Perm l) : srt l = srt r := srt_of hl ((srt_perm r).trans hp) (srt_sorted (hl.perm hp))
theorem srt_self {l : List Pt} (hl : OkP l) (hr : l.Pairwise tl) : srt l = l := srt_of hl (.refl _) hr
theorem srt_join {X Y : List Pt} (h : OkP (X ++ Y)) (hx : ∀ x ∈ X, ∀ y ∈ Y, tl x y) : srt (X ++ Y) = srt X ++ srt Y := by
  refine srt_of h ((srt_perm X).append (srt_perm Y)) (List.pairwise_append.2 ⟨srt_sorted (h.sub (List.sublist_append_left ..)), srt_sorted (h.sub (List.sublist_append_right ..)), fun x hx' y hy' => ?_⟩)
  exact hx x ((srt_perm X).mem_iff.1 hx') y ((srt_perm Y).mem_iff.1 hy')
/-- One more is put in: behind what is ahead of it. -/
theorem srt_put {A B : List Pt} {x : Pt} {l : List Pt} (h : OkP (l ++ [x])) (hs : srt l = A ++ B) (h1 : ∀ y ∈ A, tl y x) (h2 : ∀ y ∈ B, tl x y) : srt (l ++ [x]) = A ++ x :: B := by
  have hl : OkP l := h.sub (List.sublist_append_left ..)
  have hp := srt_perm l
  have hq := srt_sorted hl
  rw [hs] at hp hq
  have hq := List.pairwise_append.1 hq
  refine srt_of h ?_ (List.pairwise_append.2 ⟨hq.1, .cons h2 hq.2.1, fun y hy z hz => ?_⟩)
  · exact List.perm_middle.trans ((hp.cons x).trans (List.perm_append_singleton x l).symm)
  · rcases List.mem_cons.1 hz with rfl | hz
    · exact h1 y hy
    · exact hq.2.2 y hy z hz
theorem last_all {A : List Pt} {x : Pt} (hA : A.Pairwise tl) (hg : ∀ y ∈ A, Gd y) (hx : Gd x) (h : ∀ (hne : A ≠ []), tl (A.getLast hne) x) : ∀ y ∈ A, tl y x := by
  intro y hy
  have hne : A ≠ [] := List.ne_nil_of_mem hy
  have hl := h hne
  obtain ⟨i, hi, rfl⟩ := List.getElem_of_mem hy
  by_cases e : i = A.length - 1
  · subst e; rw [List.getLast_eq_getElem] at hl; exact hl
  · rw [List.getLast_eq_getElem] at hl
    exact tl_trans (hg _ hy) (hg _ (List.getElem_mem _)) hx (List.pairwise_iff_getElem.1 hA i (A.length - 1) hi (by omega) (by omega)) hl
theorem cross_all {A D : List Pt} (hA : A.Pairwise tl) (hD : D.Pairwise tl) (gA : ∀ y ∈ A, Gd y) (gD : ∀ y ∈ D, Gd y) (h : ∀ (h1 : A ≠ []) (h2 : D ≠ []), tl (A.getLast h1) (D.head h2)) : ∀ x ∈ A, ∀ y ∈ D, tl x y := by
  intro x hx y hy
  cases D with
  | nil => cases hy
  | cons d D =>
    have hd := last_all hA gA (gD d (List.mem_cons_self ..)) (fun hne => h hne (by simp)) x hx
    rcases List.mem_cons.1 hy with rfl | hy'
    · exact hd
    · exact tl_trans (gA x hx) (gD d (List.mem_cons_self ..)) (gD y hy) hd ((List.pairwise_cons.1 hD).1 y hy')
/-- Two sorted rows, each cut in two, the lower parts and the upper parts put together. -/
theorem srt_cross {A B C D : List Pt} (h : OkP ((A ++ B) ++ (C ++ D))) (hL : (A ++ B).Pairwise tl) (hR : (C ++ D).Pairwise tl) (h1 : ∀ (h1 : A ≠ []) (h2 : D ≠ []), tl (A.getLast h1) (D.head h2)) (h2 : ∀ (h1 : C ≠ []) (h2 : B ≠ []), tl (C.getLast h1) (B.head h2)) : srt ((A ++ B) ++ (C ++ D)) = srt (A ++ C) ++ srt (B ++ D) := by
  have hL' := List.pairwise_append.1 hL
  have hR' := List.pairwise_append.1 hR
  have g : ∀ x, x ∈ A ∨ x ∈ B ∨ x ∈ C ∨ x ∈ D → Gd x := fun x hx => h.g x (by simp only [List.mem_append]; rcases hx with a | a | a | a <;> simp [a])
  have hAD := cross_all hL'.1 hR'.2.1 (fun y hy => g y (.inl hy)) (fun y hy => g y (.inr (.inr (.inr hy)))) h1
  have hCB := cross_all hR'.1 hL'.2.1 (fun y hy => g y (.inr (.inr (.inl hy)))) (fun y hy => g y (.inr (.inl hy))) h2
  have hp : ((A ++ C) ++ (B ++ D)).Perm ((A ++ B) ++ (C ++ D)) := by
    rw [List.append_assoc, List.append_assoc]
    refine List.Perm.append_left A ?_
    rw [← List.append_assoc, ← List.append_assoc]
    exact List.Perm.append_right D List.perm_append_comm
  rw [srt_congr h hp]
  refine srt_join (h.perm hp) fun x hx y hy => ?_
  rcases List.mem_append.1 hx with hx | hx <;> rcases List.mem_append.1 hy with hy | hy
  · exact hL'.2.2 x hx y hy
  · exact hAD x hx y hy
  · exact hCB x hx y hy
  · exact hR'.2.2 x hx y hy
/-! ### blocks -/
/-- The row, each block of k sorted by itself. -/
def chs (k : Nat) (l : List Pt) : List Pt := if h : k = 0 ∨ l = [] then [] else srt (l.take k) ++ chs k (l.drop k)
termination_by l.length
decreasing_by
  have h1 := List.length_pos_iff.2 (fun e => h (.inr e) : l ≠ [])
  rw [List.length_drop]; omega
theorem chs_nil (k : Nat) : chs k [] = [] := by rw [chs, dif_pos (.inr rfl)]
theorem chs_cons {k : Nat} {l : List Pt} (hk : 0 < k) (hl : l ≠ []) : chs k l = srt (l.take k) ++ chs k (l.drop k) := by rw [chs, dif_neg (fun h => h.elim (by omega) hl)]
theorem chs_le {k : Nat} {l : List Pt} (h : l.length ≤ k) : chs k l = srt l := by
  by_cases e : l = []
  · subst e; rw [chs_nil]; rfl
  · have := List.length_pos_iff.2 (by exact e)
    rw [chs_cons (by omega) e, List.take_of_length_le h, List.drop_of_length_le h, chs_nil, List.append_nil]
theorem chs_app {k : Nat} (hk : 0 < k) {B : List Pt} : ∀ (q : Nat) {A : List Pt}, A.length = k * q → chs k (A ++ B) = chs k A ++ chs k B
  | 0, A, h => by
    have : A = [] := List.eq_nil_of_length_eq_zero (by simpa using h)
    subst this; rw [chs_nil]; rfl
  | q + 1, A, h => by
    rw [Nat.mul_add, Nat.mul_one] at h
    have hA : A ≠ [] := fun e => by subst e; simp at h; omega
    rw [chs_cons hk hA, chs_cons hk (by simp [hA]), List.take_append_of_le_length (by omega), List.drop_append_of_le_length (by omega), chs_app hk q (A := A.drop k) (by rw [List.length_drop]; omega), List.append_assoc]
theorem chs_len {k : Nat} (hk : 0 < k) : ∀ (n : Nat) {l : List Pt}, l.length ≤ n → (chs k l).length = l.length
  | 0, l, h => by
    have : l = [] := List.eq_nil_of_length_eq_zero (by omega)
    subst this; rw [chs_nil]
  | n + 1, l, h => by
    by_cases e : l = []
    · subst e; rw [chs_nil]
    · have := List.length_pos_iff.2 (by exact e)
      rw [chs_cons hk e, List.length_append, srt_len, chs_len hk n (l := l.drop k) (by rw [List.length_drop]; omega), List.length_take, List.length_drop]
      omega
theorem chs_length {k : Nat} (hk : 0 < k) (l : List Pt) : (chs k l).length = l.length := chs_len hk l.length (Nat.le_refl _)
/-- One block more. -/
theorem chs_next {k : Nat} (hk : 0 < k) {q : Nat} {l : List Pt} (h : k * q ≤ l.length) : chs k (l.take (k * q + k)) = chs k (l.take (k * q)) ++ srt ((l.drop (k * q)).take k) := by
  rw [List.take_add, chs_app hk q (by rw [List.length_take]; omega)]
  rw [chs_le (k := k) (l := (l.drop (k * q)).take k) (by rw [List.length_take]; omega)]
theorem chs_two {k : Nat} (hk : 0 < k) {X Y Z : List Pt} (hX : X.length = k) (hY : Y.length = k) : chs k (X ++ (Y ++ Z)) = srt X ++ (srt Y ++ chs k Z) := by
  rw [chs_app hk 1 (by omega), chs_app hk 1 (by omega), chs_le (by omega), chs_le (by omega)]
end Go.Proofs.Ytohgcgedbhlnfaa
