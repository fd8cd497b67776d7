/- A stable sort of parts, walked: merging, whole. -/
import Derived.Test.YtohgcgedbhlnfaaNe
namespace Go.Proofs.Ytohgcgedbhlnfaa
open Go FM Go.Proofs
set_option maxRecDepth 10000
set_option maxHeartbeats 6400000
set_option linter.all false
/-- What the search between the two rows knows. -/
structure SymI (X Y : List Pt) (h s0 r0 s r : Nat) : Prop where
  a : s0 ≤ s
  b : s ≤ r
  c : r ≤ r0
  lo : ∀ (_ : s0 < s) (h1 : s - 1 < X.length) (h2 : h - s < Y.length), tl X[s - 1] Y[h - s]
  hi : ∀ (_ : r < r0) (h1 : r < X.length) (h2 : h - 1 - r < Y.length), tl Y[h - 1 - r] X[r]
theorem sym_end {X Y : List Pt} {h s0 r0 s : Nat} (hI : SymI X Y h s0 r0 s s) (hok : OkP (X ++ Y)) (hX : X.Pairwise tl) (hY : Y.Pairwise tl) (hs : s ≤ X.length) (hh : s ≤ h) (hhy : h - s ≤ Y.length)
    (e1 : s = s0 → s = 0 ∨ h - s = Y.length) (e2 : s = r0 → h - s = 0 ∨ s = X.length) : srt (X ++ Y) = srt (X.take s ++ Y.take (h - s)) ++ srt (X.drop s ++ Y.drop (h - s)) := by
  have hXe : X = X.take s ++ X.drop s := (List.take_append_drop ..).symm
  have hYe : Y = Y.take (h - s) ++ Y.drop (h - s) := (List.take_append_drop ..).symm
  have := srt_cross (A := X.take s) (B := X.drop s) (C := Y.take (h - s)) (D := Y.drop (h - s)) (by rw [List.take_append_drop, List.take_append_drop]; exact hok) (by rw [List.take_append_drop]; exact hX) (by rw [List.take_append_drop]; exact hY) (fun h1 h2 => ?_) (fun h1 h2 => ?_)
  · rw [List.take_append_drop, List.take_append_drop] at this; exact this
  · have l1 := List.length_pos_iff.2 h1
    have l2 := List.length_pos_iff.2 h2
    rw [List.length_take] at l1
    rw [List.length_drop] at l2
    have hlt : s0 < s := by
      rcases Nat.lt_or_eq_of_le hI.a with h | h
      · exact h
      · rcases e1 h.symm with h | h <;> omega
    have := hI.lo hlt (by omega) (by omega)
    rw [List.getLast_eq_getElem, List.head_eq_getElem, List.getElem_take, List.getElem_drop]
    have el : (X.take s).length - 1 = s - 1 := by rw [List.length_take]; omega
    simp only [el, Nat.add_zero]
    exact this
  · have l1 := List.length_pos_iff.2 h1
    have l2 := List.length_pos_iff.2 h2
    rw [List.length_take] at l1
    rw [List.length_drop] at l2
    have hlt : s < r0 := by
      rcases Nat.lt_or_eq_of_le hI.c with h | h
      · exact h
      · rcases e2 h with h | h <;> omega
    have := hI.hi hlt (by omega) (by omega)
    rw [List.getLast_eq_getElem, List.head_eq_getElem, List.getElem_take, List.getElem_drop]
    have el : (Y.take (h - s)).length - 1 = h - 1 - s := by rw [List.length_take]; omega
    simp only [el, Nat.add_zero]
    exact this
abbrev symF (P X Y R : List Pt) : Prop := FnSpec Sy.P 116 [ptO (P ++ (X ++ (Y ++ R))), .int P.length, .int ((P.length + X.length : Nat) : Int), .int ((P.length + X.length + Y.length : Nat) : Int), fnP] [ptO (P ++ (srt (X ++ Y) ++ R)), .int P.length, .int ((P.length + X.length : Nat) : Int), .int ((P.length + X.length + Y.length : Nat) : Int), fnP] (.tup [])
/-- The same, its numbers under other names. -/
theorem symF_at {P X Y R D D' : List Pt} {a m b : Int} (h : symF P X Y R) (e1 : P ++ (X ++ (Y ++ R)) = D) (e2 : P ++ (srt (X ++ Y) ++ R) = D') (ea : (P.length : Int) = a) (em : ((P.length + X.length : Nat) : Int) = m) (eb : ((P.length + X.length + Y.length : Nat) : Int) = b) :
    FnSpec Sy.P 116 [ptO D, .int a, .int m, .int b, fnP] [ptO D', .int a, .int m, .int b, fnP] (.tup []) := by
  subst e1; subst e2; subst ea; subst em; subst eb; exact h
theorem rot_at {P X Y R D D' : List Pt} {a m b : Int} (hx : 0 < X.length) (hy : 0 < Y.length) (hn : P.length + X.length + Y.length + R.length ≤ 1000000) (e1 : P ++ (X ++ (Y ++ R)) = D) (e2 : P ++ (Y ++ (X ++ R)) = D') (ea : (P.length : Int) = a) (em : ((P.length + X.length : Nat) : Int) = m) (eb : ((P.length + X.length + Y.length : Nat) : Int) = b) :
    FnSpec Sy.P 138 [ptO D, .int a, .int m, .int b, fnP] [ptO D', .int a, .int m, .int b, fnP] (.tup []) := by
  subst e1; subst e2; subst ea; subst em; subst eb; exact rot_spec P X Y R hx hy hn
/-- The merge, both rows of more than one. -/
theorem sym_step (P X Y R : List Pt) (hx : 1 < X.length) (hy : 1 < Y.length) (hok : OkP (X ++ Y)) (hX : X.Pairwise tl) (hY : Y.Pairwise tl) (hlx : ∀ x ∈ X, ∀ y ∈ Y, lx x y) (hn : P.length + X.length + Y.length + R.length ≤ 1000000)
    (ih : ∀ P' X' Y' R' : List Pt, X'.length + Y'.length < X.length + Y.length → 0 < X'.length → 0 < Y'.length → OkP (X' ++ Y') → X'.Pairwise tl → Y'.Pairwise tl → (∀ x ∈ X', ∀ y ∈ Y', lx x y) → P'.length + X'.length + Y'.length + R'.length ≤ 1000000 → symF P' X' Y' R') : symF P X Y R := by
  have gX : ∀ x ∈ X, Gd x := fun x h => hok.g x (by simp [h])
  have gY : ∀ y ∈ Y, Gd y := fun y h => hok.g y (by simp [h])
  obtain ⟨hf, hhf⟩ : ∃ hf, hf = (X.length + Y.length) / 2 := ⟨_, rfl⟩
  obtain ⟨s0, r0, hsr⟩ : ∃ s0 r0 : Nat, (hf < X.length ∧ s0 = hf - Y.length ∧ r0 = hf) ∨ (X.length ≤ hf ∧ s0 = 0 ∧ r0 = X.length) := by
    by_cases c : hf < X.length
    · exact ⟨_, _, .inl ⟨c, rfl, rfl⟩⟩
    · exact ⟨_, _, .inr ⟨by omega, rfl, rfl⟩⟩
  have b1 : s0 ≤ r0 := by omega
  have b2 : r0 ≤ X.length := by omega
  have b3 : r0 ≤ hf := by omega
  have b4 : hf - s0 ≤ Y.length := by omega
  have D0x : ∀ (n : Int) (i : Nat) (hi : i < X.length), n = (P.length : Int) + (i : Nat) → (P ++ (X ++ (Y ++ R)))[n.toNat]? = some X[i] := fun n i hi hn => seg_get hn hi
  have D0y : ∀ (n : Int) (i : Nat) (hi : i < Y.length), n = ((P.length + X.length : Nat) : Int) + (i : Nat) → (P ++ (X ++ (Y ++ R)))[n.toNat]? = some Y[i] := fun n i hi hn => by
    have := seg_get (P := P ++ X) (A := Y) (R := R) (n := n) (i := i) (by rw [List.length_append]; omega) hi
    rw [List.append_assoc] at this; exact this
  have hDl : (P ++ (X ++ (Y ++ R))).length = P.length + X.length + Y.length + R.length := by simp only [List.length_append]; omega
  unfold symF
  generalize hD0 : P ++ (X ++ (Y ++ R)) = D0 at *
  generalize hD3 : P ++ (srt (X ++ Y) ++ R) = D3 at *
  obtain ⟨m, hm⟩ : ∃ m, m = P.length + X.length := ⟨_, rfl⟩
  obtain ⟨b, hb⟩ : ∃ b, b = P.length + X.length + Y.length := ⟨_, rfl⟩
  obtain ⟨mid, hmid⟩ : ∃ mid, mid = P.length + hf := ⟨_, rfl⟩
  rw [← hb, ← hm]
  rw [← hm] at D0y
  refine FnSpec.enter (S := Sy) 1 Try.func116 rfl rfl rfl Try.ntmps116 rfl rfl rfl rfl fun v0 => ?_
  (repeat' (first | (refine CW.cut (c := .cond (.tmp 140) _ _) [(0, .av (ptO D0)), (1, .av (.int (P.length))), (2, .av (.int (m))), (3, .av (.int (b))), (4, .av fnP), (18, .av (.int (mid))), (19, .av (.int (((mid + m : Nat) : Int)))), (20, .av (.int ((P.length : Int) + (s0 : Nat)))), (21, .av (.int ((P.length : Int) + (r0 : Nat))))] ?_ ?_) | ((refine ⟨by first | rfl | trivial, ?_⟩); (repeat' (first | exact trivial | rfl | refine And.intro ?_ ?_ | exact int_congr (by omega))); done) | ((with_reducible apply J.step); rfl; ((with_reducible apply s_cvIu) <;> (first | rfl | omega))) | ((with_reducible apply J.step); rfl; ((with_reducible apply s_cvuI) <;> (first | rfl | omega))) | ((with_reducible apply J.step); rfl; ((with_reducible apply s_shru1) <;> rfl)) | refine w9x ?_ | (refine w9c ?_ ?_ <;> intro _ <;> try exact w9o) | (refine w9d ?_ ?_ <;> intro _ <;> try exact w9s) | (refine w9q ?_; intro bnil hbnil)))
  all_goals first | (exfalso; omega) | skip
  refine CW.loop (fun z : Nat × Nat => [(0, .av (ptO D0)), (1, .av (.int (P.length))), (2, .av (.int (m))), (3, .av (.int (b))), (4, .av fnP), (18, .av (.int (mid))), (19, .av (.int (((mid + m : Nat) : Int)))), (20, .av (.int ((P.length : Int) + (z.1 : Nat)))), (21, .av (.int ((P.length : Int) + (z.2 : Nat)))), (22, .av (.int (((mid + m : Nat) : Int) - 1)))]) (fun z => SymI X Y hf s0 r0 z.1 z.2) (fun z => z.2 - z.1) ((s0, r0)) ?_ (by exact w9a) ?_
  · exact ⟨Nat.le_refl _, b1, Nat.le_refl _, fun h => absurd h (Nat.lt_irrefl _), fun h => absurd h (Nat.lt_irrefl _)⟩
  rintro ⟨s, r⟩ hI
  have i1 := hI.a
  have i2 := hI.b
  have i3 := hI.c
  dsimp only at i1 i2 i3 ⊢
  by_cases hsr2 : s < r
  · have hwx : (s + r) / 2 < X.length := by omega
    have hwy : hf - 1 - (s + r) / 2 < Y.length := by omega
    have q2 := D0x (((P.length : Int) + (s : Nat) + ((P.length : Int) + (r : Nat))) / 2) ((s + r) / 2) hwx (by omega)
    have q1 := D0y (((mid + m : Nat) : Int) - 1 - ((P.length : Int) + (s : Nat) + ((P.length : Int) + (r : Nat))) / 2) (hf - 1 - (s + r) / 2) hwy (by omega)
    have hgx := gX _ (List.getElem_mem hwx)
    have hgy := gY _ (List.getElem_mem hwy)
    have hlxy := hlx _ (List.getElem_mem hwx) _ (List.getElem_mem hwy)
    have hkt := kb_tl hlxy
    by_cases c : kb Y[hf - 1 - (s + r) / 2] X[(s + r) / 2]
    · have c' := cfP_lt.2 c
      have hI' : SymI X Y hf s0 r0 s ((s + r) / 2) := ⟨hI.a, by omega, by omega, hI.lo, fun _ h1 h2 => hkt.1 c⟩
      generalize Y[hf - 1 - (s + r) / 2] = y at *
      generalize X[(s + r) / 2] = x at *
      (repeat' (first | ((with_reducible apply J.step); rfl; ((with_reducible apply s_cvIu) <;> (first | rfl | omega))) | ((with_reducible apply J.step); rfl; ((with_reducible apply s_cvuI) <;> (first | rfl | omega))) | ((with_reducible apply J.step); rfl; ((with_reducible apply s_shru1) <;> rfl)) | refine w9x ?_ | (refine J.callF [ptA y, ptA x] rfl rfl rfl ⟨y, x, rfl, hgy, hgx⟩ (by (repeat' (first | exact ArgsOk.nil | apply ArgsOk.cons | exact ArgOk.pl rfl rfl | exact ArgOk.br rfl AV.noConfusion (by first | rfl | exact sh_int | exact sh_rows | exact sh_rowsO | exact sh_box | exact sh_map (fun _ => rfl))))) (by first | assumption | rfl | simp) rfl ?_) | (refine J.callFQ [ptA y, ptA x] rfl rfl rfl ⟨y, x, rfl, hgy, hgx⟩ (by (repeat' (first | exact ArgsOk.nil | apply ArgsOk.cons | exact ArgOk.pl rfl rfl | exact ArgOk.br rfl AV.noConfusion (by first | rfl | exact sh_int | exact sh_rows | exact sh_rowsO | exact sh_box | exact sh_map (fun _ => rfl))))) (by first | assumption | rfl | simp) rfl ?_) | (refine w9c ?_ ?_ <;> intro _ <;> try exact w9o) | (refine w9d ?_ ?_ <;> intro _ <;> try exact w9s) | (refine w9q ?_; intro bnil hbnil)))
      all_goals first | (exfalso; omega) | skip
      refine ⟨(s, (s + r) / 2), ?_, by first | omega | (simp only; omega), by exact w9a⟩
      exact hI'
    · have c' := mt cfP_lt.1 c
      have hne : Y[hf - 1 - (s + r) / 2] ≠ X[(s + r) / 2] := fun e => by rw [e] at hlxy; unfold lx at hlxy; omega
      have hxy : tl X[(s + r) / 2] Y[hf - 1 - (s + r) / 2] := (tl_total hgy hgx hne).resolve_left fun h => c (hkt.2 h)
      have hI' : SymI X Y hf s0 r0 ((s + r) / 2 + 1) r := ⟨by omega, by omega, hI.c, fun _ h1 h2 => by simpa only [Nat.add_sub_cancel, show hf - ((s + r) / 2 + 1) = hf - 1 - (s + r) / 2 by omega] using hxy, hI.hi⟩
      generalize Y[hf - 1 - (s + r) / 2] = y at *
      generalize X[(s + r) / 2] = x at *
      (repeat' (first | ((with_reducible apply J.step); rfl; ((with_reducible apply s_cvIu) <;> (first | rfl | omega))) | ((with_reducible apply J.step); rfl; ((with_reducible apply s_cvuI) <;> (first | rfl | omega))) | ((with_reducible apply J.step); rfl; ((with_reducible apply s_shru1) <;> rfl)) | refine w9x ?_ | (refine J.callF [ptA y, ptA x] rfl rfl rfl ⟨y, x, rfl, hgy, hgx⟩ (by (repeat' (first | exact ArgsOk.nil | apply ArgsOk.cons | exact ArgOk.pl rfl rfl | exact ArgOk.br rfl AV.noConfusion (by first | rfl | exact sh_int | exact sh_rows | exact sh_rowsO | exact sh_box | exact sh_map (fun _ => rfl))))) (by first | assumption | rfl | simp) rfl ?_) | (refine J.callFQ [ptA y, ptA x] rfl rfl rfl ⟨y, x, rfl, hgy, hgx⟩ (by (repeat' (first | exact ArgsOk.nil | apply ArgsOk.cons | exact ArgOk.pl rfl rfl | exact ArgOk.br rfl AV.noConfusion (by first | rfl | exact sh_int | exact sh_rows | exact sh_rowsO | exact sh_box | exact sh_map (fun _ => rfl))))) (by first | assumption | rfl | simp) rfl ?_) | (refine w9c ?_ ?_ <;> intro _ <;> try exact w9o) | (refine w9d ?_ ?_ <;> intro _ <;> try exact w9s) | (refine w9q ?_; intro bnil hbnil)))
      all_goals first | (exfalso; omega) | skip
      refine ⟨((s + r) / 2 + 1, r), ?_, by first | omega | (simp only; omega), by exact w9a⟩
      exact hI'
  · obtain rfl : s = r := by omega
    have hres := sym_end hI hok hX hY (by omega) (by omega) (by omega) (fun e => by omega) (fun e => by omega)
    have hXe : X.take s ++ X.drop s = X := List.take_append_drop ..
    have hYe : Y.take (hf - s) ++ Y.drop (hf - s) = Y := List.take_append_drop ..
    have lA : (X.take s).length = s := by rw [List.length_take]; omega
    have lB : (X.drop s).length = X.length - s := List.length_drop
    have lC : (Y.take (hf - s)).length = hf - s := by rw [List.length_take]; omega
    have lD : (Y.drop (hf - s)).length = Y.length - (hf - s) := List.length_drop
    have mA : ∀ x ∈ X.take s, x ∈ X := fun x h => List.mem_of_mem_take h
    have mB : ∀ x ∈ X.drop s, x ∈ X := fun x h => List.mem_of_mem_drop h
    have mC : ∀ x ∈ Y.take (hf - s), x ∈ Y := fun x h => List.mem_of_mem_take h
    have mD : ∀ x ∈ Y.drop (hf - s), x ∈ Y := fun x h => List.mem_of_mem_drop h
    have pA := hX.sublist (List.take_sublist s X)
    have pB := hX.sublist (List.drop_sublist s X)
    have pC := hY.sublist (List.take_sublist (hf - s) Y)
    have pD := hY.sublist (List.drop_sublist (hf - s) Y)
    have kAC : OkP (X.take s ++ Y.take (hf - s)) := hok.sub ((List.take_sublist ..).append (List.take_sublist ..))
    have kBD : OkP (X.drop s ++ Y.drop (hf - s)) := hok.sub ((List.drop_sublist ..).append (List.drop_sublist ..))
    have lS : (srt (X.take s ++ Y.take (hf - s))).length = hf := by rw [srt_len, List.length_append]; omega
    generalize X.take s = A at *
    generalize X.drop s = B at *
    generalize Y.take (hf - s) = C at *
    generalize Y.drop (hf - s) = E at *
    obtain ⟨D1, hD1⟩ : ∃ D1, D1 = P ++ ((A ++ C) ++ ((B ++ E) ++ R)) := ⟨_, rfl⟩
    obtain ⟨D2, hD2⟩ : ∃ D2, D2 = P ++ (srt (A ++ C) ++ ((B ++ E) ++ R)) := ⟨_, rfl⟩
    have h1 : (s < X.length ∧ 0 < hf - s) → FnSpec Sy.P 138 [ptO D0, .int ((P.length : Int) + (s : Nat)), .int (m : Nat), .int (((mid + m : Nat) : Int) - ((P.length : Int) + (s : Nat))), fnP] [ptO D1, .int ((P.length : Int) + (s : Nat)), .int (m : Nat), .int (((mid + m : Nat) : Int) - ((P.length : Int) + (s : Nat))), fnP] (.tup []) := fun c =>
      rot_at (P := P ++ A) (X := B) (Y := C) (R := E ++ R) (by omega) (by omega) (by simp only [List.length_append]; omega) (by rw [← hD0, ← hXe, ← hYe]; simp only [List.append_assoc]) (by rw [hD1]; simp only [List.append_assoc]) (by rw [List.length_append]; omega) (by rw [List.length_append]; omega) (by rw [List.length_append]; omega)
    have n1 : ¬ (s < X.length ∧ 0 < hf - s) → D0 = D1 := fun c => by
      rw [hD1, ← hD0, ← hXe, ← hYe]
      by_cases c1 : s < X.length
      · have : C = [] := List.eq_nil_of_length_eq_zero (by omega)
        subst this; simp only [List.append_nil, List.nil_append, List.append_assoc]
      · have : B = [] := List.eq_nil_of_length_eq_zero (by omega)
        subst this; simp only [List.append_nil, List.nil_append, List.append_assoc]
    have h2 : (0 < s ∧ s < hf) → FnSpec Sy.P 116 [ptO D1, .int P.length, .int ((P.length : Int) + (s : Nat)), .int (mid : Nat), fnP] [ptO D2, .int P.length, .int ((P.length : Int) + (s : Nat)), .int (mid : Nat), fnP] (.tup []) := fun c =>
      symF_at (ih P A C ((B ++ E) ++ R) (by omega) (by omega) (by omega) kAC pA pC (fun x hx y hy => hlx x (mA x hx) y (mC y hy)) (by simp only [List.length_append]; omega)) (by rw [hD1]; simp only [List.append_assoc]) hD2.symm rfl (by omega) (by omega)
    have n2 : ¬ (0 < s ∧ s < hf) → D1 = D2 := fun c => by
      rw [hD1, hD2]
      by_cases c1 : 0 < s
      · have : C = [] := List.eq_nil_of_length_eq_zero (by omega)
        subst this
        rw [List.append_nil] at kAC ⊢
        rw [srt_self kAC pA]
      · have : A = [] := List.eq_nil_of_length_eq_zero (by omega)
        subst this
        rw [List.nil_append] at kAC ⊢
        rw [srt_self kAC pC]
    have h3 : (s < X.length ∧ hf - s < Y.length) → FnSpec Sy.P 116 [ptO D2, .int (mid : Nat), .int (((mid + m : Nat) : Int) - ((P.length : Int) + (s : Nat))), .int (b : Nat), fnP] [ptO D3, .int (mid : Nat), .int (((mid + m : Nat) : Int) - ((P.length : Int) + (s : Nat))), .int (b : Nat), fnP] (.tup []) := fun c =>
      symF_at (ih (P ++ srt (A ++ C)) B E R (by omega) (by omega) (by omega) kBD pB pD (fun x hx y hy => hlx x (mB x hx) y (mD y hy)) (by rw [List.length_append]; omega)) (by rw [hD2]; simp only [List.append_assoc]) (by rw [← hD3, hres]; simp only [List.append_assoc]) (by rw [List.length_append]; omega) (by rw [List.length_append]; omega) (by rw [List.length_append]; omega)
    have n3 : ¬ (s < X.length ∧ hf - s < Y.length) → D2 = D3 := fun c => by
      have e : srt (B ++ E) = B ++ E := by
        by_cases c1 : s < X.length
        · have : E = [] := List.eq_nil_of_length_eq_zero (by omega)
          subst this
          rw [List.append_nil] at kBD ⊢
          exact srt_self kBD pB
        · have : B = [] := List.eq_nil_of_length_eq_zero (by omega)
          subst this
          rw [List.nil_append] at kBD ⊢
          exact srt_self kBD pD
      rw [hD2, ← hD3, hres, e]
      simp only [List.append_assoc]
    clear hD1 hD2 hD0 hD3 hres D0x D0y ih
    rcases Classical.em (s < X.length ∧ 0 < hf - s) with c1 | c1 <;> rcases Classical.em (0 < s ∧ s < hf) with c2 | c2 <;> rcases Classical.em (s < X.length ∧ hf - s < Y.length) with c3 | c3
    all_goals first | replace h1 := h1 c1 | (have e := n1 c1; subst e)
    all_goals first | replace h2 := h2 c2 | (have e := n2 c2; subst e)
    all_goals first | replace h3 := h3 c3 | (have e := n3 c3; subst e)
    all_goals clear n1 n2 n3
    all_goals
      (repeat' (first | refine w9x ?_ | ((with_reducible apply J.callM1 (h1)); rfl; rfl; rfl; rfl; rfl; (repeat' (first | exact ArgsM.nil | apply ArgsM.cons | exact ArgM.pl rfl rfl | exact ArgM.br rfl rfl rfl (by first | rfl | exact sh_int | exact sh_rows | exact sh_rowsO | exact sh_box | exact sh_map (fun _ => rfl)))); exact NoShI.out; exact NoShI.out) | ((with_reducible apply J.callM1 (h2)); rfl; rfl; rfl; rfl; rfl; (repeat' (first | exact ArgsM.nil | apply ArgsM.cons | exact ArgM.pl rfl rfl | exact ArgM.br rfl rfl rfl (by first | rfl | exact sh_int | exact sh_rows | exact sh_rowsO | exact sh_box | exact sh_map (fun _ => rfl)))); exact NoShI.out; exact NoShI.out) | ((with_reducible apply J.callM1 (h3)); rfl; rfl; rfl; rfl; rfl; (repeat' (first | exact ArgsM.nil | apply ArgsM.cons | exact ArgM.pl rfl rfl | exact ArgM.br rfl rfl rfl (by first | rfl | exact sh_int | exact sh_rows | exact sh_rowsO | exact sh_box | exact sh_map (fun _ => rfl)))); exact NoShI.out; exact NoShI.out) | (refine w9c ?_ ?_ <;> intro _ <;> try exact w9o) | (refine w9d ?_ ?_ <;> intro _ <;> try exact w9s) | (refine w9q ?_; intro bnil hbnil)))
    all_goals first | (exfalso; omega) | exact ⟨rfl, ⟨_, rfl, .refl _⟩, rfl, args_start (args_mu rfl rfl (args_pl rfl (args_pl rfl (args_pl rfl (args_pl rfl args_nil)))))⟩
theorem sym_spec : ∀ (n : Nat) (P X Y R : List Pt), X.length + Y.length ≤ n → 0 < X.length → 0 < Y.length → OkP (X ++ Y) → X.Pairwise tl → Y.Pairwise tl → (∀ x ∈ X, ∀ y ∈ Y, lx x y) → P.length + X.length + Y.length + R.length ≤ 1000000 → symF P X Y R
  | 0, P, X, Y, R, h, hx, hy, _, _, _, _, _ => by omega
  | n + 1, P, X, Y, R, h, hx, hy, hok, hX, hY, hlx, hn => by
    by_cases c1 : X.length = 1
    · obtain ⟨x, rfl⟩ : ∃ x, X = [x] := List.length_eq_one_iff.1 c1
      exact sym_one P x Y R hy hok hY (fun y hy => hlx x (List.mem_singleton.2 rfl) y hy) (by rw [List.length_singleton] at hn; exact hn)
    by_cases c2 : Y.length = 1
    · obtain ⟨y, rfl⟩ : ∃ y, Y = [y] := List.length_eq_one_iff.1 c2
      exact sym_last P X y R (by omega) hok hX (fun x hx => hlx x hx y (List.mem_singleton.2 rfl)) (by rw [List.length_singleton] at hn; exact hn)
    exact sym_step P X Y R (by omega) (by omega) hok hX hY hlx hn fun P' X' Y' R' h' => sym_spec n P' X' Y' R' (by omega)
end Go.Proofs.Ytohgcgedbhlnfaa
