/- A stable sort of parts, walked: the comparison, swaps, rotations. -/
import Derived.Test.YtohgcgedbhlnfaaNb
import Derived.Test.YtohgcgedbhlnfaaFs
import Derived.Test.YtohgcgedbhlnfaaSl
namespace Go.Proofs.Ytohgcgedbhlnfaa
open Go FM Go.Proofs
set_option maxRecDepth 10000
set_option maxHeartbeats 3200000
set_option linter.all false
abbrev ptA (x : Pt) : AV := .agg [.int x.1, .int x.2.1, .int x.2.2]
abbrev ptO (l : List Pt) : AV := .sl true 3 (l.map ptA)
def cfE (p b q c : Int) : Int := q * b - p * c
theorem cfP_lt {x y : Pt} : cfE x.2.1 x.2.2 y.2.1 y.2.2 < 0 ↔ kb x y := by unfold cfE kb; omega
noncomputable abbrev fnP : AV := .fn (BehA Sy.P (fun xs9 => ∃ x y, xs9 = [ptA x, ptA y] ∧ Gd x ∧ Gd y) (fun xs9 => match xs9 with | [.agg [.int _, .int p, .int b], .agg [.int _, .int q, .int c]] => .int (cfE p b q c) | _ => .int 0))
theorem prodP {p b : Int} (h1 : 0 ≤ p ∧ p ≤ 1000000000) (h2 : 1 ≤ b ∧ b ≤ 1000) : 0 ≤ p * b ∧ p * b ≤ 1000000000000 := by
  have e1 := Int.mul_nonneg h1.1 (show 0 ≤ b by omega)
  have e2 : p * b ≤ 1000000000 * 1000 := Int.mul_le_mul h1.2 h2.2 (by omega) (by omega)
  omega
theorem cmpP_spec (x y : Pt) (hx : Gd x) (hy : Gd y) : FnSpec Sy.P 63 [ptA x, ptA y] [ptA x, ptA y] (.int (cfE x.2.1 x.2.2 y.2.1 y.2.2)) := by
  have m1 := prodP hy.1 hx.2
  have m2 := prodP hx.1 hy.2
  unfold cfE
  refine FnSpec.enter (S := Sy) 0 Try.func63 rfl rfl rfl Try.ntmps63 rfl rfl rfl rfl fun v0 => ?_
  (repeat' (first | refine w9x ?_ | (refine w9c ?_ ?_ <;> intro _ <;> try exact w9o) | (refine w9d ?_ ?_ <;> intro _ <;> try exact w9s) | (refine w9q ?_; intro bnil hbnil)))
  exact .mk rfl rfl rfl
theorem cmpP_arg {M : Nat → Bool} {v : Nat → Value} {N : Nat} {σ : St} : ArgOk (Sy.fixedF M v) N σ (.func 63) true fnP :=
  ArgOk.func rfl ⟨_, Try.func63, rfl, rfl⟩ (fun xs9 ⟨x, y, h, hx, hy⟩ => by subst h; exact cmpP_spec x y hx hy) (fun xs9 ⟨x, y, h, _, _⟩ => by subst h; rfl)
/-! ### swaps -/
def dsw (L X M Y R : List Pt) (k : Nat) : List Pt := L ++ ((Y.take k ++ X.drop k) ++ (M ++ ((X.take k ++ Y.drop k) ++ R)))
theorem dsw_zero (L X M Y R : List Pt) : dsw L X M Y R 0 = L ++ (X ++ (M ++ (Y ++ R))) := by simp [dsw]
theorem dsw_end {L X M Y R : List Pt} (h : X.length = Y.length) : dsw L X M Y R X.length = L ++ (Y ++ (M ++ (X ++ R))) := by
  unfold dsw
  rw [List.take_length, List.drop_length, h, List.take_length, List.drop_length, List.append_nil, List.append_nil]
theorem sw_one {X Y : List Pt} (h : X.length = Y.length) {k : Nat} (hk : k < Y.length) : (Y.take k ++ X.drop k).set k Y[k] = Y.take (k + 1) ++ X.drop (k + 1) := by
  have h1 : (Y.take k).length = k := by rw [List.length_take]; omega
  rw [List.set_append_right _ _ (by omega), h1, Nat.sub_self, List.drop_eq_getElem_cons (by omega), List.set_cons_zero, ← List.take_append_getElem hk, List.append_assoc]; rfl
theorem sw_at {X Y : List Pt} (h : X.length = Y.length) {k : Nat} (hk : k < X.length) : (Y.take k ++ X.drop k)[k]? = some X[k] := by
  have h1 : (Y.take k).length = k := by rw [List.length_take]; omega
  rw [List.getElem?_append_right (by omega), h1, Nat.sub_self, List.drop_eq_getElem_cons hk]; rfl
theorem sw_len {X Y : List Pt} (h : X.length = Y.length) (k : Nat) : (Y.take k ++ X.drop k).length = X.length := by rw [List.length_append, List.length_take, List.length_drop]; omega
theorem dsw_step {L X M Y R : List Pt} (h : X.length = Y.length) {k : Nat} (hk : k < X.length) :
    (dsw L X M Y R k)[L.length + k]? = some X[k] ∧ (dsw L X M Y R k)[L.length + X.length + M.length + k]? = some Y[k] ∧
    ((dsw L X M Y R k).set (L.length + k) Y[k]).set (L.length + X.length + M.length + k) X[k] = dsw L X M Y R (k + 1) ∧ (dsw L X M Y R k).length = L.length + X.length + M.length + Y.length + R.length := by
  have h1 := sw_len h k
  have h2 := sw_len h.symm k
  have hk' : k < Y.length := by omega
  have p1 := sw_at h hk
  have p2 := sw_at h.symm hk'
  have q1 := sw_one h hk'
  have q2 := sw_one h.symm hk
  unfold dsw
  generalize Y.take k ++ X.drop k = A at *
  generalize X.take k ++ Y.drop k = B at *
  rw [← q1, ← q2]
  refine ⟨?_, ?_, ?_, ?_⟩
  · rw [List.getElem?_append_right (by omega), List.getElem?_append_left (by omega), Nat.add_sub_cancel_left]; exact p1
  · rw [List.getElem?_append_right (by omega), List.getElem?_append_right (by omega), List.getElem?_append_right (by omega), List.getElem?_append_left (by omega), show L.length + X.length + M.length + k - L.length - A.length - M.length = k by omega]; exact p2
  · have s1 : (L ++ (A ++ (M ++ (B ++ R)))).set (L.length + k) Y[k] = L ++ (A.set k Y[k] ++ (M ++ (B ++ R))) := by rw [List.set_append_right _ _ (by omega), Nat.add_sub_cancel_left, List.set_append_left _ _ (by omega)]
    have h3 : (A.set k Y[k]).length = X.length := by rw [List.length_set]; exact h1
    rw [s1]
    generalize A.set k Y[k] = A' at *
    rw [List.set_append_right _ _ (by omega), List.set_append_right _ _ (by omega), List.set_append_right _ _ (by omega), List.set_append_left _ _ (by omega), show L.length + X.length + M.length + k - L.length - A'.length - M.length = k by omega]
  · simp only [List.length_append]; omega
theorem swapR_spec (L X M Y R : List Pt) (h : X.length = Y.length) (hn : L.length + X.length + M.length + Y.length + R.length ≤ 1000000) : FnSpec Sy.P 149 [ptO (L ++ (X ++ (M ++ (Y ++ R)))), .int L.length, .int ((L.length + X.length + M.length : Nat) : Int), .int X.length, fnP] [ptO (L ++ (Y ++ (M ++ (X ++ R)))), .int L.length, .int ((L.length + X.length + M.length : Nat) : Int), .int X.length, fnP] (.tup []) := by
  have e0 := dsw_zero L X M Y R
  have e1 := dsw_end (L := L) (M := M) (R := R) h
  have hst := fun k (hk : k < X.length) => dsw_step (L := L) (M := M) (R := R) h hk
  rw [← e0, ← e1]
  generalize hb : L.length + X.length + M.length = b at *
  refine FnSpec.enter (S := Sy) 1 Try.func149 rfl rfl rfl Try.ntmps149 rfl rfl rfl rfl fun v0 => ?_
  (repeat' (first | refine w9x ?_ | (refine w9c ?_ ?_ <;> intro _ <;> try exact w9o) | (refine w9d ?_ ?_ <;> intro _ <;> try exact w9s) | (refine w9q ?_; intro bnil hbnil)))
  refine CW.loop (fun k : Nat => [(0, .av (ptO (dsw L X M Y R k))), (1, .av (.int (L.length))), (2, .av (.int (b))), (3, .av (.int (X.length))), (4, .av fnP), (10, .av (.int (k)))]) (fun k => k ≤ X.length) (fun k => X.length - k) (0) ?_ (by exact w9a) ?_
  · exact Nat.zero_le _
  intro k hk
  by_cases hlt : k < X.length
  · obtain ⟨p1, p2, p3, p4⟩ := hst k hlt
    generalize dsw L X M Y R k = D at *
    generalize hD' : dsw L X M Y R (k + 1) = D' at *
    generalize X[k] = x at *
    have hky : k < Y.length := by omega
    generalize Y[k] = y at *
    have g1 : D[((L.length : Int) + k).toNat]? = some x := by rw [show ((L.length : Int) + k).toNat = L.length + k by omega]; exact p1
    have g2 : D[((b : Int) + k).toNat]? = some y := by rw [show ((b : Int) + k).toNat = b + k by omega]; exact p2
    have g3 : (D.set ((L.length : Int) + k).toNat y)[((b : Int) + k).toNat]? = some y := by rw [List.getElem?_set_ne (by omega)]; exact g2
    have hs : (D.set ((L.length : Int) + k).toNat y).set ((b : Int) + k).toNat x = D' := by rw [show ((L.length : Int) + k).toNat = L.length + k by omega, show ((b : Int) + k).toNat = b + k by omega]; exact p3
    (repeat' (first | refine w9z ?_ | (refine w9c ?_ ?_ <;> intro _ <;> try exact w9o) | (refine w9d ?_ ?_ <;> intro _ <;> try exact w9s) | (refine w9q ?_; intro bnil hbnil)))
    refine CW.cutB [(0, .av (ptO D')), (1, .av (.int (L.length))), (2, .av (.int (b))), (3, .av (.int (X.length))), (4, .av fnP), (10, .av (.int (k)))] ?_ ?_
    · refine CW.reg0 24 rfl [false, false, false, false, false, false, false, false, false, false, false, false, false, false, false, false, false, false, false, false, false, false, false, false] (by kernel_rfl) rfl ?_
      apply JA.take (i := 0); rfl; (first | exact .inl rfl | exact .inr rfl); rfl; kernel_rfl; exact FM.st
      apply JA.take (i := 1); rfl; (first | exact .inl rfl | exact .inr rfl); rfl; kernel_rfl; exact FM.st
      apply JA.take (i := 2); rfl; (first | exact .inl rfl | exact .inr rfl); rfl; kernel_rfl; exact FM.st
      apply JA.take (i := 4); rfl; (first | exact .inl rfl | exact .inr rfl); rfl; kernel_rfl; exact FM.st
      apply JA.take (i := 5); rfl; (first | exact .inl rfl | exact .inr rfl); rfl; kernel_rfl; exact FM.st
      apply JA.take (i := 6); rfl; (first | exact .inl rfl | exact .inr rfl); rfl; kernel_rfl; exact FM.st
      apply JA.take (i := 8); rfl; (first | exact .inl rfl | exact .inr rfl); rfl; kernel_rfl; exact FM.st
      apply JA.take (i := 9); rfl; (first | exact .inl rfl | exact .inr rfl); rfl; kernel_rfl; exact FM.st
      apply JA.take (i := 10); rfl; (first | exact .inl rfl | exact .inr rfl); rfl; kernel_rfl; exact FM.st
      apply JA.take (i := 14); rfl; (first | exact .inl rfl | exact .inr rfl); rfl; kernel_rfl; exact FM.st
      apply JA.take (i := 15); rfl; (first | exact .inl rfl | exact .inr rfl); rfl; kernel_rfl; exact FM.st
      apply JA.take (i := 16); rfl; (first | exact .inl rfl | exact .inr rfl); rfl; kernel_rfl; exact FM.st
      apply JA.takeW (i := 3); rfl; rfl; kernel_rfl; (first | ((with_reducible apply w_add) <;> exact w9l) | ((with_reducible apply w_sub) <;> exact w9l) | ((with_reducible apply w_ixaO) <;> exact w9l))
      apply JA.takeW (i := 7); rfl; rfl; kernel_rfl; (first | ((with_reducible apply w_add) <;> exact w9l) | ((with_reducible apply w_sub) <;> exact w9l) | ((with_reducible apply w_ixaO) <;> exact w9l))
      apply JA.takeW (i := 11); rfl; rfl; kernel_rfl; (first | ((with_reducible apply w_add) <;> exact w9l) | ((with_reducible apply w_sub) <;> exact w9l) | ((with_reducible apply w_ixaO) <;> exact w9l))
      apply JA.takeW (i := 12); rfl; rfl; kernel_rfl; (first | ((with_reducible apply w_add) <;> exact w9l) | ((with_reducible apply w_sub) <;> exact w9l) | ((with_reducible apply w_ixaO) <;> exact w9l))
      apply JA.takeW (i := 17); rfl; rfl; kernel_rfl; (first | ((with_reducible apply w_add) <;> exact w9l) | ((with_reducible apply w_sub) <;> exact w9l) | ((with_reducible apply w_ixaO) <;> exact w9l))
      apply JA.takeW (i := 18); rfl; rfl; kernel_rfl; (first | ((with_reducible apply w_add) <;> exact w9l) | ((with_reducible apply w_sub) <;> exact w9l) | ((with_reducible apply w_ixaO) <;> exact w9l))
      apply JA.two (i := 13) (j := 19); kernel_rfl; rfl; rfl
      · (repeat' (first | refine w9j ?_ | fail))
        apply JA.one (i := 19); kernel_rfl; rfl
        (repeat' (first | refine w9j ?_ | fail))
        apply JA.one (i := 20); kernel_rfl; rfl
        (repeat' (first | refine w9j ?_ | fail))
        apply JA.one (i := 21); kernel_rfl; rfl
        (repeat' (first | refine w9j ?_ | fail))
        apply JA.one (i := 22); kernel_rfl; rfl
        (repeat' (first | refine w9j ?_ | fail))
        apply JA.one (i := 23); kernel_rfl; rfl
        (repeat' (first | refine w9j ?_ | fail))
        refine JA.done (by kernel_rfl) ?_
        exact ⟨rfl, by exact w9a⟩
      · (repeat' (first | refine w9j ?_ | fail))
        apply JA.one (i := 13); kernel_rfl; rfl
        (repeat' (first | refine w9j ?_ | fail))
        apply JA.one (i := 20); kernel_rfl; rfl
        (repeat' (first | refine w9j ?_ | fail))
        apply JA.one (i := 21); kernel_rfl; rfl
        (repeat' (first | refine w9j ?_ | fail))
        apply JA.one (i := 22); kernel_rfl; rfl
        (repeat' (first | refine w9j ?_ | fail))
        apply JA.one (i := 23); kernel_rfl; rfl
        (repeat' (first | refine w9j ?_ | fail))
        refine JA.done (by kernel_rfl) ?_
        exact ⟨rfl, by exact w9a⟩
    (repeat' (first | refine w9x ?_ | (refine w9c ?_ ?_ <;> intro _ <;> try exact w9o) | (refine w9d ?_ ?_ <;> intro _ <;> try exact w9s) | (refine w9q ?_; intro bnil hbnil)))
    refine ⟨k+1, ?_, by first | omega | (simp only; omega), by exact w9a⟩
    omega
  · obtain rfl : k = X.length := by omega
    (repeat' (first | refine w9x ?_ | (refine w9c ?_ ?_ <;> intro _ <;> try exact w9o) | (refine w9d ?_ ?_ <;> intro _ <;> try exact w9s) | (refine w9q ?_; intro bnil hbnil)))
    exact ⟨rfl, ⟨_, rfl, .refl _⟩, rfl, args_start (args_mu rfl rfl (args_pl rfl (args_pl rfl (args_pl rfl (args_pl rfl args_nil)))))⟩
/-! ### rotations -/
structure Rt where
  L : List Pt
  X : List Pt
  Y : List Pt
  R : List Pt
structure RtOk (z : Rt) (m n : Nat) (T : List Pt) : Prop where
  m : z.L.length + z.X.length = m
  n : z.L.length + z.X.length + z.Y.length + z.R.length = n
  x : 0 < z.X.length
  y : 0 < z.Y.length
  t : z.L ++ (z.Y ++ (z.X ++ z.R)) = T
theorem rot_spec (L X Y R : List Pt) (hx : 0 < X.length) (hy : 0 < Y.length) (hn : L.length + X.length + Y.length + R.length ≤ 1000000) : FnSpec Sy.P 138 [ptO (L ++ (X ++ (Y ++ R))), .int L.length, .int ((L.length + X.length : Nat) : Int), .int ((L.length + X.length + Y.length : Nat) : Int), fnP] [ptO (L ++ (Y ++ (X ++ R))), .int L.length, .int ((L.length + X.length : Nat) : Int), .int ((L.length + X.length + Y.length : Nat) : Int), fnP] (.tup []) := by
  generalize hT : L ++ (Y ++ (X ++ R)) = T
  generalize hm : L.length + X.length = m at *
  refine FnSpec.enter (S := Sy) 1 Try.func138 rfl rfl rfl Try.ntmps138 rfl rfl rfl rfl fun v0 => ?_
  (repeat' (first | refine w9x ?_ | (refine w9c ?_ ?_ <;> intro _ <;> try exact w9o) | (refine w9d ?_ ?_ <;> intro _ <;> try exact w9s) | (refine w9q ?_; intro bnil hbnil)))
  refine CW.loop (fun z : Rt => [(0, .av (ptO (z.L ++ (z.X ++ (z.Y ++ z.R))))), (2, .av (.int (m))), (4, .av fnP), (10, .av (.int (z.X.length))), (11, .av (.int (z.Y.length)))]) (fun z => RtOk z m (L.length + X.length + Y.length + R.length) T) (fun z => z.X.length + z.Y.length) (⟨L, X, Y, R⟩) ?_ (by exact w9a) ?_
  · exact ⟨hm, rfl, hx, hy, hT⟩
  rintro ⟨L1, X1, Y1, R1⟩ ⟨h1, h2, h3, h4, h5⟩
  dsimp only at h1 h2 h3 h4 h5 ⊢
  rcases Nat.lt_trichotomy X1.length Y1.length with hc | hc | hc
  · obtain ⟨A, B, hAB, hB⟩ : ∃ A B, Y1 = A ++ B ∧ B.length = X1.length := ⟨Y1.take (Y1.length - X1.length), Y1.drop (Y1.length - X1.length), (List.take_append_drop ..).symm, by rw [List.length_drop]; omega⟩
    subst hAB
    rw [List.length_append] at *
    have hs := swapR_spec L1 X1 A B R1 hB.symm (by omega)
    have i1 : (m : Int) - (X1.length : Int) = (L1.length : Int) := by omega
    have i2 : (m : Int) + ((A.length + B.length : Nat) : Int) - (X1.length : Int) = ((L1.length + X1.length + A.length : Nat) : Int) := by omega
    rw [← i1, ← i2, ← List.append_assoc A B R1] at hs
    (repeat' (first | refine w9x ?_ | ((with_reducible apply J.callM1 (hs)); rfl; rfl; rfl; rfl; rfl; (repeat' (first | exact ArgsM.nil | apply ArgsM.cons | exact ArgM.pl rfl rfl | exact ArgM.br rfl rfl rfl (by first | rfl | exact sh_int | exact sh_rows | exact sh_rowsO | exact sh_box | exact sh_map (fun _ => rfl)))); exact NoShI.out; exact NoShI.out) | (refine w9c ?_ ?_ <;> intro _ <;> try exact w9o) | (refine w9d ?_ ?_ <;> intro _ <;> try exact w9s) | (refine w9q ?_; intro bnil hbnil)))
    all_goals first | (exfalso; omega) | skip
    refine ⟨⟨L1, B, A, X1 ++ R1⟩, ?_, by first | omega | (simp only; omega), by (repeat' (first | exact trivial | rfl | refine And.intro ?_ ?_ | exact int_congr (by omega) | exact int_congr (by dsimp only; omega) | exact ints_congr (by first | assumption | exact Eq.symm (by assumption)) | exact int_congr (by assumption) | exact bool_congr (by first | assumption | exact Eq.symm (by assumption)) | exact map_congr' (by first | assumption | exact Eq.symm (by assumption)) | exact map_congr' (by simp only [List.append_assoc])))⟩
    exact ⟨by dsimp only; omega, by dsimp only; rw [List.length_append]; omega, by dsimp only; omega, by dsimp only; omega, by dsimp only; rw [← h5]; simp only [List.append_assoc]⟩
  · have hs := swapR_spec L1 X1 [] Y1 R1 hc (by simp; omega)
    have i1 : (m : Int) - (X1.length : Int) = (L1.length : Int) := by omega
    have i2 : (m : Int) = ((L1.length + X1.length + ([] : List Pt).length : Nat) : Int) := by simp; omega
    rw [← i1, ← i2, List.nil_append, List.nil_append, h5] at hs
    (repeat' (first | refine w9x ?_ | ((with_reducible apply J.callM1 (hs)); rfl; rfl; rfl; rfl; rfl; (repeat' (first | exact ArgsM.nil | apply ArgsM.cons | exact ArgM.pl rfl rfl | exact ArgM.br rfl rfl rfl (by first | rfl | exact sh_int | exact sh_rows | exact sh_rowsO | exact sh_box | exact sh_map (fun _ => rfl)))); exact NoShI.out; exact NoShI.out) | (refine w9c ?_ ?_ <;> intro _ <;> try exact w9o) | (refine w9d ?_ ?_ <;> intro _ <;> try exact w9s) | (refine w9q ?_; intro bnil hbnil)))
    all_goals first | (exfalso; omega) | exact ⟨rfl, ⟨_, rfl, .refl _⟩, rfl, args_start (args_mu rfl rfl (args_pl rfl (args_pl rfl (args_pl rfl (args_pl rfl args_nil)))))⟩
  · obtain ⟨A, B, hAB, hA⟩ : ∃ A B, X1 = A ++ B ∧ A.length = Y1.length := ⟨X1.take Y1.length, X1.drop Y1.length, (List.take_append_drop ..).symm, by rw [List.length_take]; omega⟩
    subst hAB
    rw [List.length_append] at *
    have hs := swapR_spec L1 A B Y1 R1 hA (by omega)
    have i1 : (m : Int) - ((A.length + B.length : Nat) : Int) = (L1.length : Int) := by omega
    have i2 : (m : Int) = ((L1.length + A.length + B.length : Nat) : Int) := by omega
    have i3 : (A.length : Int) = (Y1.length : Int) := by omega
    rw [i3, ← i1, ← i2, ← List.append_assoc A B] at hs
    (repeat' (first | refine w9x ?_ | ((with_reducible apply J.callM1 (hs)); rfl; rfl; rfl; rfl; rfl; (repeat' (first | exact ArgsM.nil | apply ArgsM.cons | exact ArgM.pl rfl rfl | exact ArgM.br rfl rfl rfl (by first | rfl | exact sh_int | exact sh_rows | exact sh_rowsO | exact sh_box | exact sh_map (fun _ => rfl)))); exact NoShI.out; exact NoShI.out) | (refine w9c ?_ ?_ <;> intro _ <;> try exact w9o) | (refine w9d ?_ ?_ <;> intro _ <;> try exact w9s) | (refine w9q ?_; intro bnil hbnil)))
    all_goals first | (exfalso; omega) | skip
    refine ⟨⟨L1 ++ Y1, B, A, R1⟩, ?_, by first | omega | (simp only; omega), by (repeat' (first | exact trivial | rfl | refine And.intro ?_ ?_ | exact int_congr (by omega) | exact int_congr (by dsimp only; omega) | exact ints_congr (by first | assumption | exact Eq.symm (by assumption)) | exact int_congr (by assumption) | exact bool_congr (by first | assumption | exact Eq.symm (by assumption)) | exact map_congr' (by first | assumption | exact Eq.symm (by assumption)) | exact map_congr' (by simp only [List.append_assoc])))⟩
    exact ⟨by dsimp only; rw [List.length_append]; omega, by dsimp only; rw [List.length_append]; omega, by dsimp only; omega, by dsimp only; omega, by dsimp only; rw [← h5]; simp only [List.append_assoc]⟩
end Go.Proofs.Ytohgcgedbhlnfaa
