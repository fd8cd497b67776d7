/- A stable sort of parts, walked: whole. -/
import Derived.Test.YtohgcgedbhlnfaaNf
namespace Go.Proofs.Ytohgcgedbhlnfaa
open Go FM Go.Proofs
set_option maxRecDepth 10000
set_option maxHeartbeats 6400000
set_option linter.all false
theorem ins_at {P l R D D' : List Pt} {a b : Int} (hl : OkP l) (hx : l.Pairwise lx) (hn : P.length + l.length + R.length ≤ 1000000) (e1 : P ++ (l ++ R) = D) (e2 : P ++ (srt l ++ R) = D') (ea : (P.length : Int) = a) (eb : ((P.length + l.length : Nat) : Int) = b) :
    FnSpec Sy.P 115 [ptO D, .int a, .int b, fnP] [ptO D', .int a, .int b, fnP] (.tup []) := by
  subst e1; subst e2; subst ea; subst eb; exact ins_spec P l R hl hx hn
/-- What is done and what is to do. -/
structure DT where
  D : List Pt
  T : List Pt
structure DTOk (k : Nat) (l : List Pt) (z : DT) : Prop where
  e : z.D ++ z.T = l
  q : ∃ q, z.D.length = k * q
theorem DTOk.zero (k : Nat) (l : List Pt) : DTOk k l ⟨[], l⟩ := ⟨rfl, 0, rfl⟩
theorem DTOk.next {k : Nat} {l : List Pt} {z : DT} (h : DTOk k l z) {X Z : List Pt} (hT : z.T = X ++ Z) (hX : X.length = k) : DTOk k l ⟨z.D ++ X, Z⟩ := by
  obtain ⟨q, hq⟩ := h.q
  refine ⟨by rw [List.append_assoc, ← hT, h.e], q + 1, ?_⟩
  rw [List.length_append, hq, hX, Nat.mul_succ]
theorem DTOk.chs {k : Nat} (hk : 0 < k) {l : List Pt} {z : DT} (h : DTOk k l z) (B : List Pt) : chs k (z.D ++ B) = chs k z.D ++ chs k B := by
  obtain ⟨q, hq⟩ := h.q
  exact chs_app hk q hq
theorem stable_spec (l : List Pt) (hl : OkP l) (hx : l.Pairwise lx) (hn : l.length ≤ 100000) : FnSpec Sy.P 105 [ptO l, .int l.length, fnP] [ptO (srt l), .int l.length, fnP] (.tup []) := by
  have sub : ∀ {A X B : List Pt}, A ++ (X ++ B) = l → OkP X ∧ X.Pairwise lx := fun {A X B} e => by
    have hs : X.Sublist l := by rw [← e]; exact (List.sublist_append_left X B).trans (List.sublist_append_right A _)
    exact ⟨hl.sub hs, hx.sublist hs⟩
  have e0 : l = chs 20 [] ++ l := by rw [chs_nil]; rfl
  refine FnSpec.enter (S := Sy) 1 Try.func105 rfl rfl rfl Try.ntmps105 rfl rfl rfl rfl fun v0 => ?_
  (repeat' (first | refine w9x ?_ | (refine w9c ?_ ?_ <;> intro _ <;> try exact w9o) | (refine w9d ?_ ?_ <;> intro _ <;> try exact w9s) | (refine w9q ?_; intro bnil hbnil)))
  refine CW.loop (fun z : DT => [(0, .av (ptO (chs 20 z.D ++ z.T))), (1, .av (.int (l.length))), (2, .av fnP), (6, .av (.int (20))), (7, .av (.int (z.D.length))), (8, .av (.int ((z.D.length : Int) + 20)))]) (fun z => DTOk 20 l z) (fun z => l.length - z.D.length) (⟨[], l⟩) ?_ (by exact w9a) ?_
  · exact .zero 20 l
  rintro ⟨D, T⟩ hz
  have he := hz.e
  have hc := hz.chs (by decide)
  dsimp only at he hc ⊢
  have hDT : D.length + T.length = l.length := by rw [← he, List.length_append]
  have hP : (chs 20 D).length = D.length := chs_length (by decide) D
  by_cases c : 20 ≤ T.length
  · obtain ⟨X, Z, rfl, hX⟩ : ∃ X Z, T = X ++ Z ∧ X.length = 20 := ⟨T.take 20, T.drop 20, (List.take_append_drop ..).symm, by rw [List.length_take]; omega⟩
    rw [List.length_append] at hDT
    obtain ⟨s1, s2⟩ := sub he
    have hi := ins_at (P := chs 20 D) (l := X) (R := Z) (a := D.length) (b := (D.length : Int) + 20) s1 s2 (by omega) rfl rfl (by rw [hP]) (by omega)
    have e2 : chs 20 D ++ (srt X ++ Z) = chs 20 (D ++ X) ++ Z := by rw [hc, chs_le (l := X) (by omega), List.append_assoc]
    rw [e2] at hi
    have hz' := hz.next rfl hX
    have hl' : (D ++ X).length = D.length + 20 := by rw [List.length_append, hX]
    generalize chs 20 D ++ (X ++ Z) = W at *
    (repeat' (first | refine w9x ?_ | ((with_reducible apply J.callM1 (hi)); rfl; rfl; rfl; rfl; rfl; (repeat' (first | exact ArgsM.nil | apply ArgsM.cons | exact ArgM.pl rfl rfl | exact ArgM.br rfl rfl rfl (by first | rfl | exact sh_int | exact sh_rows | exact sh_rowsO | exact sh_box | exact sh_map (fun _ => rfl)))); exact NoShI.out; exact NoShI.out) | (refine w9c ?_ ?_ <;> intro _ <;> try exact w9o) | (refine w9d ?_ ?_ <;> intro _ <;> try exact w9s) | (refine w9q ?_; intro bnil hbnil)))
    all_goals first | (exfalso; omega) | skip
    refine ⟨⟨D ++ X, Z⟩, ?_, by first | omega | (simp only; omega), by exact w9a⟩
    all_goals first | exact hz' | (dsimp only; omega)
  · obtain ⟨s1, s2⟩ := sub (B := []) (by rw [List.append_nil]; exact he)
    have hi := ins_at (P := chs 20 D) (l := T) (R := []) (a := D.length) (b := l.length) s1 s2 (by simp; omega) (by rw [List.append_nil]) rfl (by rw [hP]) (by omega)
    have e2 : chs 20 D ++ (srt T ++ []) = chs 20 l := by rw [← he, hc, chs_le (l := T) (by omega), List.append_nil]
    rw [e2] at hi
    generalize chs 20 D ++ T = W at *
    (repeat' (first | refine w9x ?_ | ((with_reducible apply J.callM1 (hi)); rfl; rfl; rfl; rfl; rfl; (repeat' (first | exact ArgsM.nil | apply ArgsM.cons | exact ArgM.pl rfl rfl | exact ArgM.br rfl rfl rfl (by first | rfl | exact sh_int | exact sh_rows | exact sh_rowsO | exact sh_box | exact sh_map (fun _ => rfl)))); exact NoShI.out; exact NoShI.out) | (refine w9c ?_ ?_ <;> intro _ <;> try exact w9o) | (refine w9d ?_ ?_ <;> intro _ <;> try exact w9s) | (refine w9q ?_; intro bnil hbnil)))
    all_goals first | (exfalso; omega) | skip
    clear hi e2 hc hP he hz hDT
    refine CW.loop (fun bs : Nat => [(0, .av (ptO (chs bs l))), (1, .av (.int (l.length))), (2, .av fnP), (6, .av (.int (bs)))]) (fun bs => 0 < bs ∧ bs ≤ 2 * l.length + 20) (fun bs => l.length - bs) (20) ?_ (by exact w9a) ?_
    · exact ⟨by decide, by omega⟩
    intro bs ⟨hb0, hb1⟩
    by_cases c1 : bs < l.length
    · have e1 : chs bs l = chs (2 * bs) [] ++ chs bs l := by rw [chs_nil]; rfl
      (repeat' (first | refine w9x ?_ | (refine w9c ?_ ?_ <;> intro _ <;> try exact w9o) | (refine w9d ?_ ?_ <;> intro _ <;> try exact w9s) | (refine w9q ?_; intro bnil hbnil)))
      all_goals first | (exfalso; omega) | skip
      refine CW.loop (fun z : DT => [(0, .av (ptO (chs (2 * bs) z.D ++ chs bs z.T))), (1, .av (.int (l.length))), (2, .av fnP), (6, .av (.int (bs))), (7, .av (.int (z.D.length))), (8, .av (.int ((z.D.length : Int) + 2 * (bs : Int))))]) (fun z => DTOk (2 * bs) l z) (fun z => l.length - z.D.length) (⟨[], l⟩) ?_ (by (repeat' (first | exact trivial | rfl | refine And.intro ?_ ?_ | exact int_congr (by omega) | exact int_congr (by dsimp only; omega) | exact ints_congr (by first | assumption | exact Eq.symm (by assumption)) | exact int_congr (by assumption) | exact bool_congr (by first | assumption | exact Eq.symm (by assumption)) | exact map_congr' (by first | assumption | exact Eq.symm (by assumption)) | exact int_congr (by simp only [List.length_nil]; omega)))) ?_
      · exact .zero _ l
      rintro ⟨D, T⟩ hz
      have he := hz.e
      have hc := hz.chs (by omega)
      dsimp only at he hc ⊢
      have hDT : D.length + T.length = l.length := by rw [← he, List.length_append]
      have hP : (chs (2 * bs) D).length = D.length := chs_length (by omega) D
      by_cases c2 : 2 * bs ≤ T.length
      · obtain ⟨X, Y, Z, rfl, hX, hY⟩ : ∃ X Y Z, T = X ++ (Y ++ Z) ∧ X.length = bs ∧ Y.length = bs :=
          ⟨T.take bs, (T.drop bs).take bs, (T.drop bs).drop bs, by rw [List.take_append_drop, List.take_append_drop], by rw [List.length_take]; omega, by rw [List.length_take, List.length_drop]; omega⟩
        rw [List.length_append, List.length_append] at hDT
        have he2 : D ++ ((X ++ Y) ++ Z) = l := by rw [List.append_assoc]; exact he
        obtain ⟨s1, s2⟩ := sub he2
        have s3 := List.pairwise_append.1 s2
        have hp : (srt X ++ srt Y).Perm (X ++ Y) := (srt_perm X).append (srt_perm Y)
        have hR : (chs bs Z).length = Z.length := chs_length hb0 Z
        have hi := symF_at (a := D.length) (m := (D.length : Int) + bs) (b := (D.length : Int) + 2 * (bs : Int)) (sym_spec (2 * bs) (chs (2 * bs) D) (srt X) (srt Y) (chs bs Z) (by rw [srt_len, srt_len]; omega) (by rw [srt_len]; omega) (by rw [srt_len]; omega) (s1.perm hp) (srt_sorted (s1.sub (List.sublist_append_left ..))) (srt_sorted (s1.sub (List.sublist_append_right ..)))
          (fun x hx' y hy' => s3.2.2 x ((srt_perm X).mem_iff.1 hx') y ((srt_perm Y).mem_iff.1 hy')) (by rw [srt_len, srt_len]; omega)) rfl rfl (by rw [hP]) (by rw [srt_len]; omega) (by rw [srt_len, srt_len]; omega)
        have e2 : chs (2 * bs) D ++ (srt (srt X ++ srt Y) ++ chs bs Z) = chs (2 * bs) (D ++ (X ++ Y)) ++ chs bs Z := by
          rw [hc, chs_le (l := X ++ Y) (by rw [List.length_append]; omega), List.append_assoc, srt_congr s1 hp]
        rw [e2, ← chs_two hb0 hX hY] at hi
        have hz' := hz.next (X := X ++ Y) (Z := Z) (by dsimp only; rw [List.append_assoc]) (by rw [List.length_append]; omega)
        have hl' : (D ++ (X ++ Y)).length = D.length + 2 * bs := by rw [List.length_append, List.length_append]; omega
        generalize chs (2 * bs) D ++ chs bs (X ++ (Y ++ Z)) = W at *
        (repeat' (first | refine w9x ?_ | ((with_reducible apply J.callM1 (hi)); rfl; rfl; rfl; rfl; rfl; (repeat' (first | exact ArgsM.nil | apply ArgsM.cons | exact ArgM.pl rfl rfl | exact ArgM.br rfl rfl rfl (by first | rfl | exact sh_int | exact sh_rows | exact sh_rowsO | exact sh_box | exact sh_map (fun _ => rfl)))); exact NoShI.out; exact NoShI.out) | (refine w9c ?_ ?_ <;> intro _ <;> try exact w9o) | (refine w9d ?_ ?_ <;> intro _ <;> try exact w9s) | (refine w9q ?_; intro bnil hbnil)))
        all_goals first | (exfalso; omega) | skip
        refine ⟨⟨D ++ (X ++ Y), Z⟩, ?_, by first | omega | (simp only; omega), by exact w9a⟩
        all_goals first | exact hz' | (dsimp only at *; omega)
      · have hend : chs (2 * bs) D ++ srt T = chs (2 * bs) l := by rw [← he, hc, chs_le (l := T) (by omega)]
        by_cases c3 : bs < T.length
        · obtain ⟨X, Y, rfl, hX⟩ : ∃ X Y, T = X ++ Y ∧ X.length = bs := ⟨T.take bs, T.drop bs, (List.take_append_drop ..).symm, by rw [List.length_take]; omega⟩
          rw [List.length_append] at hDT c2 c3
          obtain ⟨s1, s2⟩ := sub (B := []) (by rw [List.append_nil]; exact he)
          have s3 := List.pairwise_append.1 s2
          have hp : (srt X ++ srt Y).Perm (X ++ Y) := (srt_perm X).append (srt_perm Y)
          have e3 : chs bs (X ++ Y) = srt X ++ (srt Y ++ []) := by rw [chs_app hb0 1 (by omega), chs_le (l := X) (by omega), chs_le (l := Y) (by omega), List.append_nil]
          have hi := symF_at (a := D.length) (m := (D.length : Int) + bs) (b := l.length) (sym_spec (2 * bs) (chs (2 * bs) D) (srt X) (srt Y) [] (by rw [srt_len, srt_len]; omega) (by rw [srt_len]; omega) (by rw [srt_len]; omega) (s1.perm hp) (srt_sorted (s1.sub (List.sublist_append_left ..))) (srt_sorted (s1.sub (List.sublist_append_right ..)))
            (fun x hx' y hy' => s3.2.2 x ((srt_perm X).mem_iff.1 hx') y ((srt_perm Y).mem_iff.1 hy')) (by rw [srt_len, srt_len, List.length_nil]; omega)) rfl rfl (by rw [hP]) (by rw [srt_len]; omega) (by rw [srt_len, srt_len]; omega)
          have e2 : chs (2 * bs) D ++ (srt (srt X ++ srt Y) ++ []) = chs (2 * bs) l := by rw [← hend, List.append_nil, srt_congr s1 hp]
          rw [e2, ← e3] at hi
          generalize chs (2 * bs) D ++ chs bs (X ++ Y) = W at *
          (repeat' (first | refine w9x ?_ | ((with_reducible apply J.callM1 (hi)); rfl; rfl; rfl; rfl; rfl; (repeat' (first | exact ArgsM.nil | apply ArgsM.cons | exact ArgM.pl rfl rfl | exact ArgM.br rfl rfl rfl (by first | rfl | exact sh_int | exact sh_rows | exact sh_rowsO | exact sh_box | exact sh_map (fun _ => rfl)))); exact NoShI.out; exact NoShI.out) | (refine w9c ?_ ?_ <;> intro _ <;> try exact w9o) | (refine w9d ?_ ?_ <;> intro _ <;> try exact w9s) | (refine w9q ?_; intro bnil hbnil)))
          all_goals first | (exfalso; omega) | skip
          refine ⟨2 * bs, ?_, by first | omega | (simp only; omega), by exact w9a⟩
          all_goals first | exact ⟨by omega, by omega⟩ | omega
        · have e4 : chs (2 * bs) D ++ chs bs T = chs (2 * bs) l := by rw [← hend, chs_le (k := bs) (l := T) (by omega)]
          rw [e4]
          (repeat' (first | refine w9x ?_ | (refine w9c ?_ ?_ <;> intro _ <;> try exact w9o) | (refine w9d ?_ ?_ <;> intro _ <;> try exact w9s) | (refine w9q ?_; intro bnil hbnil)))
          all_goals first | (exfalso; omega) | skip
          refine ⟨2 * bs, ?_, by first | omega | (simp only; omega), by exact w9a⟩
          all_goals first | exact ⟨by omega, by omega⟩ | omega
    · have e5 : chs bs l = srt l := chs_le (by omega)
      rw [e5]
      (repeat' (first | refine w9x ?_ | (refine w9c ?_ ?_ <;> intro _ <;> try exact w9o) | (refine w9d ?_ ?_ <;> intro _ <;> try exact w9s) | (refine w9q ?_; intro bnil hbnil)))
      all_goals first | (exfalso; omega) | exact ⟨rfl, ⟨_, rfl, .refl _⟩, rfl, args_start (args_mu rfl rfl (args_pl rfl (args_pl rfl args_nil)))⟩
theorem sortStable_spec (l : List Pt) (hl : OkP l) (hx : l.Pairwise lx) (hn : l.length ≤ 100000) : FnSpec Sy.P 62 [ptO l, fnP] [ptO (srt l), fnP] (.tup []) := by
  have hi := stable_spec l hl hx hn
  refine FnSpec.enter (S := Sy) 1 Try.func62 rfl rfl rfl Try.ntmps62 rfl rfl rfl rfl fun v0 => ?_
  (repeat' (first | refine w9x ?_ | ((with_reducible apply J.callM1 (hi)); rfl; rfl; rfl; rfl; rfl; (repeat' (first | exact ArgsM.nil | apply ArgsM.cons | exact ArgM.pl rfl rfl | exact ArgM.br rfl rfl rfl (by first | rfl | exact sh_int | exact sh_rows | exact sh_rowsO | exact sh_box | exact sh_map (fun _ => rfl)))); exact NoShI.out; exact NoShI.out) | (refine w9c ?_ ?_ <;> intro _ <;> try exact w9o) | (refine w9d ?_ ?_ <;> intro _ <;> try exact w9s) | (refine w9q ?_; intro bnil hbnil)))
  exact ⟨rfl, ⟨_, rfl, .refl _⟩, rfl, args_start (args_mu rfl rfl (args_pl rfl args_nil))⟩
theorem cmpP_argM {M : Nat → Bool} {v : Nat → Value} {N : Nat} {σ : St} {ms : List (Nat × Nat)} {i : Nat} : ArgM (Sy.fixedF M v) N σ ms i (.func 63) fnP :=
  .fn fun w0 L0 a w L _ => beh_of_spec ⟨_, Try.func63, rfl, rfl⟩ (fun xs9 ⟨x, y, h, hx, hy⟩ => by subst h; exact cmpP_spec x y hx hy) (fun xs9 ⟨x, y, h, _, _⟩ => by subst h; rfl) w _
end Go.Proofs.Ytohgcgedbhlnfaa
