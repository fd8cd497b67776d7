/- 'plumetop.TopPick' returns true: walked. -/
import Derived.Test.YtkkcnppgcnmikaaGreatDoorQanm
import Derived.Test.YtkkcnppgcnmikaaGreatDoorFsnm
import Derived.Test.YtkkcnppgcnmikaaGreatDoorZmnm
import Derived.Test.YtkkcnppgcnmikaaGreatDoorSlnm
namespace FM
open Go Go.RowKit
section
variable {S : Sys} {σ : St} {d : Nat} {ty : Nat} {pos : String} {aft : Array Edge} {g : Option (Nat × Bool)}
theorem s_eqS2R {t t2 e : Nat} {k : IntKind} {f1 f2 : Field} {x y : Operand} {a b : Int} (ht : S.P.underlying t = some (.struct #[f1, f2])) (h1 : f1.type = e) (h2 : f2.type = e) (o1 : f1.offset = 0) (o2 : f2.offset = 1) (n1 : f1.name ≠ "_") (n2 : f2.name ≠ "_") (hs : S.P.stoodInHeld t = false)
    (he : S.P.underlying e = some (.int k)) (hg : S.P.eqGuardType S.P.depth t = false)
    (hx : ov σ x = .av (.agg [.int a, .int b])) (hy : ov σ y = .av (.agg [.int a, .int b])) : Step S ⟨some d, .binOp .eql t x y t2, ty, pos, aft, g⟩ σ (σ.put d (.av (.bool true))) := by
  have h := s_eqS2 (d := d) (ty := ty) (pos := pos) (aft := aft) (g := g) (t2 := t2) ht h1 h2 o1 o2 n1 n2 hs he hg hx hy
  rwa [show decide (a = a ∧ b = b) = true by simp] at h
theorem s_eqlR {t t2 : Nat} {x y : Operand} {a : Int} (hx : ov σ x = .av (.int a)) (hy : ov σ y = .av (.int a)) : Step S ⟨some d, .binOp .eql t x y t2, ty, pos, aft, g⟩ σ (σ.put d (.av (.bool true))) := by
  have h := s_eql (S := S) (d := d) (ty := ty) (pos := pos) (aft := aft) (g := g) (t := t) (t2 := t2) hx hy
  rwa [show decide (a = a) = true by simp] at h
end
end FM
namespace Go.Proofs.YtkkcnppgcnmikaaGreatDoor
open Go FM Go.Proofs
set_option maxRecDepth 10000
set_option maxHeartbeats 6400000
set_option linter.all false
theorem stoodTold2 : Tryz.prog.stoodInHeld 36 = false := by kernel_rfl
theorem guardTold2 : Tryz.prog.eqGuardType Tryz.prog.depth 36 = false := by kernel_rfl
abbrev nof : Nat → Bool := fun _ => false
abbrev dl0 : Dl := ([], [], 0, 0, 0, 0, ())
theorem items_ok (x : List It) (a b : Nat) (ha : a ≤ 5) (r : Int) (hr : 0 ≤ r ∧ r ≤ 1000) : VW (((x.take a).take b).map itg).length (vA (((x.take a).take b).map itg)) (wA (((x.take a).take b).map itg)) ∧ IOk (((x.take a).take b).map itg) ∧ itE (((x.take a).take b).map itg) r = 0 := by
  have hl : (((x.take a).take b).map itg).length ≤ 5 := by rw [List.length_map, List.length_take, List.length_take]; omega
  have hm : ∀ z ∈ ((x.take a).take b).map itg, (1 ≤ z.1 ∧ z.1 ≤ 20) ∧ 0 ≤ z.2.1 ∧ z.2.1 ≤ 49 := fun z hz => by
    obtain ⟨y, _, rfl⟩ := List.mem_map.1 hz
    show (1 ≤ 1 + y.1 % 20 ∧ 1 + y.1 % 20 ≤ 20) ∧ 0 ≤ y.2.1 % 50 ∧ y.2.1 % 50 ≤ 49
    omega
  generalize ((x.take a).take b).map itg = l at *
  have hi : IOk l := ⟨by omega, fun z hz => by have := hm z hz; omega⟩
  refine ⟨⟨hl, fun i => ?_, fun i => ?_⟩, hi, ?_⟩
  · by_cases c : i < l.length
    · rw [(wA_get c).2]; have := hm _ (List.getElem_mem c); omega
    · unfold vA; rw [List.getD_eq_getElem?_getD, List.getElem?_eq_none (by omega)]; simp
  · have := hi.ab i; omega
  · unfold itE
    rw [if_neg (by omega), if_neg, if_neg (by omega)]
    intro h
    obtain ⟨z, hz, hb⟩ := List.any_eq_true.1 h
    have := hm z hz
    unfold bad at hb
    rw [decide_eq_true_eq] at hb
    omega
theorem LcN_map1 {c : Nat} {M N : Nat → Int} : (LcN (c + 1) M N).map acA = (LcN c M N).map acA ++ [.agg [.str (an c), .int (M c), .int (N c)]] := by
  rw [LcN_succ, List.map_append]; rfl
theorem OfN_map1 {n : Nat} {v w : Nat → Int} : (OfN (n + 1) v w).map dlA = (OfN n v w).map dlA ++ [.agg [.str (an (n + 1)), .str [97], .int 0, .int 0, .int (v n), .int (w n)]] := by
  rw [OfN_succ, List.map_append]; rfl
theorem an_eq (i : Nat) : [UInt8.ofNat (98 + i)] = an (i + 1) := by unfold an; rw [show 97 + (i + 1) = 98 + i by omega]
theorem topPick_spec (x : List It) (room : Int) (hx : x.length ≤ 9223372036854775807) : FnSpec Sy.P 5 [its x, .int room] [its x, .int room] (.bool true) := by
  have hW := W.within_spec room 60 (by decide)
  have hr0 : 0 ≤ room % 60 ∧ room % 60 ≤ 1000 := by omega
  generalize room % 60 = r at *
  have hI := itemsOf_spec (x.take (min (x.length : Int) 5).toNat) (by rw [List.length_take]; omega)
  obtain ⟨hV, hIO, hE0⟩ := items_ok x (min (x.length : Int) 5).toNat (min ((x.take (min (x.length : Int) 5).toNat).length : Int) 12).toNat (by omega) r hr0
  generalize ((x.take (min (x.length : Int) 5).toNat).take (min ((x.take (min (x.length : Int) 5).toNat).length : Int) 12).toNat).map itg = l at *
  have hn := hV.n
  obtain ⟨T, e1, e2, e3, e4, e5, e6, e7⟩ := build_greedy hV hr0
  have hG := knapGreedy_spec l r hIO hr0 hE0
  have hB := build_spec (OfN l.length (vA l) (wA l)) (Lo l.length (vA l) nof 0) (an 0) r (OfN_L (by omega)) (LcN_L (by omega))
  have hBu := fun (k : Str) (hk : k.length ≤ 1000) => bu_ok hV e1 e2 e3 e5 e6 (k := k) hk
  unfold bT at e2
  unfold bA at e3
  rw [e1, e2, e3] at hB
  have hA0 : (Lo l.length (vA l) (gF l (l.length + 1) nof r 0).1 (gF l (l.length + 1) nof r 0).2)[0]? = some (an 0, (gF l (l.length + 1) nof r 0).2, 0, ()) := LcN_get (by omega)
  have hAl : (Lo l.length (vA l) (gF l (l.length + 1) nof r 0).1 (gF l (l.length + 1) nof r 0).2).length = l.length + 1 := LcN_len
  have hTl : (fl l.length (gF l (l.length + 1) nof r 0).1).length = T.length := by rw [← e4]; exact List.length_mergeSort _
  have hS := sort_spec T (by omega)
  rw [show srt T = fl l.length (gF l (l.length + 1) nof r 0).1 from e4] at hS
  generalize Lo l.length (vA l) (gF l (l.length + 1) nof r 0).1 (gF l (l.length + 1) nof r 0).2 = A at *
  generalize fl l.length (gF l (l.length + 1) nof r 0).1 = F at *
  generalize (gF l (l.length + 1) nof r 0).2 = s at *
  clear e1 e2 e3 e4 e5
  have hC := clone_spec T (by omega)
  have hQ := equal_spec F F (by omega)
  rw [decide_eq_true rfl] at hQ
  have hN := new_spec
  have hK := W.works_spec
  have hD := W.tgood_spec [0, 0] (by decide)
  rw [show (!([0, 0] : List Int).any W.isErr) = true by decide] at hD
  have hX := eqAcs_spec A A (by omega)
  rw [decide_eq_true rfl] at hX
  rw [show an 0 = [97] from rfl] at hB hA0
  refine FnSpec.enter (S := Sy) 0 Tryz.func5 rfl rfl rfl Tryz.ntmps5 rfl rfl rfl rfl fun v0 => ?_
  (repeat' (first | refine w9x ?_ | refine w9p (hW) ?_ | refine w9p (hI) ?_ | (refine w9c ?_ ?_ <;> intro _ <;> try exact w9o) | (refine w9d ?_ ?_ <;> intro _ <;> try exact w9s) | (refine w9q ?_; intro bnil hbnil)))
  all_goals first | (exfalso; omega) | skip
  refine CW.leS (x := .nil) 7 rfl (AV.le.nil (o := true) (c := 6)) ?_
  refine CW.loop (fun i : Nat => [(1, .av (.int (r))), (38, .ref 5), (5, .av (.sl true 2 (l.map it))), (6, .av (.sl true 3 ((LcN (i + 1) (Mo (vA l) nof 0) (No nof)).map acA))), (7, .av (.sl true 6 ((OfN i (vA l) (wA l)).map dlA))), (39, .av (.int (l.length))), (40, .av (.int (i)))]) (fun i => i ≤ l.length) (fun i => l.length - i) (0) ?_ (by exact w9a) ?_
  · exact Nat.zero_le _
  intro i hi
  by_cases hil : i < l.length
  · have hx : l[i]? = some l[i] := List.getElem?_eq_getElem hil
    have hg := wA_get hil
    have hm1 := LcN_map1 (c := i + 1) (M := Mo (vA l) nof 0) (N := No nof)
    have hm2 := OfN_map1 (n := i) (v := vA l) (w := wA l)
    have hn1 : ((LcN (i + 1) (Mo (vA l) nof 0) (No nof)).map acA).length ≤ 6 := by rw [List.length_map, LcN_len]; omega
    have hn2 : ((OfN i (vA l) (wA l)).map dlA).length ≤ 6 := by rw [List.length_map, OfN_len]; omega
    rw [← an_eq, show Mo (vA l) nof 0 (i + 1) = 100 from rfl, show No nof (i + 1) = 0 from rfl] at hm1
    rw [← an_eq, hg.1, hg.2] at hm2
    generalize (LcN (i + 1) (Mo (vA l) nof 0) (No nof)).map acA = B1 at *
    generalize (OfN i (vA l) (wA l)).map dlA = B2 at *
    generalize l[i] = y at *
    obtain ⟨a, b, ⟨⟩⟩ := y
    dsimp only at hm2
    (repeat' (first | ((with_reducible apply J.step); rfl; ((with_reducible apply s_add8c) <;> (first | rfl | omega))) | refine w9x ?_ | (refine w9c ?_ ?_ <;> intro _ <;> try exact w9o) | (refine w9d ?_ ?_ <;> intro _ <;> try exact w9s) | (refine w9q ?_; intro bnil hbnil)))
    all_goals first | (exfalso; omega) | skip
    refine ⟨i+1, ?_, by first | omega | (simp only; omega), by (repeat' (first | exact trivial | rfl | refine And.intro ?_ ?_ | exact int_congr (by omega) | exact int_congr (by dsimp only; omega) | exact ints_congr (by first | assumption | exact Eq.symm (by assumption)) | exact int_congr (by assumption) | exact bool_congr (by first | assumption | exact Eq.symm (by assumption)) | exact map_congr' (by first | assumption | exact Eq.symm (by assumption)) | exact congrArg (fun y => TV.av (AV.sl true 3 y)) hm1.symm | exact congrArg (fun y => TV.av (AV.sl true 6 y)) hm2.symm))⟩
    omega
  obtain rfl : i = l.length := by omega
  have hfl : (LcN (l.length + 1) (Mo (vA l) nof 0) (No nof)).length = l.length + 1 := LcN_len
  (repeat' (first | ((with_reducible apply J.step); rfl; (exact s_ptNil Tryz.underlying23 rfl rfl rfl)) | refine w9x ?_ | refine w9p (hB) ?_ | refine w9p (hG) ?_ | refine w9p (hK) ?_ | refine w9p (hD) ?_ | refine w9p (hC) ?_ | ((with_reducible apply J.callM1 (hS)); rfl; rfl; rfl; rfl; rfl; (repeat' (first | exact ArgsM.nil | apply ArgsM.cons | exact ArgM.pl rfl rfl | exact ArgM.br rfl rfl rfl (by first | rfl | exact sh_int | exact sh_rows | exact sh_rowsO | exact sh_box | exact sh_map (fun _ => rfl)))); exact NoShI.out; exact NoShI.out) | refine w9p (hN) ?_ | (refine w9c ?_ ?_ <;> intro _ <;> try exact w9o) | (refine w9d ?_ ?_ <;> intro _ <;> try exact w9s) | (refine w9q ?_; intro bnil hbnil)))
  all_goals first | (exfalso; omega) | skip
  refine CW.loop (fun z : Nat × Str => [(1, .av (.int (r))), (103, .ref 6), (6, .av (.sl true 3 ((Lo l.length (vA l) nof 0).map acA))), (7, .av (.sl true 6 ((OfN l.length (vA l) (wA l)).map dlA))), (11, .av (.sl true 1 ((F).map .int))), (12, .av (.sl true 3 (A.map acA))), (14, .av (.sl true 1 ((F).map .int))), (15, .av (.int (s))), (17, .av (hsV (LcN z.1 (Mo (vA l) nof 0) (No nof)) [] z.2 0)), (104, .av (.int ((Lo l.length (vA l) nof 0).length))), (105, .av (.int (z.1)))]) (fun z => z.1 ≤ l.length + 1 ∧ z.2.length ≤ 23 * z.1) (fun z => l.length + 1 - z.1) ((0, [])) ?_ (by exact w9a) ?_
  · exact ⟨Nat.zero_le _, by simp⟩
  rintro ⟨i, k⟩ ⟨hi, hk⟩
  dsimp only at hi hk ⊢
  have hfl2 : (Lo l.length (vA l) nof 0).length = l.length + 1 := LcN_len
  by_cases hil : i < l.length + 1
  · have hx : (LcN (l.length + 1) (Mo (vA l) nof 0) (No nof))[i]? = some (an i, Mo (vA l) nof 0 i, No nof i, ()) := LcN_get hil
    have hwd := wid_o hV (o := nof) (S := 0) (by omega) 6
    have hni : No nof i = 0 := by cases i <;> rfl
    obtain ⟨o1, o2, o3⟩ := on_ok (c := i) (M := Mo (vA l) nof 0) (N := No nof) (k := k) (by omega) (wid_o hV (by omega) _) (hwd.m i (by omega)) hni (by omega)
    have hO := do1 (LcN i (Mo (vA l) nof 0) (No nof)) [] k 0 (Mo (vA l) nof 0 i) (an i) dl0 (LcN_L (by omega)) (by omega) (by unfold an; simp)
    rw [o1, o2] at hO
    generalize onD (LcN i (Mo (vA l) nof 0) (No nof)) k (an i) (Mo (vA l) nof 0 i) = k' at *
    generalize an i = w at *
    generalize Mo (vA l) nof 0 i = m at *
    (repeat' (first | ((with_reducible apply J.step); rfl; ((with_reducible apply s_bldG) <;> (first | rfl | (solve | (repeat' (first | exact FillG.nil | (with_unfolding_all apply FillG.part rfl rfl rfl rfl rfl rfl rfl))))))) | refine w9x ?_ | refine w9h (hO) ?_ | (refine w9c ?_ ?_ <;> intro _ <;> try exact w9o) | (refine w9d ?_ ?_ <;> intro _ <;> try exact w9s) | (refine w9q ?_; intro bnil hbnil)))
    all_goals first | (exfalso; omega) | skip
    refine ⟨(i+1, k'), ?_, by first | omega | (simp only; omega), by exact w9a⟩
    exact ⟨by simp only; omega, by simp only; omega⟩
  obtain rfl : i = l.length + 1 := by omega
  (repeat' (first | refine w9x ?_ | (refine w9c ?_ ?_ <;> intro _ <;> try exact w9o) | (refine w9d ?_ ?_ <;> intro _ <;> try exact w9s) | (refine w9q ?_; intro bnil hbnil)))
  all_goals first | (exfalso; omega) | skip
  refine CW.loop (fun j : Nat => [(1, .av (.int (r))), (122, .ref 7), (7, .av (.sl true 6 ((OfN l.length (vA l) (wA l)).map dlA))), (11, .av (.sl true 1 ((F).map .int))), (12, .av (.sl true 3 (A.map acA))), (14, .av (.sl true 1 ((F).map .int))), (15, .av (.int (s))), (17, .av (hsV (Lo l.length (vA l) nof 0) (OfN j (vA l) (wA l)) k 0)), (123, .av (.int ((OfN l.length (vA l) (wA l)).length))), (124, .av (.int (j)))]) (fun j => j ≤ l.length) (fun j => l.length - j) (0) ?_ (by exact w9a) ?_
  · exact Nat.zero_le _
  intro j hj
  have hol : (OfN l.length (vA l) (wA l)).length = l.length := OfN_len
  by_cases hjl : j < l.length
  · have hx : (OfN l.length (vA l) (wA l))[j]? = some (of1 (vA l) (wA l) j) := OfN_get hjl
    obtain ⟨o1, o2⟩ := ad_OfN hV hjl
    have hO := do2 (Lo l.length (vA l) nof 0) (OfN j (vA l) (wA l)) k 0 0 [] (of1 (vA l) (wA l) j) (OfN_L (by omega)) (by show (an (j + 1)).length ≤ _; unfold an; simp) (by show (an 0).length ≤ _; unfold an; simp)
    rw [o1, if_pos rfl, o2] at hO
    generalize of1 (vA l) (wA l) j = y at *
    obtain ⟨y1, y2, y3, y4, y5, y6, ⟨⟩⟩ := y
    (repeat' (first | ((with_reducible apply J.step); rfl; ((with_reducible apply s_bldG) <;> (first | rfl | (solve | (repeat' (first | exact FillG.nil | (with_unfolding_all apply FillG.part rfl rfl rfl rfl rfl rfl rfl))))))) | refine w9x ?_ | refine w9h (hO) ?_ | (refine w9c ?_ ?_ <;> intro _ <;> try exact w9o) | (refine w9d ?_ ?_ <;> intro _ <;> try exact w9s) | (refine w9q ?_; intro bnil hbnil)))
    all_goals first | (exfalso; omega) | skip
    refine ⟨j+1, ?_, by first | omega | (simp only; omega), by exact w9a⟩
    omega
  obtain rfl : j = l.length := by omega
  obtain ⟨b1, b2, b3, b4⟩ := hBu k (by omega)
  have hO := do3 (Lo l.length (vA l) nof 0) (OfN l.length (vA l) (wA l)) k 0 r [97] dl0 (LcN_L (by omega)) (OfN_L (by omega)) (by omega) (by rw [LcN_len]; omega)
  rw [show an 0 = [97] from rfl] at b1 b2 b3 b4
  rw [b1, b2, b3, b4, ← hTl] at hO
  have hY := accounts_spec A (buO (OfN l.length (vA l) (wA l)) (Lo l.length (vA l) nof 0) k [97] r) (buD (OfN l.length (vA l) (wA l)) (Lo l.length (vA l) nof 0) k [97] r) 0 (by omega)
  generalize buO (OfN l.length (vA l) (wA l)) (Lo l.length (vA l) nof 0) k [97] r = O' at *
  generalize buD (OfN l.length (vA l) (wA l)) (Lo l.length (vA l) nof 0) k [97] r = k' at *
  (repeat' (first | ((with_reducible apply J.step); rfl; ((with_reducible apply s_bldG) <;> (first | rfl | (solve | (repeat' (first | exact FillG.nil | (with_unfolding_all apply FillG.part rfl rfl rfl rfl rfl rfl rfl))))))) | ((with_reducible apply J.step); rfl; ((with_reducible apply s_eqlR) <;> rfl)) | ((with_reducible apply J.step); rfl; (exact s_eqS2R Tryz.underlying36 rfl rfl rfl rfl (by decide) (by decide) stoodTold2 Tryz.underlying3 guardTold2 rfl rfl)) | refine w9x ?_ | refine w9h (hO) ?_ | ((with_reducible first | apply J.callP (hQ) | apply J.callPQ (hQ)); rfl; rfl; (repeat' (first | exact ArgsOk.nil | exact ArgOk.br rfl AV.noConfusion sh_hs | apply ArgsOk.cons | exact ArgOk.pl rfl rfl | exact ArgOk.br rfl AV.noConfusion (by first | rfl | exact sh_int | exact sh_rows | exact sh_rowsO | exact sh_box | exact sh_map (fun _ => rfl)))); (first | rfl | exact gn0 | exact gnI)) | ((with_reducible first | apply J.callP (hY) | apply J.callPQ (hY)); rfl; rfl; (repeat' (first | exact ArgsOk.nil | exact ArgOk.br rfl AV.noConfusion sh_hs | apply ArgsOk.cons | exact ArgOk.pl rfl rfl | exact ArgOk.br rfl AV.noConfusion (by first | rfl | exact sh_int | exact sh_rows | exact sh_rowsO | exact sh_box | exact sh_map (fun _ => rfl)))); (first | rfl | exact gn0 | exact gnI)) | ((with_reducible first | apply J.callP (hX) | apply J.callPQ (hX)); rfl; rfl; (repeat' (first | exact ArgsOk.nil | exact ArgOk.br rfl AV.noConfusion sh_hs | apply ArgsOk.cons | exact ArgOk.pl rfl rfl | exact ArgOk.br rfl AV.noConfusion (by first | rfl | exact sh_int | exact sh_rows | exact sh_rowsO | exact sh_box | exact sh_map (fun _ => rfl)))); (first | rfl | exact gn0 | exact gnI)) | (refine w9c ?_ ?_ <;> intro _ <;> try exact w9o) | (refine w9d ?_ ?_ <;> intro _ <;> try exact w9s) | (refine w9q ?_; intro bnil hbnil)))
  all_goals first | (exfalso; omega) | exact .mk rfl rfl rfl
end Go.Proofs.YtkkcnppgcnmikaaGreatDoor
