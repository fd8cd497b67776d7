/- A house: build, walked. -/
import Derived.Test.YtkkcnppgcnmikaaGreatDoorZjnm
namespace Go.Proofs.YtkkcnppgcnmikaaGreatDoor
open Go FM Go.Proofs
set_option maxRecDepth 10000
set_option maxHeartbeats 6400000
set_option linter.all false
section
variable (A : List Ac) (O : List Dl) (k : Str) (n n0 : Int) (w : Str) (dl : Dl) (kd : Int)
theorem clean_ok {O : List Dl} {A : List Ac} {w : Str} {room : Int} (h : bdE O A w room = 0) (hA : AcL A) : clE O (bA O A w room) = 0 := by
  unfold clE
  rw [if_neg (not_not_intro (bdE_ok h).1), if_neg (not_not_intro (bA_ok h hA).1)]
theorem build_h (hA : AcL A) (hO : DlL O) (hk : k.length ≤ 4000) (hA6 : A.length ≤ 6) : FnSpec Sy.P 29 [hsV A O k n, dxA kd n0 w dl] [hsV (buA O A k w n0) (buO O A k w n0) (buD O A k w n0) n, dxA kd n0 w dl] (.tup [tdA (buN O A k w n0) (buM O A k w n0), .int (buE O A k w n0)]) := by
  have hF := hfind_spec A O k n w (by omega)
  have hB := build_spec O A w n0 hO hA
  have hZ := logSize_spec k n
  unfold buA buO buD buN buM
  by_cases c1 : fA A w < 0
  · have e : buE O A k w n0 = 4 := if_pos c1
    rw [e, if_neg (by decide), if_neg (by decide), if_neg (by decide), if_neg (by decide), if_neg (by decide)]
    generalize fA A w = x at *
    refine FnSpec.enter (S := Sy) 1 Tryz.func29 rfl rfl rfl Tryz.ntmps29 rfl rfl rfl rfl fun v0 => ?_
    (repeat' (first | (refine J.freezeO 3 rfl rfl sh_dxA rfl ?_) | ((with_reducible apply J.step); rfl; ((with_reducible apply s_ldSA) <;> rfl)) | ((with_reducible apply J.step); rfl; ((with_reducible apply s_fadSM) <;> rfl)) | ((with_reducible apply J.step); rfl; ((with_reducible apply s_fadM) <;> rfl)) | ((with_reducible apply J.step); rfl; ((with_reducible apply s_fadFF) <;> rfl)) | refine w9x ?_ | ((with_reducible first | apply J.callP (hF) | apply J.callPQ (hF)); rfl; rfl; (repeat' (first | exact ArgsOk.nil | exact ArgOk.br rfl AV.noConfusion sh_hs | apply ArgsOk.cons | exact ArgOk.pl rfl rfl | exact ArgOk.br rfl AV.noConfusion (by first | rfl | exact sh_int | exact sh_rows | exact sh_rowsO | exact sh_box | exact sh_map (fun _ => rfl)))); (first | rfl | exact gn0 | exact gnI)) | (refine w9c ?_ ?_ <;> intro _ <;> try exact w9o) | (refine w9d ?_ ?_ <;> intro _ <;> try exact w9s) | (refine w9q ?_; intro bnil hbnil)))
    all_goals first | (exfalso; omega) | exact ⟨rfl, ⟨_, rfl, .refl _⟩, rfl, args_start (args_mu rfl rfl (args_pl rfl args_nil))⟩
  have e1 : buE O A k w n0 = if bdE O A w n0 ≠ 0 then bdE O A w n0 else if 4000 < k.length + (dk (rk O w (bT O A w n0))).length then 8 else 0 := if_neg c1
  by_cases c2 : bdE O A w n0 ≠ 0
  · rw [e1, if_pos c2, if_neg c2, if_neg c2, if_neg c2, if_neg c2, if_neg c2]
    generalize fA A w = x at *
    generalize bdT O A w n0 1001 = T at *
    generalize bdL O A w n0 1001 = B at *
    generalize bdE O A w n0 = e at *
    refine FnSpec.enter (S := Sy) 1 Tryz.func29 rfl rfl rfl Tryz.ntmps29 rfl rfl rfl rfl fun v0 => ?_
    (repeat' (first | (refine J.freezeO 3 rfl rfl sh_dxA rfl ?_) | ((refine CW.regU 0 20 ?_ (List.replicate 0 true ++ List.replicate 20 false) ?_ ?_ ?_); rfl; kernel_rfl; rfl; simp only [List.take_succ_cons, List.take_zero]) | (with_reducible refine JA.held ?_) | ((apply JAF.take (fuel := 19) (i := 0)); rfl; rfl; decide +kernel; exact (StepW.toS (StepW.mov (.inl rfl) FM.st))) | ((apply JAF.take (fuel := 18) (i := 1)); rfl; rfl; decide +kernel; exact (StepW.toS (w_nilR rfl rfl rfl))) | ((apply JAF.take (fuel := 17) (i := 2)); rfl; rfl; decide +kernel; exact (StepW.toS (by first | ((with_reducible apply w_fadSM) <;> rfl) | ((with_reducible apply w_fadS) <;> rfl) | exact w_fadM rfl rfl rfl rfl rfl rfl rfl rfl rfl | exact w_fadO rfl rfl rfl rfl rfl rfl rfl rfl | exact w_fadR rfl rfl rfl rfl rfl rfl rfl rfl rfl | exact w_fadDh rfl rfl rfl rfl rfl rfl rfl))) | ((apply JAF.take (fuel := 16) (i := 4)); rfl; rfl; decide +kernel; exact (StepW.toS (StepW.mov (.inl rfl) FM.st))) | ((apply JAF.take (fuel := 15) (i := 5)); rfl; rfl; decide +kernel; exact (StepW.toS (w_nilR rfl rfl rfl))) | ((apply JAF.take (fuel := 14) (i := 6)); rfl; rfl; decide +kernel; exact (StepW.toS (by first | ((with_reducible apply w_fadSM) <;> rfl) | ((with_reducible apply w_fadS) <;> rfl) | exact w_fadM rfl rfl rfl rfl rfl rfl rfl rfl rfl | exact w_fadO rfl rfl rfl rfl rfl rfl rfl rfl | exact w_fadR rfl rfl rfl rfl rfl rfl rfl rfl rfl | exact w_fadDh rfl rfl rfl rfl rfl rfl rfl))) | ((apply JAF.take (fuel := 13) (i := 8)); rfl; rfl; decide +kernel; exact (StepW.toS (by first | ((with_reducible apply w_fadSM) <;> rfl) | ((with_reducible apply w_fadS) <;> rfl) | exact w_fadM rfl rfl rfl rfl rfl rfl rfl rfl rfl | exact w_fadO rfl rfl rfl rfl rfl rfl rfl rfl | exact w_fadR rfl rfl rfl rfl rfl rfl rfl rfl rfl | exact w_fadDh rfl rfl rfl rfl rfl rfl rfl))) | ((apply JAF.take (fuel := 12) (i := 9)); rfl; rfl; decide +kernel; exact (by first | ((with_reducible apply h_ldD) <;> rfl) | ((with_reducible apply h_ldSA) <;> rfl) | ((with_reducible apply h_ldS) <;> rfl))) | ((apply JAF.take (fuel := 11) (i := 10)); rfl; rfl; decide +kernel; exact (StepW.toS (by first | ((with_reducible apply w_fadSM) <;> rfl) | ((with_reducible apply w_fadS) <;> rfl) | exact w_fadM rfl rfl rfl rfl rfl rfl rfl rfl rfl | exact w_fadO rfl rfl rfl rfl rfl rfl rfl rfl | exact w_fadR rfl rfl rfl rfl rfl rfl rfl rfl rfl | exact w_fadDh rfl rfl rfl rfl rfl rfl rfl))) | ((apply JAF.take (fuel := 10) (i := 11)); rfl; rfl; decide +kernel; exact (by first | ((with_reducible apply h_ldD) <;> rfl) | ((with_reducible apply h_ldSA) <;> rfl) | ((with_reducible apply h_ldS) <;> rfl))) | (with_reducible refine JAF.go ?_) | ((apply JAS.two (fuel := 9) (i := 3) (j := 7)); decide +kernel; rfl; rfl) | ((apply JAS.one (fuel := 8) (i := 7)); decide +kernel; rfl) | ((apply JAS.one (fuel := 8) (i := 3)); decide +kernel; rfl) | ((apply JAS.one (fuel := 7) (i := 12)); decide +kernel; rfl) | ((apply JAS.takeW (fuel := 6) (i := 13)); rfl; rfl; decide +kernel; exact (StepW.mov (.inl rfl) FM.st)) | ((apply JAS.takeW (fuel := 5) (i := 14)); rfl; rfl; decide +kernel; exact (StepW.ext FM.st)) | ((apply JAS.takeW (fuel := 4) (i := 15)); rfl; rfl; decide +kernel; exact (StepW.ext FM.st)) | ((apply JAS.takeW (fuel := 3) (i := 16)); rfl; rfl; decide +kernel; exact (StepW.ext FM.st)) | ((apply JAS.takeW (fuel := 2) (i := 17)); rfl; rfl; decide +kernel; exact (StepW.mov (.inr rfl) FM.st)) | ((apply JAS.takeW (fuel := 1) (i := 18)); rfl; rfl; decide +kernel; exact (StepW.mov (.inr rfl) FM.st)) | ((apply JAS.takeW (fuel := 0) (i := 19)); rfl; rfl; decide +kernel; exact (StepW.mov (.inr rfl) FM.st)) | ((apply JAS.done (fuel := 0)); kernel_rfl) | ((with_reducible apply J.step); rfl; ((with_reducible apply s_ldSA) <;> rfl)) | ((with_reducible apply J.step); rfl; ((with_reducible apply s_fadSM) <;> rfl)) | ((with_reducible apply J.step); rfl; ((with_reducible apply s_fadM) <;> rfl)) | ((with_reducible apply J.step); rfl; ((with_reducible apply s_fadFF) <;> rfl)) | refine w9x ?_ | ((with_reducible first | apply J.callP (hF) | apply J.callPQ (hF)); rfl; rfl; (repeat' (first | exact ArgsOk.nil | exact ArgOk.br rfl AV.noConfusion sh_hs | apply ArgsOk.cons | exact ArgOk.pl rfl rfl | exact ArgOk.br rfl AV.noConfusion (by first | rfl | exact sh_int | exact sh_rows | exact sh_rowsO | exact sh_box | exact sh_map (fun _ => rfl)))); (first | rfl | exact gn0 | exact gnI)) | ((with_reducible first | apply J.callP (hB) | apply J.callPQ (hB)); rfl; rfl; (repeat' (first | exact ArgsOk.nil | exact ArgOk.br rfl AV.noConfusion sh_hs | apply ArgsOk.cons | exact ArgOk.pl rfl rfl | exact ArgOk.br rfl AV.noConfusion (by first | rfl | exact sh_int | exact sh_rows | exact sh_rowsO | exact sh_box | exact sh_map (fun _ => rfl)))); (first | rfl | exact gn0 | exact gnI)) | (refine w9c ?_ ?_ <;> intro _ <;> try exact w9o) | (refine w9d ?_ ?_ <;> intro _ <;> try exact w9s) | (refine w9q ?_; intro bnil hbnil)))
    all_goals first | (exfalso; omega) | exact ⟨rfl, ⟨_, rfl, .refl _⟩, rfl, args_start (args_mu rfl rfl (args_pl rfl args_nil))⟩
  have c2 := Classical.not_not.1 c2
  rw [if_neg (not_not_intro c2)] at e1
  obtain ⟨g1, g2, g3, g4⟩ := bdE_ok c2
  have hTm := bT_mem (O := O) (A := A) (w := w) (room := n0)
  have hTl := bT_len (O := O) (A := A) (w := w) (room := n0)
  have hBok := bA_ok (w := w) c2 hA
  have hw8 := nm_len (w_name (w := w) (by omega) g2)
  have hCl := clean_spec O (bA O A w n0) hO hBok.2
  unfold resD at hCl
  rw [if_pos (clean_ok c2 hA)] at hCl
  have hT0 : (0 : Int) ≤ feeS O (bT O A w n0) ∧ feeS O (bT O A w n0) ≤ 1000000 * (bT O A w n0).length := feeS_bound g1 _ hTm
  have hfb : ∀ j, 0 ≤ feeS O ((bT O A w n0).take j) ∧ feeS O ((bT O A w n0).take j) ≤ 1000000 * ((bT O A w n0).take j).length := fun j => feeS_bound g1 _ fun x hx => hTm x (List.mem_of_mem_take hx)
  have hdl : ∀ j, ((dk (rk O w ((bT O A w n0).take j))).length : Int) ≤ 64 * (j : Int) := fun j => by
    induction j with
    | zero => simp [rk, dk]
    | succ j ih =>
      rcases Nat.lt_or_ge j (bT O A w n0).length with h | h
      · have hx : (bT O A w n0)[j]? = some (bT O A w n0)[j] := List.getElem?_eq_getElem h
        have hd := at_ok g1 (hTm _ (List.getElem_mem h))
        have := recD_len hd hw8.2
        rw [rk_take O w _ hx, dk_append, dk_one, List.length_append, frm_length]
        omega
      · rw [List.take_of_length_le (by omega)]
        rw [List.take_of_length_le (by omega)] at ih
        omega
  rw [e1]
  unfold bT bA at *
  have hrl : (rk O w (bdT O A w n0 1001)).length = (bdT O A w n0 1001).length := List.length_map ..
  have hrt : ∀ j, (rk O w ((bdT O A w n0 1001).take j)).length ≤ j := fun j => by unfold rk; rw [List.length_map, List.length_take]; omega
  have hget : ∀ j x, (bdT O A w n0 1001)[j]? = some x → (rk O w (bdT O A w n0 1001))[j]? = some (recD (at0 O x) w) := fun j x hx => by unfold rk; rw [List.getElem?_map, hx]; rfl
  have htk : (bdT O A w n0 1001).take (bdT O A w n0 1001).length = bdT O A w n0 1001 := List.take_length
  have hap : ∀ j x, (bdT O A w n0 1001)[j]? = some x → k ++ dk (rk O w ((bdT O A w n0 1001).take (j + 1))) = k ++ dk (rk O w ((bdT O A w n0 1001).take j)) ++ frm (recD (at0 O x) w) := fun j x hx => by rw [rk_take O w _ hx, dk_append, dk_one, List.append_assoc]
  have hmono : ∀ j, (dk (rk O w ((bdT O A w n0 1001).take j))).length ≤ (dk (rk O w (bdT O A w n0 1001))).length := fun j => by rw [← rk_take_comm]; exact dk_mono _ _
  generalize bdT O A w n0 1001 = T at *
  generalize bdL O A w n0 1001 = B at *
  rw [c2] at hB
  refine FnSpec.enter (S := Sy) 1 Tryz.func29 rfl rfl rfl Tryz.ntmps29 rfl rfl rfl rfl fun v0 => ?_
  (repeat' (first | (refine J.freezeO 3 rfl rfl sh_dxA rfl ?_) | (refine CW.cut (c := .region 3 _ _) [(0, .av (hsV A O k n)), (3, .av (.pt false (dxA kd n0 w dl).cells)), (4, .av (.pt true [.int 0, .int 0])), (6, .av (.sl true 1 ((T).map .int))), (7, .av (.sl true 3 (B.map acA))), (8, .av (.int (0)))] ?_ ?_) | ((refine ⟨by first | rfl | trivial, ?_⟩); (repeat' (first | exact trivial | rfl | refine And.intro ?_ ?_ | exact int_congr (by omega))); done) | ((refine CW.regU 0 20 ?_ (List.replicate 0 true ++ List.replicate 20 false) ?_ ?_ ?_); rfl; kernel_rfl; rfl; simp only [List.take_succ_cons, List.take_zero]) | (with_reducible refine JA.held ?_) | ((apply JAF.take (fuel := 19) (i := 0)); rfl; rfl; decide +kernel; exact (StepW.toS (StepW.mov (.inl rfl) FM.st))) | ((apply JAF.take (fuel := 18) (i := 1)); rfl; rfl; decide +kernel; exact (StepW.toS (w_nilR rfl rfl rfl))) | ((apply JAF.take (fuel := 17) (i := 2)); rfl; rfl; decide +kernel; exact (StepW.toS (by first | ((with_reducible apply w_fadSM) <;> rfl) | ((with_reducible apply w_fadS) <;> rfl) | exact w_fadM rfl rfl rfl rfl rfl rfl rfl rfl rfl | exact w_fadO rfl rfl rfl rfl rfl rfl rfl rfl | exact w_fadR rfl rfl rfl rfl rfl rfl rfl rfl rfl | exact w_fadDh rfl rfl rfl rfl rfl rfl rfl))) | ((apply JAF.take (fuel := 16) (i := 4)); rfl; rfl; decide +kernel; exact (StepW.toS (StepW.mov (.inl rfl) FM.st))) | ((apply JAF.take (fuel := 15) (i := 5)); rfl; rfl; decide +kernel; exact (StepW.toS (w_nilR rfl rfl rfl))) | ((apply JAF.take (fuel := 14) (i := 6)); rfl; rfl; decide +kernel; exact (StepW.toS (by first | ((with_reducible apply w_fadSM) <;> rfl) | ((with_reducible apply w_fadS) <;> rfl) | exact w_fadM rfl rfl rfl rfl rfl rfl rfl rfl rfl | exact w_fadO rfl rfl rfl rfl rfl rfl rfl rfl | exact w_fadR rfl rfl rfl rfl rfl rfl rfl rfl rfl | exact w_fadDh rfl rfl rfl rfl rfl rfl rfl))) | ((apply JAF.take (fuel := 13) (i := 8)); rfl; rfl; decide +kernel; exact (StepW.toS (by first | ((with_reducible apply w_fadSM) <;> rfl) | ((with_reducible apply w_fadS) <;> rfl) | exact w_fadM rfl rfl rfl rfl rfl rfl rfl rfl rfl | exact w_fadO rfl rfl rfl rfl rfl rfl rfl rfl | exact w_fadR rfl rfl rfl rfl rfl rfl rfl rfl rfl | exact w_fadDh rfl rfl rfl rfl rfl rfl rfl))) | ((apply JAF.take (fuel := 12) (i := 9)); rfl; rfl; decide +kernel; exact (by first | ((with_reducible apply h_ldD) <;> rfl) | ((with_reducible apply h_ldSA) <;> rfl) | ((with_reducible apply h_ldS) <;> rfl))) | ((apply JAF.take (fuel := 11) (i := 10)); rfl; rfl; decide +kernel; exact (StepW.toS (by first | ((with_reducible apply w_fadSM) <;> rfl) | ((with_reducible apply w_fadS) <;> rfl) | exact w_fadM rfl rfl rfl rfl rfl rfl rfl rfl rfl | exact w_fadO rfl rfl rfl rfl rfl rfl rfl rfl | exact w_fadR rfl rfl rfl rfl rfl rfl rfl rfl rfl | exact w_fadDh rfl rfl rfl rfl rfl rfl rfl))) | ((apply JAF.take (fuel := 10) (i := 11)); rfl; rfl; decide +kernel; exact (by first | ((with_reducible apply h_ldD) <;> rfl) | ((with_reducible apply h_ldSA) <;> rfl) | ((with_reducible apply h_ldS) <;> rfl))) | (with_reducible refine JAF.go ?_) | ((apply JAS.two (fuel := 9) (i := 3) (j := 7)); decide +kernel; rfl; rfl) | ((apply JAS.one (fuel := 8) (i := 7)); decide +kernel; rfl) | ((apply JAS.one (fuel := 8) (i := 3)); decide +kernel; rfl) | ((apply JAS.one (fuel := 7) (i := 12)); decide +kernel; rfl) | ((apply JAS.takeW (fuel := 6) (i := 13)); rfl; rfl; decide +kernel; exact (StepW.mov (.inl rfl) FM.st)) | ((apply JAS.takeW (fuel := 5) (i := 14)); rfl; rfl; decide +kernel; exact (StepW.ext FM.st)) | ((apply JAS.takeW (fuel := 4) (i := 15)); rfl; rfl; decide +kernel; exact (StepW.ext FM.st)) | ((apply JAS.takeW (fuel := 3) (i := 16)); rfl; rfl; decide +kernel; exact (StepW.ext FM.st)) | ((apply JAS.takeW (fuel := 2) (i := 17)); rfl; rfl; decide +kernel; exact (StepW.mov (.inr rfl) FM.st)) | ((apply JAS.takeW (fuel := 1) (i := 18)); rfl; rfl; decide +kernel; exact (StepW.mov (.inr rfl) FM.st)) | ((apply JAS.takeW (fuel := 0) (i := 19)); rfl; rfl; decide +kernel; exact (StepW.mov (.inr rfl) FM.st)) | ((apply JAS.done (fuel := 0)); kernel_rfl) | ((with_reducible apply J.step); rfl; ((with_reducible apply s_ldSA) <;> rfl)) | ((with_reducible apply J.step); rfl; ((with_reducible apply s_fadSM) <;> rfl)) | ((with_reducible apply J.step); rfl; ((with_reducible apply s_fadM) <;> rfl)) | ((with_reducible apply J.step); rfl; ((with_reducible apply s_fadFF) <;> rfl)) | ((with_reducible apply J.step); rfl; ((with_reducible apply s_ldFb) <;> (first | rfl | exact AV.noConfusion))) | refine w9x ?_ | ((with_reducible first | apply J.callP (hF) | apply J.callPQ (hF)); rfl; rfl; (repeat' (first | exact ArgsOk.nil | exact ArgOk.br rfl AV.noConfusion sh_hs | apply ArgsOk.cons | exact ArgOk.pl rfl rfl | exact ArgOk.br rfl AV.noConfusion (by first | rfl | exact sh_int | exact sh_rows | exact sh_rowsO | exact sh_box | exact sh_map (fun _ => rfl)))); (first | rfl | exact gn0 | exact gnI)) | ((with_reducible first | apply J.callP (hB) | apply J.callPQ (hB)); rfl; rfl; (repeat' (first | exact ArgsOk.nil | exact ArgOk.br rfl AV.noConfusion sh_hs | apply ArgsOk.cons | exact ArgOk.pl rfl rfl | exact ArgOk.br rfl AV.noConfusion (by first | rfl | exact sh_int | exact sh_rows | exact sh_rowsO | exact sh_box | exact sh_map (fun _ => rfl)))); (first | rfl | exact gn0 | exact gnI)) | ((with_reducible first | apply J.callP (hZ) | apply J.callPQ (hZ)); rfl; rfl; (repeat' (first | exact ArgsOk.nil | exact ArgOk.br rfl AV.noConfusion sh_hs | apply ArgsOk.cons | exact ArgOk.pl rfl rfl | exact ArgOk.br rfl AV.noConfusion (by first | rfl | exact sh_int | exact sh_rows | exact sh_rowsO | exact sh_box | exact sh_map (fun _ => rfl)))); (first | rfl | exact gn0 | exact gnI)) | (refine w9c ?_ ?_ <;> intro _ <;> try exact w9o) | (refine w9d ?_ ?_ <;> intro _ <;> try exact w9s) | (refine w9q ?_; intro bnil hbnil)))
  all_goals first | (exfalso; omega) | skip
  refine CW.leS (x := .nil) 9 rfl (AV.le.nil (o := true) (c := 1)) ?_
  refine CW.loop (fun j : Nat => [(53, .ref 6), (0, .av (hsV A O k n)), (3, .av (.pt false (dxA kd n0 w dl).cells)), (4, .av (.pt true [.int 0, .int 0])), (6, .av (.sl true 1 ((T).map .int))), (7, .av (.sl true 3 (B.map acA))), (9, .av (strs true (rk O w (T.take j)))), (10, .av (.int ((k.length : Int) + ((dk (rk O w (T.take j))).length : Nat)))), (12, .av (.int (feeS O (T.take j)))), (54, .av (.int (T.length))), (55, .av (.int (j)))]) (fun j => j ≤ T.length) (fun j => T.length - j) (0) ?_ (by (repeat' (first | exact trivial | rfl | refine And.intro ?_ ?_ | exact int_congr (by omega) | exact int_congr (by dsimp only; omega) | exact ints_congr (by first | assumption | exact Eq.symm (by assumption)) | exact int_congr (by assumption) | exact bool_congr (by first | assumption | exact Eq.symm (by assumption)) | exact map_congr' (by first | assumption | exact Eq.symm (by assumption)) | exact int_congr (by simp [rk, dk])))) ?_
  · exact Nat.zero_le _
  intro j hj
  by_cases hlt : j < T.length
  · have hx : T[j]? = some T[j] := List.getElem?_eq_getElem hlt
    obtain ⟨i, hi, ei⟩ := hTm _ (List.getElem_mem hlt)
    rw [ei] at hx
    have hd := at_ok g1 (x := (i : Int)) ⟨i, hi, rfl⟩
    have hat : at0 O (i : Int) = O[i] := by unfold at0; rw [Int.toNat_natCast]; exact getD_of hi
    have h1 := rk_take O w T hx
    have h2 := fee_take O T hx
    have h3 : ((dk (rk O w (T.take (j + 1)))).length : Int) = (dk (rk O w (T.take j))).length + ((recD (at0 O (i : Int)) w).length + 3) := by rw [h1, dk_append, dk_one, List.length_append, frm_length]; omega
    have hD := deal_spec (at0 O (i : Int)) w hd hw8.2
    have hrd := recD_len hd hw8.2
    have hOi : O[i]? = some O[i] := List.getElem?_eq_getElem hi
    have hfe := hd.fee
    have hf1 := hfb j
    have hd1 := hdl j
    have hrj := hrt j
    have htl : (T.take j).length ≤ j := by rw [List.length_take]; omega
    rw [hat] at *
    unfold fee at h2
    generalize O[i] = d at *
    generalize recD d w = rc at *
    generalize (dk (rk O w (T.take j))).length = sz at *
    generalize feeS O (T.take j) = fs at *
    generalize rk O w (T.take j) = rs at *
    (repeat' (first | (refine J.freezeO 3 rfl rfl sh_dxA rfl ?_) | ((with_reducible apply J.step); rfl; ((with_reducible apply s_ldSA) <;> rfl)) | ((with_reducible apply J.step); rfl; ((with_reducible apply s_fadSM) <;> rfl)) | ((with_reducible apply J.step); rfl; ((with_reducible apply s_fadM) <;> rfl)) | ((with_reducible apply J.step); rfl; ((with_reducible apply s_fadFF) <;> rfl)) | refine w9x ?_ | refine w9p (hD) ?_ | (refine w9c ?_ ?_ <;> intro _ <;> try exact w9o) | (refine w9d ?_ ?_ <;> intro _ <;> try exact w9s) | (refine w9q ?_; intro bnil hbnil)))
    all_goals first | (exfalso; omega) | skip
    refine ⟨j+1, ?_, by first | omega | (simp only; omega), by exact w9a⟩
    all_goals omega
  · obtain rfl : j = T.length := by omega
    rw [htk]
    by_cases c3 : 4000 < k.length + (dk (rk O w T)).length
    · rw [if_pos c3, if_neg (by decide), if_neg (by decide), if_neg (by decide), if_neg (by decide), if_neg (by decide)]
      generalize rk O w T = rs at *
      (repeat' (first | (refine J.freezeO 3 rfl rfl sh_dxA rfl ?_) | ((with_reducible apply J.step); rfl; ((with_reducible apply s_ldSA) <;> rfl)) | ((with_reducible apply J.step); rfl; ((with_reducible apply s_fadSM) <;> rfl)) | ((with_reducible apply J.step); rfl; ((with_reducible apply s_fadM) <;> rfl)) | ((with_reducible apply J.step); rfl; ((with_reducible apply s_fadFF) <;> rfl)) | refine w9x ?_ | (refine w9c ?_ ?_ <;> intro _ <;> try exact w9o) | (refine w9d ?_ ?_ <;> intro _ <;> try exact w9s) | (refine w9q ?_; intro bnil hbnil)))
      all_goals first | (exfalso; omega) | exact ⟨rfl, ⟨_, rfl, .refl _⟩, rfl, args_start (args_mu rfl rfl (args_pl rfl args_nil))⟩
    · rw [if_neg c3, if_pos rfl, if_pos rfl, if_pos rfl, if_pos rfl, if_pos rfl]
      generalize hrs : rk O w T = rs at *
      (repeat' (first | (refine J.freezeO 3 rfl rfl sh_dxA rfl ?_) | ((with_reducible apply J.step); rfl; ((with_reducible apply s_ldSA) <;> rfl)) | ((with_reducible apply J.step); rfl; ((with_reducible apply s_fadSM) <;> rfl)) | ((with_reducible apply J.step); rfl; ((with_reducible apply s_fadM) <;> rfl)) | ((with_reducible apply J.step); rfl; ((with_reducible apply s_fadFF) <;> rfl)) | refine w9x ?_ | (refine w9c ?_ ?_ <;> intro _ <;> try exact w9o) | (refine w9d ?_ ?_ <;> intro _ <;> try exact w9s) | (refine w9q ?_; intro bnil hbnil)))
      all_goals first | (exfalso; omega) | skip
      refine CW.loop (fun j : Nat => [(92, .ref 9), (0, .av (hsV A O (k ++ dk (rk O w (T.take j))) n)), (4, .av (.pt true [.int 0, .int 0])), (6, .av (.sl true 1 ((T).map .int))), (7, .av (.sl true 3 (B.map acA))), (9, .av (strs true rs)), (12, .av (.int (feeS O T))), (93, .av (.int (T.length))), (94, .av (.int (j)))]) (fun j => j ≤ T.length) (fun j => T.length - j) (0) ?_ (by (repeat' (first | exact trivial | rfl | refine And.intro ?_ ?_ | exact int_congr (by omega) | exact int_congr (by dsimp only; omega) | exact ints_congr (by first | assumption | exact Eq.symm (by assumption)) | exact int_congr (by assumption) | exact bool_congr (by first | assumption | exact Eq.symm (by assumption)) | exact map_congr' (by first | assumption | exact Eq.symm (by assumption)) | (simp only [List.take_zero, rk, List.map_nil, dk, List.append_nil]) | exact int_congr (by rw [hrl])))) ?_
      · exact Nat.zero_le _
      intro j hj
      by_cases hlt : j < T.length
      · have hx : T[j]? = some T[j] := List.getElem?_eq_getElem hlt
        obtain ⟨i, hi, ei⟩ := hTm _ (List.getElem_mem hlt)
        rw [ei] at hx
        have hd := at_ok g1 (x := (i : Int)) ⟨i, hi, rfl⟩
        have hrd := recD_len hd hw8.2
        have hg := hget _ _ hx
        have ha := hap _ _ hx
        have hm1 := hmono (j + 1)
        rw [rk_take O w T hx, dk_append, dk_one, List.length_append, frm_length] at hm1
        have hm2 : (k ++ dk (rk O w (T.take j))).length ≤ 4000 := by rw [List.length_append]; omega
        have hP := logAppend_spec (k ++ dk (rk O w (T.take j))) (recD (at0 O (i : Int)) w) n hm2 (by omega)
        have ea : appE (k ++ dk (rk O w (T.take j))) (recD (at0 O (i : Int)) w) = 0 := by unfold appE; rw [if_neg (by omega), if_neg (by rw [List.length_append]; omega)]
        have ed : appD (k ++ dk (rk O w (T.take j))) (recD (at0 O (i : Int)) w) = k ++ dk (rk O w (T.take (j + 1))) := by unfold appD; rw [if_neg (by omega), if_neg (by rw [List.length_append]; omega), ha]
        rw [ea, ed] at hP
        generalize recD (at0 O (i : Int)) w = rc at *
        generalize k ++ dk (rk O w (T.take j)) = kj at *
        generalize hkj1 : k ++ dk (rk O w (T.take (j + 1))) = kj1 at *
        (repeat' (first | (refine J.freezeO 3 rfl rfl sh_dxA rfl ?_) | ((with_reducible apply J.step); rfl; ((with_reducible apply s_ldSA) <;> rfl)) | ((with_reducible apply J.step); rfl; ((with_reducible apply s_fadSM) <;> rfl)) | ((with_reducible apply J.step); rfl; ((with_reducible apply s_fadM) <;> rfl)) | ((with_reducible apply J.step); rfl; ((with_reducible apply s_fadFF) <;> rfl)) | ((with_reducible apply J.step); rfl; ((with_reducible apply s_ldFb) <;> (first | rfl | exact AV.noConfusion))) | refine w9x ?_ | refine w9f (hP) ?_ | (refine w9c ?_ ?_ <;> intro _ <;> try exact w9o) | (refine w9d ?_ ?_ <;> intro _ <;> try exact w9s) | (refine w9q ?_; intro bnil hbnil)))
        all_goals first | (exfalso; omega) | skip
        refine ⟨j+1, ?_, by first | omega | (simp only; omega), by (repeat' (first | exact trivial | rfl | refine And.intro ?_ ?_ | exact int_congr (by omega) | exact int_congr (by dsimp only; omega) | exact ints_congr (by first | assumption | exact Eq.symm (by assumption)) | exact int_congr (by assumption) | exact bool_congr (by first | assumption | exact Eq.symm (by assumption)) | exact map_congr' (by first | assumption | exact Eq.symm (by assumption)) | exact congrArg (fun z => TV.av (hsV A O z n)) hkj1.symm))⟩
        all_goals omega
      · obtain rfl : j = T.length := by omega
        rw [htk, hrs]
        generalize k ++ dk rs = kk at *
        (repeat' (first | (refine J.freezeO 3 rfl rfl sh_dxA rfl ?_) | (refine J.freezeO 7 rfl rfl (sh_map (g := acA) (fun _ => rfl)) rfl ?_) | (refine J.freezeO 117 rfl rfl (sh_map (g := dlA) (fun _ => rfl)) rfl ?_) | ((with_reducible apply J.step); rfl; ((with_reducible apply s_ldSA) <;> rfl)) | ((with_reducible apply J.step); rfl; ((with_reducible apply s_fadSM) <;> rfl)) | ((with_reducible apply J.step); rfl; ((with_reducible apply s_fadM) <;> rfl)) | ((with_reducible apply J.step); rfl; ((with_reducible apply s_fadFF) <;> rfl)) | refine w9x ?_ | refine w9p (hCl) ?_ | (refine w9c ?_ ?_ <;> intro _ <;> try exact w9o) | (refine w9d ?_ ?_ <;> intro _ <;> try exact w9s) | (refine w9q ?_; intro bnil hbnil)))
        all_goals first | (exfalso; omega) | exact ⟨rfl, ⟨_, rfl, .refl _⟩, rfl, args_start (args_mu rfl rfl (args_pl rfl args_nil))⟩
end
end Go.Proofs.YtkkcnppgcnmikaaGreatDoor
