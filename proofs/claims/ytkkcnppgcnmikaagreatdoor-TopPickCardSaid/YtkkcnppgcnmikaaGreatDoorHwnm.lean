/- Offers: Clean. -/
import Derived.Test.YtkkcnppgcnmikaaGreatDoorHsnm
import Derived.Test.YtkkcnppgcnmikaaGreatDoorHunm
import Derived.Test.YtkkcnppgcnmikaaGreatDoorLhnm
import Derived.Test.YtkkcnppgcnmikaaGreatDoorZdnm
import Derived.Test.YtkkcnppgcnmikaaGreatDoorJdnm
import Derived.Test.YtkkcnppgcnmikaaGreatDoorLgnm
namespace Go.Proofs.YtkkcnppgcnmikaaGreatDoor
open Go FM Go.Proofs
set_option maxRecDepth 10000
set_option maxHeartbeats 3200000
set_option linter.all false
def tA (d : Dl) (a : Ac) : Bool := decide (a.1 = d.1) && decide (d.2.2.1 < a.2.2.1)
/-- Is the offer too late? -/
def late (L : List Ac) (d : Dl) : Bool := decide (0 ≤ fidx (tA d) L 0)
theorem clean11_spec (a : Ac) (d : Dl) : FnSpec Sy.P 130 [acA a, .pt false [.str d.1, .str d.2.1, .int d.2.2.1, .int d.2.2.2.1, .int d.2.2.2.2.1, .int d.2.2.2.2.2.1]] [acA a, .pt false [.str d.1, .str d.2.1, .int d.2.2.1, .int d.2.2.2.1, .int d.2.2.2.2.1, .int d.2.2.2.2.2.1]] (.bool (tA d a)) := by
  unfold tA
  obtain ⟨s, t, n, m, f, z, u⟩ := d
  obtain ⟨s', m', n', u'⟩ := a
  refine FnSpec.enter (S := Sy) 0 Tryz.func130 rfl rfl rfl Tryz.ntmps130 rfl rfl rfl rfl fun v0 => ?_
  by_cases h : s' = s
  · rw [decide_eq_true h, Bool.true_and]
    (repeat' (first | refine w9x ?_ | (refine w9c ?_ ?_ <;> intro _ <;> try exact w9o) | (refine w9d ?_ ?_ <;> intro _ <;> try exact w9s) | (refine w9q ?_; intro bnil hbnil)))
    all_goals first | (exfalso; contradiction) | exact .mk rfl rfl rfl
  · rw [decide_eq_false h, Bool.false_and]
    (repeat' (first | refine w9x ?_ | (refine w9c ?_ ?_ <;> intro _ <;> try exact w9o) | (refine w9d ?_ ?_ <;> intro _ <;> try exact w9s) | (refine w9q ?_; intro bnil hbnil)))
    all_goals first | (exfalso; contradiction) | exact .mk rfl rfl rfl
theorem clean11_arg {d : Dl} {m : Nat} {v : Nat → Value} {N : Nat} {σ : St} {t q : Nat} (ht : FM.get σ t = .clo 130 [q]) (h1 : FM.get σ q = .av (.pt true [.str d.1, .str d.2.1, .int d.2.2.1, .int d.2.2.2.1, .int d.2.2.2.2.1, .int d.2.2.2.2.2.1])) : ArgOk (Sy.fixed m v) N σ (.tmp t) true (fnAc (fun _ => True) (tA d)) :=
  cloAc (zs := [.pt false [.str d.1, .str d.2.1, .int d.2.2.1, .int d.2.2.2.1, .int d.2.2.2.2.1, .int d.2.2.2.2.2.1]]) ht (.cons h1 rfl .nil) (clean11_spec ([], 0, 0, ()) d0).ok fun x _ => clean11_spec x d
theorem containsAc_spec (l : List Ac) (p : Ac → Bool) (hl : l.length ≤ 9223372036854775807) : FnSpec Sy.P 129 [.sl false 3 (l.map acA), fnAc (fun _ => True) p] [.sl false 3 (l.map acA), fnAc (fun _ => True) p] (.bool (decide (0 ≤ fidx p l 0))) := by
  have hI := indexAc_spec l (fun _ => True) p hl (fun _ _ => trivial)
  refine FnSpec.enter (S := Sy) 0 Tryz.func129 rfl rfl rfl Tryz.ntmps129 rfl rfl rfl rfl fun v0 => ?_
  (repeat' (first | refine w9x ?_ | refine w9p (hI) ?_ | (refine w9c ?_ ?_ <;> intro _ <;> try exact w9o) | (refine w9d ?_ ?_ <;> intro _ <;> try exact w9s) | (refine w9q ?_; intro bnil hbnil)))
  exact .mk rfl rfl rfl
theorem clean1_spec (d : Dl) (L : List Ac) (hl : L.length ≤ 9223372036854775807) : FnSpec Sy.P 128 [dlA d, .pt false [.sl false 3 (L.map acA)]] [dlA d, .pt false [.sl false 3 (L.map acA)]] (.bool (late L d)) := by
  have hI := containsAc_spec L (tA d) hl
  unfold late
  refine FnSpec.enter (S := Sy) 0 Tryz.func128 rfl rfl rfl Tryz.ntmps128 rfl rfl rfl rfl fun v0 => ?_
  (repeat' (first | ((with_reducible apply J.step); rfl; (exact s_mkf (caps := [2]) rfl rfl)) | refine w9x ?_ | ((with_reducible first | apply J.callP (hI) | apply J.callPQ (hI)); rfl; rfl; (repeat' (first | exact ArgsOk.nil | exact clean11_arg rfl rfl | apply ArgsOk.cons | exact ArgOk.pl rfl rfl | exact ArgOk.br rfl AV.noConfusion (by first | rfl | exact sh_int | exact sh_rows | exact sh_rowsO | exact sh_box | exact sh_map (fun _ => rfl)))); (first | rfl | exact gn0 | exact gnI)) | (refine w9c ?_ ?_ <;> intro _ <;> try exact w9o) | (refine w9d ?_ ?_ <;> intro _ <;> try exact w9s) | (refine w9q ?_; intro bnil hbnil)))
  exact .mk rfl rfl rfl
def clE (l : List Dl) (L : List Ac) : Int := if ofE l ≠ 0 then ofE l else if acE L ≠ 0 then acE L else 0
def clM (l : List Dl) (L : List Ac) : List Dl := l.filter fun d => !late L d
theorem sh_box1 {L : List Ac} : (AV.pt true [.sl false 3 (L.map acA)]).sh = .pt false [.sl false 3 (L.map acA)] := by
  show AV.pt false [AV.sl false 3 (AV.shL (L.map acA))] = _
  rw [shL_map acA L acA (fun _ => rfl)]
theorem clean1_argM {L : List Ac} {m : Nat} {v : Nat → Value} {N : Nat} {σ : St} {ms : List (Nat × Nat)} {i t q : Nat} (hl : L.length ≤ 9223372036854775807) (ht : FM.get σ t = .clo 128 [q]) (h1 : FM.get σ q = .av (.pt true [.sl false 3 (L.map acA)])) (hm : idxM ms q = none) : ArgM (Sy.fixed m v) N σ ms i (.tmp t) (fnDl (fun _ => True) (late L)) :=
  ArgM.clo (zs := [.pt false [.sl false 3 (L.map acA)]]) rfl ht (.cons h1 hm sh_box1 .nil) (clean1_spec d0 [] (by simp)).ok (fun ws hd => by obtain ⟨x, rfl, hx⟩ := hd; exact clean1_spec x L hl) (fun ws hd => by obtain ⟨x, rfl, hx⟩ := hd; rfl)
theorem clean_spec (l : List Dl) (L : List Ac) (hl : DlL l) (hL : AcL L) : FnSpec Sy.P 70 [.sl false 6 (l.map dlA), .sl false 3 (L.map acA)] [.sl false 6 (l.map dlA), .sl false 3 (L.map acA)] (resD (clM l L) (clE l L)) := by
  have hC := qcheck_spec l hl
  have hC2 := check_spec L hL
  have hCr := ofE_range l
  have hCr2 := acE_range L
  unfold clE resD clM
  by_cases c1 : ofE l = 0
  · have hok := ofE_ok c1
    rw [c1] at hC
    rw [if_neg (not_not_intro c1)]
    have hl20 := hok.len
    have hCl := cloneDl_spec l (by omega)
    by_cases c2 : acE L = 0
    · rw [if_neg (not_not_intro c2), if_pos rfl]
      rw [c2] at hC2
      have hDf := delf_spec l (fun _ => True) (late L) (by omega) (fun _ _ => trivial)
      refine FnSpec.enter (S := Sy) 0 Tryz.func70 rfl rfl rfl Tryz.ntmps70 rfl rfl rfl rfl fun v0 => ?_
      (repeat' (first | (refine J.callM1 hDf rfl rfl rfl rfl rfl (.cons (clean1_argM hL.len rfl rfl rfl) .nil) noSh_dls .dead ?_) | ((with_reducible apply J.step); rfl; (exact s_mkf (caps := [3]) rfl rfl)) | refine w9x ?_ | refine w9p (hC) ?_ | refine w9p (hC2) ?_ | refine w9p (hCl) ?_ | (refine w9c ?_ ?_ <;> intro _ <;> try exact w9o) | (refine w9d ?_ ?_ <;> intro _ <;> try exact w9s) | (refine w9q ?_; intro bnil hbnil)))
      all_goals first | (exfalso; omega) | exact .mk rfl rfl rfl
    · rw [if_pos c2, if_neg c2]
      generalize acE L = e at *
      refine FnSpec.enter (S := Sy) 0 Tryz.func70 rfl rfl rfl Tryz.ntmps70 rfl rfl rfl rfl fun v0 => ?_
      (repeat' (first | refine w9x ?_ | refine w9p (hC) ?_ | refine w9p (hC2) ?_ | (refine w9c ?_ ?_ <;> intro _ <;> try exact w9o) | (refine w9d ?_ ?_ <;> intro _ <;> try exact w9s) | (refine w9q ?_; intro bnil hbnil)))
      all_goals first | (exfalso; omega) | exact .mk rfl rfl rfl
  · rw [if_pos c1, if_neg c1]
    generalize ofE l = e at *
    refine FnSpec.enter (S := Sy) 0 Tryz.func70 rfl rfl rfl Tryz.ntmps70 rfl rfl rfl rfl fun v0 => ?_
    (repeat' (first | refine w9x ?_ | refine w9p (hC) ?_ | (refine w9c ?_ ?_ <;> intro _ <;> try exact w9o) | (refine w9d ?_ ?_ <;> intro _ <;> try exact w9s) | (refine w9q ?_; intro bnil hbnil)))
    all_goals first | (exfalso; omega) | exact .mk rfl rfl rfl
end Go.Proofs.YtkkcnppgcnmikaaGreatDoor

/- A house: what each deed does, as laws on lists. No program in sight. -/
namespace Go.Proofs.YtkkcnppgcnmikaaGreatDoor
open Go FM Go.Proofs
set_option maxRecDepth 10000
set_option linter.all false
/-! ### open -/
def onE (A : List Ac) (k w : Str) (m : Int) : Int := if opE A w m ≠ 0 then opE A w m else appE k (recO w m)
def onA (A : List Ac) (k w : Str) (m : Int) : List Ac := if onE A k w m = 0 then opM A w m else A
def onD (A : List Ac) (k w : Str) (m : Int) : Str := if onE A k w m = 0 then k ++ frm (recO w m) else k
theorem opE_ok {A : List Ac} {w : Str} {m : Int} (h : opE A w m = 0) : acE A = 0 ∧ nmB w = true ∧ (0 ≤ m ∧ m ≤ 1000000) ∧ A.length < 6 := by
  unfold opE at h
  by_cases c1 : acE A ≠ 0
  · rw [if_pos c1] at h; exact absurd h c1
  rw [if_neg c1] at h
  by_cases c2 : nmB w = false
  · rw [if_pos c2] at h; cases h
  rw [if_neg c2] at h
  by_cases c3 : wiB m = false
  · rw [if_pos c3] at h; cases h
  rw [if_neg c3] at h
  by_cases c4 : 0 ≤ fA A w
  · rw [if_pos c4] at h; cases h
  rw [if_neg c4] at h
  by_cases c5 : 6 ≤ A.length
  · rw [if_pos c5] at h; cases h
  have c3 : wiB m = true := by simpa using c3
  unfold wiB at c3
  rw [decide_eq_true_eq] at c3
  exact ⟨Classical.not_not.1 c1, by simpa using c2, c3, by omega⟩
theorem recO_len {w : Str} {m : Int} (h : nmB w = true) (hm : 0 ≤ m ∧ m ≤ 1000000) : (recO w m).length ≤ 20 := by
  have h1 := nm_len h
  have h2 := Zp.itoa_len m hm.1 hm.2
  unfold recO
  simp only [List.length_append, List.length_cons, List.length_nil]; omega
/-! ### build -/
abbrev bT (O : List Dl) (A : List Ac) (w : Str) (room : Int) : List Int := bdT O A w room 1001
abbrev bA (O : List Dl) (A : List Ac) (w : Str) (room : Int) : List Ac := bdL O A w room 1001
/-- The records of what is taken in. -/
def rk (O : List Dl) (w : Str) (T : List Int) : List Str := T.map fun x => recD (at0 O x) w
def feeS (O : List Dl) : List Int → Int
  | [] => 0
  | x :: T => fee (at0 O x) + feeS O T
theorem feeS_app (O : List Dl) : ∀ (a b : List Int), feeS O (a ++ b) = feeS O a + feeS O b
  | [], b => by simp [feeS]
  | x :: a, b => by rw [List.cons_append, feeS, feeS, feeS_app O a b]; omega
theorem bld_mem {l : List Dl} {w : Str} : ∀ (f : Nat) (L : List Ac) (room : Int), ∀ x ∈ (bld l w f L room).1, ∃ i : Nat, i < l.length ∧ x = (i : Int)
  | 0, L, room, x, h => by simp [bld] at h
  | f + 1, L, room, x, h => by
    by_cases c : nxE l L w room = 0
    · obtain ⟨_, _, _, i, hi, hk, hd, _, _, _⟩ := nx_at c
      rw [bld_step c hk hd] at h
      rcases List.mem_cons.1 h with rfl | h
      · exact ⟨i, hi, rfl⟩
      · exact bld_mem f _ _ x h
    · rw [bld_end c] at h; cases h
theorem bT_mem {O : List Dl} {A : List Ac} {w : Str} {room : Int} : ∀ x ∈ bT O A w room, ∃ i : Nat, i < O.length ∧ x = (i : Int) := by
  intro x h
  unfold bT bdT at h
  split at h
  · exact bld_mem _ _ _ x h
  · cases h
theorem bdE_ok {O : List Dl} {A : List Ac} {w : Str} {room : Int} (h : bdE O A w room = 0) : ofE O = 0 ∧ acE A = 0 ∧ 0 ≤ room ∧ room ≤ 1000 := by
  unfold bdE at h
  by_cases c : nxE O A w room = 0 ∨ nxE O A w room = 4
  · exact nxE_04 c
  · rw [if_neg c] at h; exact absurd (.inl h) c
theorem bT_len {O : List Dl} {A : List Ac} {w : Str} {room : Int} : ((bT O A w room).length : Int) ≤ 1000 := by
  unfold bT bdT
  split
  · rename_i c
    obtain ⟨_, _, h1, h2⟩ := bdE_ok c
    have := bld_len (l := O) (w := w) 1001 A room h1
    omega
  · simp
theorem bld_ac {l : List Dl} {w : Str} : ∀ (f : Nat) (L : List Ac) (room : Int), acE L = 0 → AcL L → acE (bld l w f L room).2 = 0 ∧ AcL (bld l w f L room).2
  | 0, L, room, h, hl => ⟨h, hl⟩
  | f + 1, L, room, h, hl => by
    by_cases c : nxE l L w room = 0
    · obtain ⟨_, _, _, i, hi, hk, hd, htk, _, _⟩ := nx_at c
      rw [bld_step c hk hd]
      exact bld_ac f _ _ (tkE_ok htk).2.2 (tkM_L hl)
    · rw [bld_end c]; exact ⟨h, hl⟩
theorem bA_ok {O : List Dl} {A : List Ac} {w : Str} {room : Int} (h : bdE O A w room = 0) (hA : AcL A) : acE (bA O A w room) = 0 ∧ AcL (bA O A w room) := by
  unfold bA bdL
  rw [if_pos h]
  exact bld_ac _ _ _ (bdE_ok h).2.1 hA
theorem at_ok {O : List Dl} (h : ofE O = 0) {x : Int} (hx : ∃ i : Nat, i < O.length ∧ x = (i : Int)) : DlOk (at0 O x) := by
  obtain ⟨i, hi, rfl⟩ := hx
  have : at0 O (i : Int) = O[i] := by unfold at0; rw [Int.toNat_natCast]; exact getD_of hi
  rw [this]
  exact (ofE_ok h).ok _ (List.getElem_mem hi)
theorem w_name {A : List Ac} {w : Str} (h : 0 ≤ fA A w) (hA : acE A = 0) : nmB w = true := by
  obtain ⟨i, hi, _, e⟩ := fA_at h
  rw [← e]
  exact ((acE_ok hA).nm _ (List.getElem_mem hi))
/-- What building answers. -/
def buE (O : List Dl) (A : List Ac) (k w : Str) (room : Int) : Int :=
  if fA A w < 0 then 4 else if bdE O A w room ≠ 0 then bdE O A w room else if 4000 < k.length + (dk (rk O w (bT O A w room))).length then 8 else 0
def buA (O : List Dl) (A : List Ac) (k w : Str) (room : Int) : List Ac := if buE O A k w room = 0 then bA O A w room else A
def buO (O : List Dl) (A : List Ac) (k w : Str) (room : Int) : List Dl := if buE O A k w room = 0 then clM O (bA O A w room) else O
def buD (O : List Dl) (A : List Ac) (k w : Str) (room : Int) : Str := if buE O A k w room = 0 then k ++ dk (rk O w (bT O A w room)) else k
def buN (O : List Dl) (A : List Ac) (k w : Str) (room : Int) : Int := if buE O A k w room = 0 then (bT O A w room).length else 0
def buM (O : List Dl) (A : List Ac) (k w : Str) (room : Int) : Int := if buE O A k w room = 0 then feeS O (bT O A w room) else 0
theorem rk_app (O : List Dl) (w : Str) (a b : List Int) : rk O w (a ++ b) = rk O w a ++ rk O w b := List.map_append ..
theorem rk_take (O : List Dl) (w : Str) (T : List Int) {j : Nat} {x : Int} (h : T[j]? = some x) : rk O w (T.take (j + 1)) = rk O w (T.take j) ++ [recD (at0 O x) w] := by
  rw [List.take_add_one, h, rk_app]; rfl
theorem fee_take (O : List Dl) (T : List Int) {j : Nat} {x : Int} (h : T[j]? = some x) : feeS O (T.take (j + 1)) = feeS O (T.take j) + fee (at0 O x) := by
  rw [List.take_add_one, h, feeS_app]; simp [feeS]
theorem dk_mono (l : List Str) (j : Nat) : (dk (l.take j)).length ≤ (dk l).length := by
  rw [← dk_take_drop l j, List.length_append]; omega
theorem rk_take_comm (O : List Dl) (w : Str) (T : List Int) (j : Nat) : (rk O w T).take j = rk O w (T.take j) := by unfold rk; rw [List.map_take]
theorem feeS_bound {O : List Dl} (h : ofE O = 0) : ∀ T : List Int, (∀ x ∈ T, ∃ i : Nat, i < O.length ∧ x = (i : Int)) → 0 ≤ feeS O T ∧ feeS O T ≤ 1000000 * T.length
  | [], _ => by simp [feeS]
  | x :: T, hT => by
    have ih := feeS_bound h T fun y hy => hT y (List.mem_cons_of_mem _ hy)
    have hx := (at_ok h (hT x (List.mem_cons_self ..))).fee
    rw [feeS, List.length_cons]
    unfold fee
    omega
/-! ### the whole state -/
structure Hs where
  A : List Ac
  O : List Dl
  R : List Rc
  n : Int
abbrev Hs.k (s : Hs) : Str := dk (s.R.map Rc.str)
end Go.Proofs.YtkkcnppgcnmikaaGreatDoor
