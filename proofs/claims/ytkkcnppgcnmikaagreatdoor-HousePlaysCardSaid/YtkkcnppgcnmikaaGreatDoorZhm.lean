/- A disk of records: scanned, and cut. No program in sight. -/
import Derived.Test.YtkkcnppgcnmikaaGreatDoorLhm
import Derived.Test.YtkkcnppgcnmikaaGreatDoorZfm
import Derived.Test.YtkkcnppgcnmikaaGreatDoorJdm
import Derived.Test.YtkkcnppgcnmikaaGreatDoorHwm
import Derived.Test.YtkkcnppgcnmikaaGreatDoorLqm
namespace Go.Proofs.YtkkcnppgcnmikaaGreatDoor
open Go FM
set_option linter.all false
/-- Frames, one behind the other. -/
def dk : List (List UInt8) → List UInt8
  | [] => []
  | r :: l => frm r ++ dk l
theorem dk_append : ∀ a b : List (List UInt8), dk (a ++ b) = dk a ++ dk b
  | [], b => rfl
  | r :: a, b => by rw [List.cons_append, dk, dk_append a b, dk, List.append_assoc]
theorem dk_one (r : List UInt8) : dk [r] = frm r := List.append_nil _
theorem dk_take_drop (l : List (List UInt8)) (j : Nat) : dk (l.take j) ++ dk (l.drop j) = dk l := by rw [← dk_append, List.take_append_drop]
theorem dk_take (l : List (List UInt8)) (j : Nat) : (dk l).take (dk (l.take j)).length = dk (l.take j) := by
  rw [← dk_take_drop l j]; exact List.take_left' rfl
theorem dk_len : ∀ l : List (List UInt8), l.length ≤ (dk l).length
  | [] => Nat.le_refl _
  | r :: l => by
    have := dk_len l
    rw [dk, List.length_append, frm_length, List.length_cons]; omega
theorem frm_cons (r : List UInt8) : frm r = UInt8.ofNat (r.length % 256) :: (r ++ [hiB (crc (body r)), loB (crc (body r))]) := by
  unfold frm body; simp
theorem nx_frm {r : List UInt8} (s : List UInt8) (h : r.length ≤ 64) : nx (frm r ++ s) = some r := by
  have hb : (UInt8.ofNat (r.length % 256)).toNat = r.length := by rw [UInt8.toNat_ofNat']; omega
  have e : frm r ++ s = UInt8.ofNat (r.length % 256) :: (r ++ ([hiB (crc (body r)), loB (crc (body r))] ++ s)) := by rw [frm_cons]; simp
  have h2 : (frm r ++ s).take (r.length + 3) = frm r := List.take_left' (frm_length r)
  rw [e] at h2 ⊢
  rw [nx_cons, hb, if_neg (by simp only [List.length_append, List.length_cons, List.length_nil]; omega), List.take_left' rfl, h2, if_pos rfl]
theorem nx_cut {r : List UInt8} (s : List UInt8) (h : r.length ≤ 64) {m : Nat} (hm : m < r.length + 3) : nx ((frm r ++ s).take m) = none := by
  have hb : (UInt8.ofNat (r.length % 256)).toNat = r.length := by rw [UInt8.toNat_ofNat']; omega
  rw [frm_cons, List.cons_append]
  cases m with
  | zero => rfl
  | succ m => rw [List.take_succ_cons, nx_cons, hb, if_pos (.inr (by rw [List.length_take]; omega))]
/-- A cut disk tells the records that are whole. -/
theorem scan_cut : ∀ (l : List (List UInt8)) (m : Nat), (∀ r ∈ l, r.length ≤ 64) → m ≤ (dk l).length →
    ∃ j, j ≤ l.length ∧ (scan ((dk l).take m)).1 = l.take j ∧ (scan ((dk l).take m)).2 = (dk (l.take j)).length ∧ (dk (l.take j)).length ≤ m ∧ (m = (dk l).length → j = l.length)
  | [], m, _, hm => ⟨0, Nat.le_refl _, by
      have : (dk []).take m = [] := by cases m <;> rfl
      rw [this]; exact ⟨rfl, rfl, Nat.zero_le _, fun _ => rfl⟩⟩
  | r :: l, m, h, hm => by
    have hr := h r (List.mem_cons_self ..)
    have hdl : (dk (r :: l)).length = r.length + 3 + (dk l).length := by rw [dk, List.length_append, frm_length]
    by_cases hc : m < r.length + 3
    · refine ⟨0, Nat.zero_le _, ?_⟩
      rw [dk, scan_none (nx_cut _ hr hc)]
      refine ⟨rfl, rfl, Nat.zero_le _, fun e => ?_⟩
      rw [List.length_append, frm_length] at e; omega
    · obtain ⟨j, h1, h2, h3, h4, h5⟩ := scan_cut l (m - (r.length + 3)) (fun r hr => h r (List.mem_cons_of_mem _ hr)) (by rw [hdl] at hm; omega)
      have e : (dk (r :: l)).take m = frm r ++ (dk l).take (m - (r.length + 3)) := by
        rw [dk, List.take_append, frm_length, List.take_of_length_le (by rw [frm_length]; omega)]
      refine ⟨j + 1, by simpa using h1, ?_⟩
      rw [e, scan_some (nx_frm _ hr), List.drop_left' (frm_length r), List.take_succ_cons, dk, List.length_append, frm_length, h2, h3]
      refine ⟨rfl, ?_, by omega, fun e => ?_⟩
      · show (dk (l.take j)).length + (r.length + 3) = _; omega
      · rw [h5 (by have : (dk (r :: l)).length = _ := hdl; omega)]; rfl
theorem scan_dk {l : List (List UInt8)} (h : ∀ r ∈ l, r.length ≤ 64) : scan (dk l) = (l, (dk l).length) := by
  obtain ⟨j, h1, h2, h3, h4, h5⟩ := scan_cut l (dk l).length h (Nat.le_refl _)
  have := h5 rfl
  subst this
  rw [List.take_length, List.take_length] at h2 h3
  exact Prod.ext h2 h3
end Go.Proofs.YtkkcnppgcnmikaaGreatDoor

/- A house: what each deed does, as laws on lists. No program in sight. -/
namespace Go.Proofs.YtkkcnppgcnmikaaGreatDoor
open Go FM Go.Proofs
set_option maxRecDepth 10000
set_option linter.all false
/-! ### open -/
def onE (A : List Ac) (k w : Str) (m : Int) : Int := if opE A w m ≠ 0 then opE A w m else appE k (recO w m)
def onA (A : List Ac) (k w : Str) (m : Int) : List Ac := if onE A k w m = 0 then opM A w m else A
def onD (A : List Ac) (k w : Str) (m : Int) : Str := if onE A k w m = 0 then k ++ frm (recO w m) else k
theorem opE_ok {A : List Ac} {w : Str} {m : Int} (h : opE A w m = 0) : acE A = 0 ∧ nmB w = true ∧ (0 ≤ m ∧ m ≤ 1000000) ∧ A.length < 6 := by
  unfold opE at h
  by_cases c1 : acE A ≠ 0
  · rw [if_pos c1] at h; exact absurd h c1
  rw [if_neg c1] at h
  by_cases c2 : nmB w = false
  · rw [if_pos c2] at h; cases h
  rw [if_neg c2] at h
  by_cases c3 : wiB m = false
  · rw [if_pos c3] at h; cases h
  rw [if_neg c3] at h
  by_cases c4 : 0 ≤ fA A w
  · rw [if_pos c4] at h; cases h
  rw [if_neg c4] at h
  by_cases c5 : 6 ≤ A.length
  · rw [if_pos c5] at h; cases h
  have c3 : wiB m = true := by simpa using c3
  unfold wiB at c3
  rw [decide_eq_true_eq] at c3
  exact ⟨Classical.not_not.1 c1, by simpa using c2, c3, by omega⟩
theorem recO_len {w : Str} {m : Int} (h : nmB w = true) (hm : 0 ≤ m ∧ m ≤ 1000000) : (recO w m).length ≤ 20 := by
  have h1 := nm_len h
  have h2 := Zp.itoa_len m hm.1 hm.2
  unfold recO
  simp only [List.length_append, List.length_cons, List.length_nil]; omega
/-! ### build -/
abbrev bT (O : List Dl) (A : List Ac) (w : Str) (room : Int) : List Int := bdT O A w room 1001
abbrev bA (O : List Dl) (A : List Ac) (w : Str) (room : Int) : List Ac := bdL O A w room 1001
/-- The records of what is taken in. -/
def rk (O : List Dl) (w : Str) (T : List Int) : List Str := T.map fun x => recD (at0 O x) w
def feeS (O : List Dl) : List Int → Int
  | [] => 0
  | x :: T => fee (at0 O x) + feeS O T
theorem feeS_app (O : List Dl) : ∀ (a b : List Int), feeS O (a ++ b) = feeS O a + feeS O b
  | [], b => by simp [feeS]
  | x :: a, b => by rw [List.cons_append, feeS, feeS, feeS_app O a b]; omega
theorem bld_mem {l : List Dl} {w : Str} : ∀ (f : Nat) (L : List Ac) (room : Int), ∀ x ∈ (bld l w f L room).1, ∃ i : Nat, i < l.length ∧ x = (i : Int)
  | 0, L, room, x, h => by simp [bld] at h
  | f + 1, L, room, x, h => by
    by_cases c : nxE l L w room = 0
    · obtain ⟨_, _, _, i, hi, hk, hd, _, _, _⟩ := nx_at c
      rw [bld_step c hk hd] at h
      rcases List.mem_cons.1 h with rfl | h
      · exact ⟨i, hi, rfl⟩
      · exact bld_mem f _ _ x h
    · rw [bld_end c] at h; cases h
theorem bT_mem {O : List Dl} {A : List Ac} {w : Str} {room : Int} : ∀ x ∈ bT O A w room, ∃ i : Nat, i < O.length ∧ x = (i : Int) := by
  intro x h
  unfold bT bdT at h
  split at h
  · exact bld_mem _ _ _ x h
  · cases h
theorem bdE_ok {O : List Dl} {A : List Ac} {w : Str} {room : Int} (h : bdE O A w room = 0) : ofE O = 0 ∧ acE A = 0 ∧ 0 ≤ room ∧ room ≤ 1000 := by
  unfold bdE at h
  by_cases c : nxE O A w room = 0 ∨ nxE O A w room = 4
  · exact nxE_04 c
  · rw [if_neg c] at h; exact absurd (.inl h) c
theorem bT_len {O : List Dl} {A : List Ac} {w : Str} {room : Int} : ((bT O A w room).length : Int) ≤ 1000 := by
  unfold bT bdT
  split
  · rename_i c
    obtain ⟨_, _, h1, h2⟩ := bdE_ok c
    have := bld_len (l := O) (w := w) 1001 A room h1
    omega
  · simp
theorem bld_ac {l : List Dl} {w : Str} : ∀ (f : Nat) (L : List Ac) (room : Int), acE L = 0 → AcL L → acE (bld l w f L room).2 = 0 ∧ AcL (bld l w f L room).2
  | 0, L, room, h, hl => ⟨h, hl⟩
  | f + 1, L, room, h, hl => by
    by_cases c : nxE l L w room = 0
    · obtain ⟨_, _, _, i, hi, hk, hd, htk, _, _⟩ := nx_at c
      rw [bld_step c hk hd]
      exact bld_ac f _ _ (tkE_ok htk).2.2 (tkM_L hl)
    · rw [bld_end c]; exact ⟨h, hl⟩
theorem bA_ok {O : List Dl} {A : List Ac} {w : Str} {room : Int} (h : bdE O A w room = 0) (hA : AcL A) : acE (bA O A w room) = 0 ∧ AcL (bA O A w room) := by
  unfold bA bdL
  rw [if_pos h]
  exact bld_ac _ _ _ (bdE_ok h).2.1 hA
theorem at_ok {O : List Dl} (h : ofE O = 0) {x : Int} (hx : ∃ i : Nat, i < O.length ∧ x = (i : Int)) : DlOk (at0 O x) := by
  obtain ⟨i, hi, rfl⟩ := hx
  have : at0 O (i : Int) = O[i] := by unfold at0; rw [Int.toNat_natCast]; exact getD_of hi
  rw [this]
  exact (ofE_ok h).ok _ (List.getElem_mem hi)
theorem w_name {A : List Ac} {w : Str} (h : 0 ≤ fA A w) (hA : acE A = 0) : nmB w = true := by
  obtain ⟨i, hi, _, e⟩ := fA_at h
  rw [← e]
  exact ((acE_ok hA).nm _ (List.getElem_mem hi))
/-- What building answers. -/
def buE (O : List Dl) (A : List Ac) (k w : Str) (room : Int) : Int :=
  if fA A w < 0 then 4 else if bdE O A w room ≠ 0 then bdE O A w room else if 4000 < k.length + (dk (rk O w (bT O A w room))).length then 8 else 0
def buA (O : List Dl) (A : List Ac) (k w : Str) (room : Int) : List Ac := if buE O A k w room = 0 then bA O A w room else A
def buO (O : List Dl) (A : List Ac) (k w : Str) (room : Int) : List Dl := if buE O A k w room = 0 then clM O (bA O A w room) else O
def buD (O : List Dl) (A : List Ac) (k w : Str) (room : Int) : Str := if buE O A k w room = 0 then k ++ dk (rk O w (bT O A w room)) else k
def buN (O : List Dl) (A : List Ac) (k w : Str) (room : Int) : Int := if buE O A k w room = 0 then (bT O A w room).length else 0
def buM (O : List Dl) (A : List Ac) (k w : Str) (room : Int) : Int := if buE O A k w room = 0 then feeS O (bT O A w room) else 0
theorem buE_ok {O : List Dl} {A : List Ac} {k w : Str} {room : Int} (h : buE O A k w room = 0) : 0 ≤ fA A w ∧ bdE O A w room = 0 ∧ k.length + (dk (rk O w (bT O A w room))).length ≤ 4000 := by
  unfold buE at h
  by_cases c1 : fA A w < 0
  · rw [if_pos c1] at h; cases h
  rw [if_neg c1] at h
  by_cases c2 : bdE O A w room ≠ 0
  · rw [if_pos c2] at h; exact absurd h c2
  rw [if_neg c2] at h
  by_cases c3 : 4000 < k.length + (dk (rk O w (bT O A w room))).length
  · rw [if_pos c3] at h; cases h
  exact ⟨by omega, Classical.not_not.1 c2, by omega⟩
theorem rk_app (O : List Dl) (w : Str) (a b : List Int) : rk O w (a ++ b) = rk O w a ++ rk O w b := List.map_append ..
theorem rk_take (O : List Dl) (w : Str) (T : List Int) {j : Nat} {x : Int} (h : T[j]? = some x) : rk O w (T.take (j + 1)) = rk O w (T.take j) ++ [recD (at0 O x) w] := by
  rw [List.take_add_one, h, rk_app]; rfl
theorem fee_take (O : List Dl) (T : List Int) {j : Nat} {x : Int} (h : T[j]? = some x) : feeS O (T.take (j + 1)) = feeS O (T.take j) + fee (at0 O x) := by
  rw [List.take_add_one, h, feeS_app]; simp [feeS]
theorem dk_mono (l : List Str) (j : Nat) : (dk (l.take j)).length ≤ (dk l).length := by
  rw [← dk_take_drop l j, List.length_append]; omega
theorem rk_take_comm (O : List Dl) (w : Str) (T : List Int) (j : Nat) : (rk O w T).take j = rk O w (T.take j) := by unfold rk; rw [List.map_take]
theorem feeS_bound {O : List Dl} (h : ofE O = 0) : ∀ T : List Int, (∀ x ∈ T, ∃ i : Nat, i < O.length ∧ x = (i : Int)) → 0 ≤ feeS O T ∧ feeS O T ≤ 1000000 * T.length
  | [], _ => by simp [feeS]
  | x :: T, hT => by
    have ih := feeS_bound h T fun y hy => hT y (List.mem_cons_of_mem _ hy)
    have hx := (at_ok h (hT x (List.mem_cons_self ..))).fee
    rw [feeS, List.length_cons]
    unfold fee
    omega
theorem take_mem {α : Type} {T : List α} {j : Nat} {x : α} (h : x ∈ T.take j) : x ∈ T := List.mem_of_mem_take h
/-! ### the whole state -/
structure Hs where
  A : List Ac
  O : List Dl
  R : List Rc
  n : Int
abbrev Hs.k (s : Hs) : Str := dk (s.R.map Rc.str)
structure HsOk (s : Hs) : Prop where
  a : AcL s.A
  al : s.A.length ≤ 6
  o : DlL s.O
  ol : s.O.length ≤ 20
  r : ∀ x ∈ s.R, x.ok
  k : s.k.length ≤ 4000
  n : 0 ≤ s.n ∧ s.n ≤ s.k.length
theorem strs_le {R : List Rc} (h : ∀ x ∈ R, x.ok) : ∀ s ∈ R.map Rc.str, s.length ≤ 64 := fun s hs => by
  obtain ⟨r, hr, rfl⟩ := List.mem_map.1 hs
  exact str_len (h r hr)
theorem R_len (R : List Rc) : R.length ≤ (dk (R.map Rc.str)).length := by
  have := dk_len (R.map Rc.str)
  rw [List.length_map] at this; exact this
/-- A crash keeps the records that are whole. -/
theorem crash_at {s : Hs} (h : HsOk s) {m : Int} (hc : crE s.k s.n m = 0) : ∃ R' : List Rc, (∀ x ∈ R', x.ok) ∧ crD s.k s.n m = dk (R'.map Rc.str) ∧ crN s.k s.n m = ((dk (R'.map Rc.str)).length : Nat) ∧ (dk (R'.map Rc.str)).length ≤ 4000 ∧ R'.length ≤ 4000 := by
  have hk := h.k
  have hn := h.n
  have hr := h.r
  unfold crE at hc
  unfold crD crN
  unfold Hs.k at *
  split at hc
  · cases hc
  · rename_i c
    rw [if_neg c, if_neg c]
    obtain ⟨j, h1, h2, h3, h4, _⟩ := scan_cut (s.R.map Rc.str) (s.n + m).toNat (strs_le hr) (by omega)
    rw [h3]
    have e1 : (dk (s.R.map Rc.str)).take (s.n + m).toNat = (dk (s.R.map Rc.str)).take (s.n + m).toNat := rfl
    have e2 : ((dk (s.R.map Rc.str)).take (s.n + m).toNat).take (dk ((s.R.map Rc.str).take j)).length = dk ((s.R.map Rc.str).take j) := by
      rw [List.take_take, Nat.min_eq_left h4, dk_take]
    rw [e2, ← List.map_take]
    have h5 := dk_mono (s.R.map Rc.str) j
    rw [← List.map_take] at h5
    have h6 := R_len (s.R.take j)
    exact ⟨s.R.take j, fun x hx => hr x (List.mem_of_mem_take hx), rfl, rfl, by omega, by omega⟩
theorem rcs_AL {R : List Rc} (h : ∀ x ∈ R, x.ok) : AcL (rcs R) ∧ (rcs R).length ≤ 6 := by
  have key : ∀ (R : List Rc) (A : List Ac), (∀ x ∈ R, x.ok) → AcL A ∧ A.length ≤ 6 → AcL (R.foldl rcS A) ∧ (R.foldl rcS A).length ≤ 6 := fun R => by
    induction R with
    | nil => intro A _ h; exact h
    | cons r R ih =>
      intro A hR hA
      refine ih _ (fun x hx => hR x (List.mem_cons_of_mem _ hx)) ⟨rcS_L hA.1 (hR r (List.mem_cons_self ..)), ?_⟩
      cases r with
      | o s m =>
        show (ifA (opE A s m) (opM A s m)).length ≤ 6
        unfold ifA; split
        · rename_i c; rw [opM_len]; have := (opE_ok c).2.2.2; omega
        · simp
      | d x w =>
        show (ifA (tkE A x w) (tkM A x w)).length ≤ 6
        unfold ifA; split
        · rw [tkM_len]; exact hA.2
        · simp
  exact key R [] h ⟨⟨by simp, fun a ha => by cases ha⟩, by simp⟩
end Go.Proofs.YtkkcnppgcnmikaaGreatDoor
