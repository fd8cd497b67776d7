/- What a house keeps: its records, written. -/
import Derived.Test.YtkkcnppgcnmikaaGreatDoorZam
import Derived.Test.YtkkcnppgcnmikaaGreatDoorZpm
import Derived.Test.YtkkcnppgcnmikaaGreatDoorHhm
import Derived.Test.YtkkcnppgcnmikaaGreatDoorHqm
import Derived.Test.YtkkcnppgcnmikaaGreatDoorHkm
namespace Go.Proofs.YtkkcnppgcnmikaaGreatDoor
open Go FM Go.Proofs
set_option maxRecDepth 10000
set_option maxHeartbeats 1600000
set_option linter.all false
theorem nm_len {s : Str} (h : nmB s = true) : 0 < s.length ∧ s.length ≤ 8 := by
  unfold nmB at h
  simp only [Bool.and_eq_true, decide_eq_true_eq] at h
  exact h.1
theorem nm_wd {s : Str} (h : nmB s = true) : Zp.Wd s := by
  have h1 := nm_len h
  unfold nmB at h
  simp only [Bool.and_eq_true, List.all_eq_true] at h
  refine ⟨fun e => by subst e; simp at h1, fun b hb => ?_⟩
  have := h.2 b hb
  unfold azB at this
  simp only [decide_eq_true_eq] at this
  exact Zp.sp_digit (by omega) (by omega)
def dnums (d : Dl) : List Int := [d.2.2.1, d.2.2.2.1, d.2.2.2.2.1, d.2.2.2.2.2.1]
def recK (d : Dl) : Nat → Str
  | 0 => [100, 32] ++ d.1 ++ [32] ++ d.2.1
  | k + 1 => recK d k ++ ([32] ++ Lib.itoa ((dnums d).getD k 0))
/-- What is kept of a deal, and of an account. -/
def recD (d : Dl) (w : Str) : Str := recK d 4 ++ [32] ++ w
def recO (s : Str) (m : Int) : Str := [111, 32] ++ s ++ [32] ++ Lib.itoa m
abbrev wsD (d : Dl) (w : Str) : List Str := [[100], d.1, d.2.1, Lib.itoa d.2.2.1, Lib.itoa d.2.2.2.1, Lib.itoa d.2.2.2.2.1, Lib.itoa d.2.2.2.2.2.1, w]
abbrev wsO (s : Str) (m : Int) : List Str := [[111], s, Lib.itoa m]
theorem recD_jn (d : Dl) (w : Str) : recD d w = Zp.jn (wsD d w) := by simp [recD, recK, dnums, Zp.jn, wsD]
theorem recO_jn (s : Str) (m : Int) : recO s m = Zp.jn (wsO s m) := by simp [recO, Zp.jn, wsO]
theorem dnums_ok {d : Dl} (h : DlOk d) : ∀ n ∈ dnums d, 0 ≤ n ∧ n ≤ 1000000 := by
  intro n hn
  have h1 := h.num; have h2 := h.much; have h3 := h.fee; have h4 := h.size
  simp only [dnums, List.mem_cons, List.not_mem_nil, or_false] at hn
  rcases hn with rfl | rfl | rfl | rfl <;> omega
theorem recK_len {d : Dl} (h : DlOk d) : ∀ k, k ≤ 4 → (recK d k).length ≤ 19 + 8 * k
  | 0, _ => by
    have h1 := nm_len h.f
    have h2 := nm_len h.t
    simp only [recK, List.length_append, List.length_cons, List.length_nil] at *
    omega
  | k + 1, hk => by
    have ih := recK_len h k (by omega)
    have hg : (dnums d)[k]? = some (dnums d)[k] := List.getElem?_eq_getElem (by simp [dnums]; omega)
    have hn := dnums_ok h _ (List.mem_of_getElem? hg)
    have := Zp.itoa_len _ hn.1 hn.2
    simp only [recK, List.getD_eq_getElem?_getD, hg, Option.getD_some, List.length_append, List.length_cons, List.length_nil] at *
    omega
theorem recD_len {d : Dl} {w : Str} (h : DlOk d) (hw : w.length ≤ 8) : (recD d w).length ≤ 60 := by
  have := recK_len h 4 (by omega)
  unfold recD
  simp only [List.length_append, List.length_cons, List.length_nil]
  omega
theorem recK_succ {d : Dl} {k : Nat} {n : Int} (h : (dnums d)[k]? = some n) : recK d (k + 1) = recK d k ++ ([32] ++ Lib.itoa n) := by
  rw [recK, List.getD_eq_getElem?_getD, h]; rfl
theorem deal_spec (d : Dl) (w : Str) (hd : DlOk d) (hw : w.length ≤ 8) : FnSpec Sy.P 69 [dlA d, .str w] [dlA d, .str w] (.str (recD d w)) := by
  have h1 := nm_len hd.f
  have h2 := nm_len hd.t
  refine FnSpec.enter (S := Sy) 0 Tryz.func69 rfl rfl rfl Tryz.ntmps69 rfl rfl rfl rfl fun v0 => ?_
  (repeat' (first | refine w9x ?_ | (refine w9c ?_ ?_ <;> intro _ <;> try exact w9o) | (refine w9d ?_ ?_ <;> intro _ <;> try exact w9s) | (refine w9q ?_; intro bnil hbnil)))
  refine CW.loop (fun k : Nat => [(1, .av (.str w)), (5, .av (.str (recK d k))), (23, .av (.sl true 1 ((dnums d).map .int))), (24, .av (.int (4))), (25, .av (.int (k)))]) (fun k => k ≤ 4) (fun k => 4 - k) (0) ?_ (by exact w9a) ?_
  · exact Nat.zero_le _
  intro k hk
  have hl := recK_len hd k hk
  by_cases hlt : k < 4
  · have hg : (dnums d)[k]? = some (dnums d)[k] := List.getElem?_eq_getElem hlt
    have hs := recK_succ hg
    have hn := dnums_ok hd _ (List.mem_of_getElem? hg)
    have hdl : (dnums d).length = 4 := rfl
    generalize (dnums d)[k] = n at *
    have hI := itoa_spec n (by omega) (by omega)
    have hil := Zp.itoa_len n hn.1 hn.2
    generalize recK d k = r at *
    generalize Lib.itoa n = z at *
    generalize dnums d = ds at *
    (repeat' (first | refine w9x ?_ | refine w9p (hI) ?_ | (refine w9c ?_ ?_ <;> intro _ <;> try exact w9o) | (refine w9d ?_ ?_ <;> intro _ <;> try exact w9s) | (refine w9q ?_; intro bnil hbnil)))
    all_goals first | (exfalso; omega) | skip
    refine ⟨k+1, ?_, by first | omega | (simp only; omega), by (repeat' (first | exact trivial | rfl | refine And.intro ?_ ?_ | exact int_congr (by omega) | exact int_congr (by dsimp only; omega) | exact ints_congr (by first | assumption | exact Eq.symm (by assumption)) | exact int_congr (by assumption) | exact bool_congr (by first | assumption | exact Eq.symm (by assumption)) | exact map_congr' (by first | assumption | exact Eq.symm (by assumption)) | (rw [hs])))⟩
    exact hlt
  · obtain rfl : k = 4 := by omega
    have e : recD d w = recK d 4 ++ [32] ++ w := rfl
    rw [e]
    generalize recK d 4 = r at *
    generalize dnums d = ds at *
    (repeat' (first | refine w9x ?_ | (refine w9c ?_ ?_ <;> intro _ <;> try exact w9o) | (refine w9d ?_ ?_ <;> intro _ <;> try exact w9s) | (refine w9q ?_; intro bnil hbnil)))
    all_goals first | (exfalso; omega) | exact .mk rfl rfl rfl
theorem words_spec (l : List Str) (hN : l.length ≤ 1000) (hl : (Zp.jn l).length ≤ 1000) : FnSpec Sy.P 37 [.sl false 1 (l.map .str)] [.sl false 1 (l.map .str)] (.str (Zp.jn l)) := by
  rw [← Zp.join_jn] at hl ⊢
  have hJ := join_spec l [32] (by omega) (by omega)
  refine FnSpec.enter (S := Sy) 0 Tryz.func37 rfl rfl rfl Tryz.ntmps37 rfl rfl rfl rfl fun v0 => ?_
  (repeat' (first | refine w9x ?_ | refine w9p (hJ) ?_ | (refine w9c ?_ ?_ <;> intro _ <;> try exact w9o) | (refine w9d ?_ ?_ <;> intro _ <;> try exact w9s) | (refine w9q ?_; intro bnil hbnil)))
  exact .mk rfl rfl rfl
theorem record_spec (d : Dl) (w : Str) (hd : DlOk d) (hw : w.length ≤ 8) : FnSpec Sy.P 42 [dlA d, .str w] [dlA d, .str w] (.str (recD d w)) := by
  have h0 := recD_len hd hw
  rw [recD_jn] at h0 ⊢
  have hW := words_spec (wsD d w) (by simp) (by omega)
  have n1 := hd.num; have n2 := hd.much; have n3 := hd.fee; have n4 := hd.size
  have i1 := itoa_spec d.2.2.1 (by omega) (by omega)
  have i2 := itoa_spec d.2.2.2.1 (by omega) (by omega)
  have i3 := itoa_spec d.2.2.2.2.1 (by omega) (by omega)
  have i4 := itoa_spec d.2.2.2.2.2.1 (by omega) (by omega)
  refine FnSpec.enter (S := Sy) 0 Tryz.func42 rfl rfl rfl Tryz.ntmps42 rfl rfl rfl rfl fun v0 => ?_
  (repeat' (first | ((with_reducible refine CW.regS 3 ?_ ?_ ?_); kernel_rfl; rfl; simp only [List.length_cons, List.length_nil, Nat.reduceAdd, Nat.reduceSub, List.take_succ_cons, List.take_zero, List.drop_succ_cons, List.drop_zero]) | refine w9x ?_ | refine w9p (i1) ?_ | refine w9p (i2) ?_ | refine w9p (i3) ?_ | refine w9p (i4) ?_ | refine w9p (hW) ?_ | (refine w9c ?_ ?_ <;> intro _ <;> try exact w9o) | (refine w9d ?_ ?_ <;> intro _ <;> try exact w9s) | (refine w9q ?_; intro bnil hbnil)))
  exact .mk rfl rfl rfl
end Go.Proofs.YtkkcnppgcnmikaaGreatDoor

/- A house: what its records tell, read. -/
namespace Go.Proofs.YtkkcnppgcnmikaaGreatDoor
open Go FM Go.Proofs
set_option maxRecDepth 10000
set_option maxHeartbeats 3200000
set_option linter.all false
def ifA (e : Int) (l : List Ac) : List Ac := if e = 0 then l else []
theorem resA_le {l : List Ac} {e : Int} : AV.le (resA l e) (.tup [.sl true 3 ((ifA e l).map acA), .int e]) := by
  unfold resA ifA
  by_cases c : e = 0
  · rw [if_pos c, if_pos c, c]; exact .refl _
  · rw [if_neg c, if_neg c]; exact le_tup2 .nil (.refl _)
/-- A record. -/
inductive Rc where
  | o (s : Str) (m : Int)
  | d (x : Dl) (w : Str)
def Rc.str : Rc → Str
  | .o s m => recO s m
  | .d x w => recD x w
def Rc.ok : Rc → Prop
  | .o s m => nmB s = true ∧ 0 ≤ m ∧ m ≤ 1000000
  | .d x w => DlOk x ∧ nmB w = true
/-- What a record does to the accounts. -/
def rcS (A : List Ac) : Rc → List Ac
  | .o s m => ifA (opE A s m) (opM A s m)
  | .d x w => ifA (tkE A x w) (tkM A x w)
theorem opE_acE {A : List Ac} {s : Str} {m : Int} (h : opE A s m = 0) : acE A = 0 := by
  unfold opE at h
  by_cases c : acE A = 0
  · exact c
  · rw [if_pos c] at h; exact absurd h c
theorem rcS_L {A : List Ac} {r : Rc} (hA : AcL A) (hr : r.ok) : AcL (rcS A r) := by
  cases r with
  | o s m =>
    show AcL (ifA (opE A s m) (opM A s m))
    unfold ifA
    by_cases c : opE A s m = 0
    · rw [if_pos c]
      have hp := opM_perm (l := A) (s := s) (m := m)
      have h6 := (acE_ok (opE_acE c)).len
      refine ⟨?_, fun a ha => ?_⟩
      · rw [← hp.length_eq, List.length_append]; simp; omega
      · have := hp.mem_iff.2 ha
        rcases List.mem_append.1 this with h | h
        · exact hA.str a h
        · rw [List.mem_singleton] at h; subst h
          have := nm_len hr.1
          show s.length ≤ _
          omega
    · rw [if_neg c]; exact ⟨by simp, fun a ha => by cases ha⟩
  | d x w =>
    show AcL (ifA (tkE A x w) (tkM A x w))
    unfold ifA
    by_cases c : tkE A x w = 0
    · rw [if_pos c]; exact tkM_L hA
    · rw [if_neg c]; exact ⟨by simp, fun a ha => by cases ha⟩
def wsR : Rc → List Str
  | .o s m => wsO s m
  | .d x w => wsD x w
theorem str_jn (r : Rc) : r.str = Zp.jn (wsR r) := by
  cases r with
  | o s m => exact recO_jn s m
  | d x w => exact recD_jn x w
theorem wsR_wd {r : Rc} (h : r.ok) : ∀ s ∈ wsR r, Zp.Wd s ∧ s.length ≤ 8 := by
  have one : ∀ c : UInt8, 48 ≤ c.toNat → c.toNat < 128 → Zp.Wd [c] ∧ [c].length ≤ 8 := fun c h1 h2 => ⟨⟨by simp, fun b hb => by rw [List.mem_singleton.1 hb]; exact Zp.sp_digit h1 h2⟩, by simp⟩
  have num : ∀ n : Int, 0 ≤ n → n ≤ 1000000 → Zp.Wd (Lib.itoa n) ∧ (Lib.itoa n).length ≤ 8 := fun n h1 h2 => ⟨Zp.wd_itoa h1, Nat.le_trans (Zp.itoa_len n h1 h2) (by omega)⟩
  cases r with
  | o s m =>
    intro x hx
    simp only [wsR, wsO, List.mem_cons, List.not_mem_nil, or_false] at hx
    rcases hx with rfl | rfl | rfl
    · exact one 111 (by decide) (by decide)
    · exact ⟨nm_wd h.1, (nm_len h.1).2⟩
    · exact num m h.2.1 h.2.2
  | d y w =>
    have n1 := h.1.num; have n2 := h.1.much; have n3 := h.1.fee; have n4 := h.1.size
    intro x hx
    simp only [wsR, wsD, List.mem_cons, List.not_mem_nil, or_false] at hx
    rcases hx with rfl | rfl | rfl | rfl | rfl | rfl | rfl | rfl
    · exact one 100 (by decide) (by decide)
    · exact ⟨nm_wd h.1.f, (nm_len h.1.f).2⟩
    · exact ⟨nm_wd h.1.t, (nm_len h.1.t).2⟩
    · exact num _ n1.1 n1.2
    · exact num _ n2.1 n2.2
    · exact num _ n3.1 n3.2
    · exact num _ (by omega) (by omega)
    · exact ⟨nm_wd h.2, (nm_len h.2).2⟩
theorem wsR_ne (r : Rc) : wsR r ≠ [] := by cases r <;> simp [wsR]
theorem pieces_str {r : Rc} (h : r.ok) : pieces r.str [32] = wsR r := by
  have hn : ∀ s ∈ wsR r, ∀ b ∈ s, b ≠ 32 := fun s hs b hb => ((wsR_wd h s hs).1.ns b hb).1
  unfold pieces
  rw [Lib.splitB_data, str_jn]
  show Lib.splitK [32] 0 (Lib.count (Zp.jn (wsR r)) [32]) (Zp.jn (wsR r)) = _
  rw [Zp.count_jn (wsR_ne r) hn, Zp.splitK_jn (wsR_ne r) hn]
theorem fields_str {r : Rc} (h : r.ok) : Lib.fields r.str = wsR r := by
  rw [str_jn]; exact Zp.fields_jn fun s hs => (wsR_wd h s hs).1
theorem numOf_itoa {n : Int} (h : 0 ≤ n) : numOf (Lib.itoa n) = n := by unfold numOf; rw [Zp.atoi_itoa n h]; rfl
theorem str_len {r : Rc} (h : r.ok) : r.str.length ≤ 64 := by
  cases r with
  | o s m =>
    have h1 := nm_len h.1
    have h2 := Zp.itoa_len m h.2.1 h.2.2
    show (recO s m).length ≤ 64
    unfold recO
    simp only [List.length_append, List.length_cons, List.length_nil]; omega
  | d x w => have := recD_len h.1 (nm_len h.2).2; show (recD x w).length ≤ 64; omega
theorem str_ascii {r : Rc} (h : r.ok) : ∀ b ∈ r.str, b.toNat < 128 := by
  have key : ∀ l : List Str, (∀ s ∈ l, ∀ b ∈ s, b.toNat < 128) → ∀ b ∈ Zp.jn l, b.toNat < 128 := fun l => by
    induction l with
    | nil => intro _ b hb; cases hb
    | cons x r ih =>
      intro hl b hb
      cases r with
      | nil => exact hl x (by simp) b hb
      | cons y r =>
        have hb : b ∈ x ++ 32 :: Zp.jn (y :: r) := hb
        rcases List.mem_append.1 hb with hb | hb
        · exact hl x (by simp) b hb
        · rcases List.mem_cons.1 hb with rfl | hb
          · decide
          · exact ih (fun s hs => hl s (List.mem_cons_of_mem _ hs)) b hb
  rw [str_jn]
  exact key _ fun s hs b hb => ((wsR_wd h s hs).1.ns b hb).2.2
end Go.Proofs.YtkkcnppgcnmikaaGreatDoor
