/- Offers: found, copied, compared. -/
import Derived.Test.YtkkcnppgcnmikaaGreatDoorHfnm
namespace Go.Proofs.YtkkcnppgcnmikaaGreatDoor
open Go FM Go.Proofs
set_option maxRecDepth 10000
set_option maxHeartbeats 3200000
set_option linter.all false
/-- A test of deals, as a function value. -/
noncomputable def fnDl (D : Dl → Prop) (p : Dl → Bool) : AV := .fn (BehA Sy.P (fun ws => ∃ a, ws = [dlA a] ∧ D a) (fun ws => match ws with | [.agg [.str s, .str t, .int m, .int n, .int f, .int z]] => .bool (p (s, t, m, n, f, z, ())) | _ => .bool false))
theorem cloDl {m : Nat} {v : Nat → Value} {N : Nat} {σ : St} {f t : Nat} {caps : List Nat} {zs : List AV} {D : Dl → Prop} {p : Dl → Bool} (ht : FM.get σ t = .clo f caps) (hc : CapsOk σ caps zs) (hf : FnOk Sy.P f) (hs : ∀ x, D x → FnSpec Sy.P f (dlA x :: zs) (dlA x :: zs) (.bool (p x))) : ArgOk (Sy.fixed m v) N σ (.tmp t) true (fnDl D p) :=
  .clo rfl ht hc hf (fun ws hd => by obtain ⟨x, rfl, hx⟩ := hd; exact hs x hx) (fun ws hd => by obtain ⟨x, rfl, hx⟩ := hd; rfl)
theorem indexDl_spec (l : List Dl) (D : Dl → Prop) (p : Dl → Bool) (hl : l.length ≤ 9223372036854775807) (hD : ∀ x ∈ l, D x) : FnSpec Sy.P 125 [.sl false 6 (l.map dlA), fnDl D p] [.sl false 6 (l.map dlA), fnDl D p] (.int (fidx p l 0)) := by
  refine FnSpec.enter (S := Sy) 0 Tryz.func125 rfl rfl rfl Tryz.ntmps125 rfl rfl rfl rfl fun v0 => ?_
  (repeat' (first | refine w9x ?_ | (refine w9c ?_ ?_ <;> intro _ <;> try exact w9o) | (refine w9d ?_ ?_ <;> intro _ <;> try exact w9s) | (refine w9q ?_; intro bnil hbnil)))
  refine CW.loop (fun k : Nat => [(0, .av (.sl false 6 (l.map dlA))), (1, .av (fnDl D p)), (7, .av (.int (l.length))), (8, .av (.int (k)))]) (fun k => k ≤ l.length ∧ fidx p l 0 = fidx p (l.drop k) k) (fun k => l.length - k) (0) ?_ (by exact w9a) ?_
  · exact ⟨Nat.zero_le _, rfl⟩
  intro k ⟨hk, hp⟩
  by_cases hlt : k < l.length
  · have hx : l[k]? = some l[k] := List.getElem?_eq_getElem hlt
    have hd : D l[k] := hD _ (List.getElem_mem hlt)
    rw [fidx_drop hlt] at hp
    have hres : (AV.bool (p (l[k].1, l[k].2.1, l[k].2.2.1, l[k].2.2.2.1, l[k].2.2.2.2.1, l[k].2.2.2.2.2.1, ()))) = .bool (p l[k]) := rfl
    cases hb : p l[k] with
    | true =>
      rw [hb, cond_true] at hp
      rw [hb] at hres
      rw [hp]
      (repeat' (first | refine w9x ?_ | (refine J.callF [dlA l[k]] rfl rfl rfl ⟨_, rfl, hd⟩ (by (repeat' (first | exact ArgsOk.nil | apply ArgsOk.cons | exact ArgOk.pl rfl rfl | exact ArgOk.br rfl AV.noConfusion (by first | rfl | exact sh_int | exact sh_rows | exact sh_rowsO | exact sh_box | exact sh_map (fun _ => rfl))))) (by first | assumption | rfl | simp) rfl ?_) | (refine J.callFQ [dlA l[k]] rfl rfl rfl ⟨_, rfl, hd⟩ (by (repeat' (first | exact ArgsOk.nil | apply ArgsOk.cons | exact ArgOk.pl rfl rfl | exact ArgOk.br rfl AV.noConfusion (by first | rfl | exact sh_int | exact sh_rows | exact sh_rowsO | exact sh_box | exact sh_map (fun _ => rfl))))) (by first | assumption | rfl | simp) rfl ?_) | (refine w9c ?_ ?_ <;> intro _ <;> try exact w9o) | (refine w9d ?_ ?_ <;> intro _ <;> try exact w9s) | (refine w9q ?_; intro bnil hbnil)))
      all_goals first | (rw [hb] at *; contradiction) | exact .mk rfl rfl rfl
    | false =>
      rw [hb, cond_false] at hp
      rw [hb] at hres
      (repeat' (first | refine w9x ?_ | (refine J.callF [dlA l[k]] rfl rfl rfl ⟨_, rfl, hd⟩ (by (repeat' (first | exact ArgsOk.nil | apply ArgsOk.cons | exact ArgOk.pl rfl rfl | exact ArgOk.br rfl AV.noConfusion (by first | rfl | exact sh_int | exact sh_rows | exact sh_rowsO | exact sh_box | exact sh_map (fun _ => rfl))))) (by first | assumption | rfl | simp) rfl ?_) | (refine J.callFQ [dlA l[k]] rfl rfl rfl ⟨_, rfl, hd⟩ (by (repeat' (first | exact ArgsOk.nil | apply ArgsOk.cons | exact ArgOk.pl rfl rfl | exact ArgOk.br rfl AV.noConfusion (by first | rfl | exact sh_int | exact sh_rows | exact sh_rowsO | exact sh_box | exact sh_map (fun _ => rfl))))) (by first | assumption | rfl | simp) rfl ?_) | (refine w9c ?_ ?_ <;> intro _ <;> try exact w9o) | (refine w9d ?_ ?_ <;> intro _ <;> try exact w9s) | (refine w9q ?_; intro bnil hbnil)))
      all_goals first | (rw [hb] at *; contradiction) | skip
      refine ⟨k+1, ?_, by first | omega | (simp only; omega), by exact w9a⟩
      exact ⟨by omega, hp⟩
  · obtain rfl : k = l.length := by omega
    rw [fidx_end] at hp
    rw [hp]
    (repeat' (first | refine w9x ?_ | (refine w9c ?_ ?_ <;> intro _ <;> try exact w9o) | (refine w9d ?_ ?_ <;> intro _ <;> try exact w9s) | (refine w9q ?_; intro bnil hbnil)))
    exact .mk rfl rfl rfl
/-- Is it the offer of somebody's number? -/
def tD (s : Str) (n : Int) (d : Dl) : Bool := decide (d.1 = s) && decide (d.2.2.1 = n)
def fD (l : List Dl) (s : Str) (n : Int) : Int := fidx (tD s n) l 0
theorem findD1_spec (d : Dl) (s : Str) (n : Int) : FnSpec Sy.P 126 [dlA d, .pt false [.str s], .pt false [.int n]] [dlA d, .pt false [.str s], .pt false [.int n]] (.bool (tD s n d)) := by
  unfold tD
  obtain ⟨a, b, c, e, f, g, u⟩ := d
  refine FnSpec.enter (S := Sy) 0 Tryz.func126 rfl rfl rfl Tryz.ntmps126 rfl rfl rfl rfl fun v0 => ?_
  by_cases h : a = s
  · rw [decide_eq_true h, Bool.true_and]
    (repeat' (first | refine w9x ?_ | (refine w9c ?_ ?_ <;> intro _ <;> try exact w9o) | (refine w9d ?_ ?_ <;> intro _ <;> try exact w9s) | (refine w9q ?_; intro bnil hbnil)))
    all_goals first | (exfalso; contradiction) | exact .mk rfl rfl rfl
  · rw [decide_eq_false h, Bool.false_and]
    (repeat' (first | refine w9x ?_ | (refine w9c ?_ ?_ <;> intro _ <;> try exact w9o) | (refine w9d ?_ ?_ <;> intro _ <;> try exact w9s) | (refine w9q ?_; intro bnil hbnil)))
    all_goals first | (exfalso; contradiction) | exact .mk rfl rfl rfl
abbrev d0 : Dl := ([], [], 0, 0, 0, 0, ())
theorem findD1_arg {s : Str} {n : Int} {m : Nat} {v : Nat → Value} {N : Nat} {σ : St} {t q r : Nat} (ht : FM.get σ t = .clo 126 [q, r]) (h1 : FM.get σ q = .av (.pt true [.str s])) (h2 : FM.get σ r = .av (.pt true [.int n])) : ArgOk (Sy.fixed m v) N σ (.tmp t) true (fnDl (fun _ => True) (tD s n)) :=
  cloDl (zs := [.pt false [.str s], .pt false [.int n]]) ht (.cons h1 rfl (.cons h2 rfl .nil)) (findD1_spec d0 [] 0).ok fun x _ => findD1_spec x s n
theorem findD_spec (l : List Dl) (s : Str) (n : Int) (hl : l.length ≤ 9223372036854775807) : FnSpec Sy.P 68 [.sl false 6 (l.map dlA), .str s, .int n] [.sl false 6 (l.map dlA), .str s, .int n] (.int (fD l s n)) := by
  have hI := indexDl_spec l (fun _ => True) (tD s n) hl (fun _ _ => trivial)
  refine FnSpec.enter (S := Sy) 0 Tryz.func68 rfl rfl rfl Tryz.ntmps68 rfl rfl rfl rfl fun v0 => ?_
  (repeat' (first | ((with_reducible apply J.step); rfl; (exact s_mkf (caps := [4, 5]) rfl rfl)) | refine w9x ?_ | ((with_reducible first | apply J.callP (hI) | apply J.callPQ (hI)); rfl; rfl; (repeat' (first | exact ArgsOk.nil | exact findD1_arg rfl rfl rfl | apply ArgsOk.cons | exact ArgOk.pl rfl rfl | exact ArgOk.br rfl AV.noConfusion (by first | rfl | exact sh_int | exact sh_rows | exact sh_rowsO | exact sh_box | exact sh_map (fun _ => rfl)))); (first | rfl | exact gn0 | exact gnI)) | (refine w9c ?_ ?_ <;> intro _ <;> try exact w9o) | (refine w9d ?_ ?_ <;> intro _ <;> try exact w9s) | (refine w9q ?_; intro bnil hbnil)))
  exact .mk rfl rfl rfl
theorem cloneDl_spec (l : List Dl) (hl : l.length ≤ 1000000) : FnSpec Sy.P 50 [.sl false 6 (l.map dlA)] [.sl false 6 (l.map dlA)] (.sl true 6 (l.map dlA)) := by
  refine FnSpec.enter (S := Sy) 0 Tryz.func50 rfl rfl rfl Tryz.ntmps50 rfl rfl rfl rfl fun v0 => ?_
  (repeat' (first | refine w9x ?_ | (refine w9c ?_ ?_ <;> intro _ <;> try exact w9o) | (refine w9d ?_ ?_ <;> intro _ <;> try exact w9s) | (refine w9q ?_; intro bnil hbnil)))
  · by_cases h : l = []
    · subst h
      exact .mkL rfl .nil rfl
    · have := hbnil (by simpa using h)
      simp_all
  · exact .mk rfl rfl rfl
theorem dl_ext (a b : Dl) : (a.1 = b.1 ∧ a.2.1 = b.2.1 ∧ a.2.2.1 = b.2.2.1 ∧ a.2.2.2.1 = b.2.2.2.1 ∧ a.2.2.2.2.1 = b.2.2.2.2.1 ∧ a.2.2.2.2.2.1 = b.2.2.2.2.2.1) ↔ a = b := by
  constructor
  · rintro ⟨h1, h2, h3, h4, h5, h6⟩
    exact Prod.ext h1 (Prod.ext h2 (Prod.ext h3 (Prod.ext h4 (Prod.ext h5 (Prod.ext h6 rfl)))))
  · intro h; subst h; exact ⟨rfl, rfl, rfl, rfl, rfl, rfl⟩
instance : DecidableEq Dl := fun a b => decidable_of_iff _ (dl_ext a b)
/-! ### what is right -/
def ofR (l : List Dl) : Nat → Nat → Int
  | 0, _ => 0
  | m + 1, k => if dlE (l.getD k d0) ≠ 0 then dlE (l.getD k d0) else if 0 ≤ fD (l.take k) (l.getD k d0).1 (l.getD k d0).2.2.1 then 7 else ofR l m (k + 1)
def ofE (l : List Dl) : Int := if 20 < l.length then 2 else ofR l l.length 0
theorem fidx_cons {α : Type} {p : α → Bool} {x : α} {r : List α} {k : Nat} : fidx p (x :: r) k = bif p x then (k : Int) else fidx p r (k + 1) := rfl
theorem ofR_step {l : List Dl} {k : Nat} (h : k < l.length) : ofR l (l.length - k) k = if dlE l[k] ≠ 0 then dlE l[k] else if 0 ≤ fD (l.take k) l[k].1 l[k].2.2.1 then 7 else ofR l (l.length - (k + 1)) (k + 1) := by
  rw [show l.length - k = (l.length - (k + 1)) + 1 by omega]
  have : l.getD k d0 = l[k] := by rw [List.getD_eq_getElem?_getD, List.getElem?_eq_getElem h]; rfl
  rw [ofR, this]
structure DlL (l : List Dl) : Prop where
  len : l.length ≤ 9223372036854775807
  s1 : ∀ d ∈ l, d.1.length ≤ 9223372036854775807
  s2 : ∀ d ∈ l, d.2.1.length ≤ 9223372036854775807
theorem qcheck_spec (l : List Dl) (h : DlL l) : FnSpec Sy.P 66 [.sl false 6 (l.map dlA)] [.sl false 6 (l.map dlA)] (.int (ofE l)) := by
  have hl := h.len
  refine FnSpec.enter (S := Sy) 0 Tryz.func66 rfl rfl rfl Tryz.ntmps66 rfl rfl rfl rfl fun v0 => ?_
  by_cases h6 : 20 < l.length
  · rw [show ofE l = 2 from if_pos h6]
    (repeat' (first | refine w9x ?_ | (refine w9c ?_ ?_ <;> intro _ <;> try exact w9o) | (refine w9d ?_ ?_ <;> intro _ <;> try exact w9s) | (refine w9q ?_; intro bnil hbnil)))
    all_goals first | (exfalso; omega) | exact .mk rfl rfl rfl
  rw [show ofE l = ofR l l.length 0 from if_neg h6]
  (repeat' (first | refine w9x ?_ | (refine w9c ?_ ?_ <;> intro _ <;> try exact w9o) | (refine w9d ?_ ?_ <;> intro _ <;> try exact w9s) | (refine w9q ?_; intro bnil hbnil)))
  all_goals first | (exfalso; omega) | skip
  refine CW.loop (fun k : Nat => [(0, .av (.sl false 6 (l.map dlA))), (9, .av (.sl false 6 (l.map dlA))), (10, .av (.int (l.length))), (11, .av (.int (k)))]) (fun k => k ≤ l.length ∧ ofR l l.length 0 = ofR l (l.length - k) k) (fun k => l.length - k) (0) ?_ (by exact w9a) ?_
  · exact ⟨Nat.zero_le _, rfl⟩
  intro k ⟨hk, ha⟩
  by_cases hkl : k < l.length
  · have hx : l[k]? = some l[k] := List.getElem?_eq_getElem hkl
    have hR := right_spec l[k] (h.s1 _ (List.getElem_mem hkl)) (h.s2 _ (List.getElem_mem hkl))
    have hF := findD_spec (l.take k) l[k].1 l[k].2.2.1 (by rw [List.length_take]; omega)
    rw [ofR_step hkl] at ha
    generalize l[k] = d at *
    by_cases c1 : dlE d ≠ 0
    · rw [if_pos c1] at ha
      rw [ha]
      generalize dlE d = e at *
      (repeat' (first | refine w9x ?_ | refine w9p (hR) ?_ | refine w9p (hF) ?_ | (refine w9c ?_ ?_ <;> intro _ <;> try exact w9o) | (refine w9d ?_ ?_ <;> intro _ <;> try exact w9s) | (refine w9q ?_; intro bnil hbnil)))
      all_goals first | (exfalso; omega) | exact .mk rfl rfl rfl
    · rw [if_neg c1] at ha
      rw [Classical.not_not.1 c1] at hR
      by_cases c2 : 0 ≤ fD (l.take k) d.1 d.2.2.1
      · rw [if_pos c2] at ha
        rw [ha]
        (repeat' (first | refine w9x ?_ | refine w9p (hR) ?_ | refine w9p (hF) ?_ | (refine w9c ?_ ?_ <;> intro _ <;> try exact w9o) | (refine w9d ?_ ?_ <;> intro _ <;> try exact w9s) | (refine w9q ?_; intro bnil hbnil)))
        all_goals first | (exfalso; omega) | exact .mk rfl rfl rfl
      · rw [if_neg c2] at ha
        (repeat' (first | refine w9x ?_ | refine w9p (hR) ?_ | refine w9p (hF) ?_ | (refine w9c ?_ ?_ <;> intro _ <;> try exact w9o) | (refine w9d ?_ ?_ <;> intro _ <;> try exact w9s) | (refine w9q ?_; intro bnil hbnil)))
        all_goals first | (exfalso; omega) | skip
        refine ⟨k+1, ?_, by first | omega | (simp only; omega), by exact w9a⟩
        exact ⟨by omega, ha⟩
  · obtain rfl : l.length = k := by omega
    rw [Nat.sub_self] at ha
    rw [ha]
    (repeat' (first | refine w9x ?_ | (refine w9c ?_ ?_ <;> intro _ <;> try exact w9o) | (refine w9d ?_ ?_ <;> intro _ <;> try exact w9s) | (refine w9q ?_; intro bnil hbnil)))
    exact .mk rfl rfl rfl
end Go.Proofs.YtkkcnppgcnmikaaGreatDoor
