/- Accounts: found, copied, compared. -/
import Derived.Test.YtkkcnppgcnmikaaGreatDoorHdnm
import Derived.Test.YtkkcnppgcnmikaaGreatDoorHenm
namespace Go.Proofs.YtkkcnppgcnmikaaGreatDoor
open Go FM Go.Proofs
set_option maxRecDepth 10000
set_option maxHeartbeats 3200000
set_option linter.all false
/-- A test of accounts, as a function value. -/
noncomputable def fnAc (D : Ac → Prop) (p : Ac → Bool) : AV := .fn (BehA Sy.P (fun ws => ∃ a, ws = [acA a] ∧ D a) (fun ws => match ws with | [.agg [.str s, .int m, .int n]] => .bool (p (s, m, n, ())) | _ => .bool false))
theorem cloAc {m : Nat} {v : Nat → Value} {N : Nat} {σ : St} {f t : Nat} {caps : List Nat} {zs : List AV} {D : Ac → Prop} {p : Ac → Bool} (ht : FM.get σ t = .clo f caps) (hc : CapsOk σ caps zs) (hf : FnOk Sy.P f) (hs : ∀ x, D x → FnSpec Sy.P f (acA x :: zs) (acA x :: zs) (.bool (p x))) : ArgOk (Sy.fixed m v) N σ (.tmp t) true (fnAc D p) :=
  .clo rfl ht hc hf (fun ws hd => by obtain ⟨x, rfl, hx⟩ := hd; exact hs x hx) (fun ws hd => by obtain ⟨x, rfl, hx⟩ := hd; rfl)
theorem indexAc_spec (l : List Ac) (D : Ac → Prop) (p : Ac → Bool) (hl : l.length ≤ 9223372036854775807) (hD : ∀ x ∈ l, D x) : FnSpec Sy.P 74 [.sl false 3 (l.map acA), fnAc D p] [.sl false 3 (l.map acA), fnAc D p] (.int (fidx p l 0)) := by
  refine FnSpec.enter (S := Sy) 0 Tryz.func74 rfl rfl rfl Tryz.ntmps74 rfl rfl rfl rfl fun v0 => ?_
  (repeat' (first | refine w9x ?_ | (refine w9c ?_ ?_ <;> intro _ <;> try exact w9o) | (refine w9d ?_ ?_ <;> intro _ <;> try exact w9s) | (refine w9q ?_; intro bnil hbnil)))
  refine CW.loop (fun k : Nat => [(0, .av (.sl false 3 (l.map acA))), (1, .av (fnAc D p)), (7, .av (.int (l.length))), (8, .av (.int (k)))]) (fun k => k ≤ l.length ∧ fidx p l 0 = fidx p (l.drop k) k) (fun k => l.length - k) (0) ?_ (by exact w9a) ?_
  · exact ⟨Nat.zero_le _, rfl⟩
  intro k ⟨hk, hp⟩
  by_cases hlt : k < l.length
  · have hx : l[k]? = some l[k] := List.getElem?_eq_getElem hlt
    have hd : D l[k] := hD _ (List.getElem_mem hlt)
    rw [fidx_drop hlt] at hp
    have hres : (AV.bool (p (l[k].1, l[k].2.1, l[k].2.2.1, ()))) = .bool (p l[k]) := rfl
    cases hb : p l[k] with
    | true =>
      rw [hb, cond_true] at hp
      rw [hb] at hres
      rw [hp]
      (repeat' (first | refine w9x ?_ | (refine J.callF [acA l[k]] rfl rfl rfl ⟨_, rfl, hd⟩ (by (repeat' (first | exact ArgsOk.nil | apply ArgsOk.cons | exact ArgOk.pl rfl rfl | exact ArgOk.br rfl AV.noConfusion (by first | rfl | exact sh_int | exact sh_rows | exact sh_rowsO | exact sh_box | exact sh_map (fun _ => rfl))))) (by first | assumption | rfl | simp) rfl ?_) | (refine J.callFQ [acA l[k]] rfl rfl rfl ⟨_, rfl, hd⟩ (by (repeat' (first | exact ArgsOk.nil | apply ArgsOk.cons | exact ArgOk.pl rfl rfl | exact ArgOk.br rfl AV.noConfusion (by first | rfl | exact sh_int | exact sh_rows | exact sh_rowsO | exact sh_box | exact sh_map (fun _ => rfl))))) (by first | assumption | rfl | simp) rfl ?_) | (refine w9c ?_ ?_ <;> intro _ <;> try exact w9o) | (refine w9d ?_ ?_ <;> intro _ <;> try exact w9s) | (refine w9q ?_; intro bnil hbnil)))
      all_goals first | (rw [hb] at *; contradiction) | exact .mk rfl rfl rfl
    | false =>
      rw [hb, cond_false] at hp
      rw [hb] at hres
      (repeat' (first | refine w9x ?_ | (refine J.callF [acA l[k]] rfl rfl rfl ⟨_, rfl, hd⟩ (by (repeat' (first | exact ArgsOk.nil | apply ArgsOk.cons | exact ArgOk.pl rfl rfl | exact ArgOk.br rfl AV.noConfusion (by first | rfl | exact sh_int | exact sh_rows | exact sh_rowsO | exact sh_box | exact sh_map (fun _ => rfl))))) (by first | assumption | rfl | simp) rfl ?_) | (refine J.callFQ [acA l[k]] rfl rfl rfl ⟨_, rfl, hd⟩ (by (repeat' (first | exact ArgsOk.nil | apply ArgsOk.cons | exact ArgOk.pl rfl rfl | exact ArgOk.br rfl AV.noConfusion (by first | rfl | exact sh_int | exact sh_rows | exact sh_rowsO | exact sh_box | exact sh_map (fun _ => rfl))))) (by first | assumption | rfl | simp) rfl ?_) | (refine w9c ?_ ?_ <;> intro _ <;> try exact w9o) | (refine w9d ?_ ?_ <;> intro _ <;> try exact w9s) | (refine w9q ?_; intro bnil hbnil)))
      all_goals first | (rw [hb] at *; contradiction) | skip
      refine ⟨k+1, ?_, by first | omega | (simp only; omega), by exact w9a⟩
      exact ⟨by omega, hp⟩
  · obtain rfl : k = l.length := by omega
    rw [fidx_end] at hp
    rw [hp]
    (repeat' (first | refine w9x ?_ | (refine w9c ?_ ?_ <;> intro _ <;> try exact w9o) | (refine w9d ?_ ?_ <;> intro _ <;> try exact w9s) | (refine w9q ?_; intro bnil hbnil)))
    exact .mk rfl rfl rfl
theorem find1_spec (a : Ac) (s : Str) : FnSpec Sy.P 164 [acA a, .pt false [.str s]] [acA a, .pt false [.str s]] (.bool (decide (a.1 = s))) := by
  refine FnSpec.enter (S := Sy) 0 Tryz.func164 rfl rfl rfl Tryz.ntmps164 rfl rfl rfl rfl fun v0 => ?_
  (repeat' (first | refine w9x ?_ | (refine w9c ?_ ?_ <;> intro _ <;> try exact w9o) | (refine w9d ?_ ?_ <;> intro _ <;> try exact w9s) | (refine w9q ?_; intro bnil hbnil)))
  exact .mk rfl rfl rfl
theorem find1_arg {s : Str} {m : Nat} {v : Nat → Value} {N : Nat} {σ : St} {t q : Nat} (ht : FM.get σ t = .clo 164 [q]) (h1 : FM.get σ q = .av (.pt true [.str s])) : ArgOk (Sy.fixed m v) N σ (.tmp t) true (fnAc (fun _ => True) fun a => decide (a.1 = s)) :=
  cloAc (zs := [.pt false [.str s]]) ht (.cons h1 rfl .nil) (find1_spec ([], 0, 0, ()) []).ok fun x _ => find1_spec x s
/-- Where an account is; -1: there is none. -/
def fA (l : List Ac) (s : Str) : Int := fidx (fun a => decide (a.1 = s)) l 0
theorem find_spec (l : List Ac) (s : Str) (hl : l.length ≤ 9223372036854775807) : FnSpec Sy.P 103 [.sl false 3 (l.map acA), .str s] [.sl false 3 (l.map acA), .str s] (.int (fA l s)) := by
  have hI := indexAc_spec l (fun _ => True) (fun a => decide (a.1 = s)) hl (fun _ _ => trivial)
  refine FnSpec.enter (S := Sy) 0 Tryz.func103 rfl rfl rfl Tryz.ntmps103 rfl rfl rfl rfl fun v0 => ?_
  (repeat' (first | ((with_reducible apply J.step); rfl; (exact s_mkf (caps := [3]) rfl rfl)) | refine w9x ?_ | ((with_reducible first | apply J.callP (hI) | apply J.callPQ (hI)); rfl; rfl; (repeat' (first | exact ArgsOk.nil | exact find1_arg rfl rfl | apply ArgsOk.cons | exact ArgOk.pl rfl rfl | exact ArgOk.br rfl AV.noConfusion (by first | rfl | exact sh_int | exact sh_rows | exact sh_rowsO | exact sh_box | exact sh_map (fun _ => rfl)))); (first | rfl | exact gn0 | exact gnI)) | (refine w9c ?_ ?_ <;> intro _ <;> try exact w9o) | (refine w9d ?_ ?_ <;> intro _ <;> try exact w9s) | (refine w9q ?_; intro bnil hbnil)))
  exact .mk rfl rfl rfl
theorem cloneAc_spec (l : List Ac) (hl : l.length ≤ 1000000) : FnSpec Sy.P 49 [.sl false 3 (l.map acA)] [.sl false 3 (l.map acA)] (.sl true 3 (l.map acA)) := by
  refine FnSpec.enter (S := Sy) 0 Tryz.func49 rfl rfl rfl Tryz.ntmps49 rfl rfl rfl rfl fun v0 => ?_
  (repeat' (first | refine w9x ?_ | (refine w9c ?_ ?_ <;> intro _ <;> try exact w9o) | (refine w9d ?_ ?_ <;> intro _ <;> try exact w9s) | (refine w9q ?_; intro bnil hbnil)))
  · by_cases h : l = []
    · subst h
      exact .mkL rfl .nil rfl
    · have := hbnil (by simpa using h)
      simp_all
  · exact .mk rfl rfl rfl
theorem eqAc_run {a b : Ac} (w : World) : (Op.equal 46 (.agg (([.str a.1, .int a.2.1, .int a.2.2.1] : List AV).map AV.toV).toArray) (.agg (([.str b.1, .int b.2.1, .int b.2.2.1] : List AV).map AV.toV).toArray)).run Sy.P w = .ok (decide (a = b)) w := by
  have := run_eqAc (P := Sy.P) (t := 46) (ts := 9) (ti := 3) Tryz.underlying46 rfl rfl rfl rfl rfl rfl (by decide) (by decide) (by decide) (by kernel_rfl) Tryz.underlying9 Tryz.underlying3 a.1 b.1 a.2.1 b.2.1 a.2.2.1 b.2.2.1 w
  rw [show decide (a = b) = decide (a.1 = b.1 ∧ a.2.1 = b.2.1 ∧ a.2.2.1 = b.2.2.1) by
    rw [decide_eq_decide]
    constructor
    · intro h; subst h; exact ⟨rfl, rfl, rfl⟩
    · rintro ⟨h1, h2, h3⟩
      exact Prod.ext h1 (Prod.ext h2 (Prod.ext h3 rfl))]
  exact this
theorem eqT_succ {α : Type} {a b : List α} (h : a.length = b.length) {k : Nat} (hk : k < a.length) (hp : a.take k = b.take k) (hx : a[k] = b[k]'(by omega)) : a.take (k+1) = b.take (k+1) := by
  rw [List.take_succ_eq_append_getElem hk, List.take_succ_eq_append_getElem (by omega : k < b.length), hp, hx]
theorem neT_at {α : Type} [DecidableEq α] {a b : List α} {k : Nat} (hk : k < a.length) (hk' : k < b.length) (hx : a[k] ≠ b[k]) : decide (a = b) = false :=
  decide_eq_false fun h => by subst h; exact hx rfl
theorem eqAcs_spec (a b : List Ac) (hb : a.length ≤ 9223372036854775807) : FnSpec Sy.P 10 [.sl false 3 (a.map acA), .sl false 3 (b.map acA)] [.sl false 3 (a.map acA), .sl false 3 (b.map acA)] (.bool (decide (a = b))) := by
  refine FnSpec.enter (S := Sy) 0 Tryz.func10 rfl rfl rfl Tryz.ntmps10 rfl rfl rfl rfl fun v0 => ?_
  by_cases hlen : a.length = b.length
  · (repeat' (first | refine w9x ?_ | (refine w9c ?_ ?_ <;> intro _ <;> try exact w9o) | (refine w9d ?_ ?_ <;> intro _ <;> try exact w9s) | (refine w9q ?_; intro bnil hbnil)))
    all_goals first | (exfalso; omega) | skip
    refine CW.loop (fun k : Nat => [(0, .av (.sl false 3 (a.map acA))), (1, .av (.sl false 3 (b.map acA))), (12, .av (.int (a.length))), (13, .av (.int (k)))]) (fun k => k ≤ a.length ∧ a.take k = b.take k) (fun k => a.length - k) (0) ?_ (by exact w9a) ?_
    · exact ⟨Nat.zero_le _, rfl⟩
    intro k ⟨hk, hp⟩
    by_cases hlt : k < a.length
    · have hx : a[k]? = some a[k] := List.getElem?_eq_getElem hlt
      have hy : b[k]? = some (b[k]'(by omega)) := List.getElem?_eq_getElem (by omega)
      by_cases he : a[k] = b[k]'(by omega)
      · have hd : (!(decide (a[k] = b[k]'(by omega)))) = false := by rw [decide_eq_true he]; rfl
        (repeat' (first | ((with_reducible apply J.step); rfl; (exact s_neqAgg rfl rfl rfl rfl (by kernel_rfl) eqAc_run)) | refine w9x ?_ | (refine w9c ?_ ?_ <;> intro _ <;> try exact w9o) | (refine w9d ?_ ?_ <;> intro _ <;> try exact w9s) | (refine w9q ?_; intro bnil hbnil)))
        all_goals first | (exfalso; omega) | (exfalso; simp_all; done) | skip
        refine ⟨k+1, ?_, by first | omega | (simp only; omega), by exact w9a⟩
        exact ⟨by omega, eqT_succ hlen hlt hp he⟩
      · have hd : (!(decide (a[k] = b[k]'(by omega)))) = true := by rw [decide_eq_false he]; rfl
        rw [neT_at hlt (by omega) he]
        (repeat' (first | ((with_reducible apply J.step); rfl; (exact s_neqAgg rfl rfl rfl rfl (by kernel_rfl) eqAc_run)) | refine w9x ?_ | (refine w9c ?_ ?_ <;> intro _ <;> try exact w9o) | (refine w9d ?_ ?_ <;> intro _ <;> try exact w9s) | (refine w9q ?_; intro bnil hbnil)))
        all_goals first | (exfalso; omega) | (exfalso; simp_all; done) | exact .mk rfl rfl rfl
    · obtain rfl : a = b := by rw [List.take_of_length_le (by omega), List.take_of_length_le (by omega)] at hp; exact hp
      rw [decide_eq_true rfl]
      (repeat' (first | refine w9x ?_ | (refine w9c ?_ ?_ <;> intro _ <;> try exact w9o) | (refine w9d ?_ ?_ <;> intro _ <;> try exact w9s) | (refine w9q ?_; intro bnil hbnil)))
      all_goals first | (exfalso; omega) | exact .mk rfl rfl rfl
  · rw [show decide (a = b) = false from decide_eq_false fun h => hlen (by rw [h])]
    (repeat' (first | refine w9x ?_ | (refine w9c ?_ ?_ <;> intro _ <;> try exact w9o) | (refine w9d ?_ ?_ <;> intro _ <;> try exact w9s) | (refine w9q ?_; intro bnil hbnil)))
    all_goals first | (exfalso; omega) | exact .mk rfl rfl rfl
end Go.Proofs.YtkkcnppgcnmikaaGreatDoor
