/- slices.DeleteFunc of offers. -/
import Derived.Test.YtkkcnppgcnmikaaGreatDoorHpnm
import Derived.Test.YtkkcnppgcnmikaaGreatDoorFsnm
import Derived.Test.YtkkcnppgcnmikaaGreatDoorHhnm
namespace Go.Proofs.YtkkcnppgcnmikaaGreatDoor
open Go FM Go.Proofs
set_option maxRecDepth 10000
set_option maxHeartbeats 3200000
set_option linter.all false
/-- How many of the first j are kept. -/
def cnt (p : Dl → Bool) (l : List Dl) (j : Nat) : Nat := ((l.take j).filter fun d => !p d).length
theorem kept_succ {p : Dl → Bool} {l : List Dl} {j : Nat} (h : j < l.length) : ((l.take (j + 1)).filter fun d => !p d) = ((l.take j).filter fun d => !p d) ++ (if p l[j] then [] else [l[j]]) := by
  rw [List.take_succ_eq_append_getElem h, List.filter_append]
  congr 1
  cases hp : p l[j] <;> simp [hp]
structure Dst (p : Dl → Bool) (l : List Dl) (j : Nat) (X : List Dl) : Prop where
  le : j ≤ l.length
  len : X.length = l.length
  lt : cnt p l j < j
  low : X.take (cnt p l j) = (l.take j).filter fun d => !p d
  high : X.drop j = l.drop j
theorem Dst.skip {p : Dl → Bool} {l : List Dl} {j : Nat} {X : List Dl} (h : Dst p l j X) (hj : j < l.length) (hp : p l[j] = true) : cnt p l (j + 1) = cnt p l j ∧ Dst p l (j + 1) X := by
  have hk := kept_succ (p := p) hj
  rw [if_pos hp, List.append_nil] at hk
  have hc : cnt p l (j + 1) = cnt p l j := by unfold cnt; rw [hk]
  refine ⟨hc, hj, h.len, by rw [hc]; have := h.lt; omega, by rw [hc, hk]; exact h.low, ?_⟩
  have := congrArg (List.drop 1) h.high
  rwa [List.drop_drop, List.drop_drop] at this
theorem Dst.keep {p : Dl → Bool} {l : List Dl} {j : Nat} {X : List Dl} (h : Dst p l j X) (hj : j < l.length) (hp : p l[j] = false) : cnt p l (j + 1) = cnt p l j + 1 ∧ Dst p l (j + 1) (X.set (cnt p l j) l[j]) := by
  have hk := kept_succ (p := p) hj
  rw [if_neg (by rw [hp]; simp)] at hk
  have hc : cnt p l (j + 1) = cnt p l j + 1 := by unfold cnt; rw [hk]; simp
  have hlt := h.lt
  have hlen := h.len
  refine ⟨hc, hj, by rw [List.length_set]; exact h.len, by rw [hc]; omega, ?_, ?_⟩
  · rw [hc, hk, ← h.low, List.take_succ_eq_append_getElem (by rw [List.length_set]; omega), List.getElem_set_self, List.take_set_of_le (by omega)]
  · rw [List.drop_set_of_lt (by omega)]
    have := congrArg (List.drop 1) h.high
    rwa [List.drop_drop, List.drop_drop] at this
theorem Dst.get {p : Dl → Bool} {l : List Dl} {j : Nat} {X : List Dl} (h : Dst p l j X) (hj : j < l.length) : X[j]? = some l[j] := by
  have := congrArg (fun z : List Dl => z[0]?) h.high
  simp only [List.getElem?_drop, Nat.add_zero] at this
  rw [this, List.getElem?_eq_getElem hj]
theorem fidx_first {α : Type} {p : α → Bool} : ∀ {l : List α} {k : Nat}, 0 ≤ fidx p l k → ∃ i : Nat, ∃ (h : i < l.length), fidx p l k = ((k + i : Nat) : Int) ∧ p l[i] = true ∧ ∀ (j : Nat) (hj : j < i), p (l[j]'(by omega)) = false
  | [], k, h => by simp [fidx] at h
  | x :: r, k, h => by
    rw [fidx_cons] at h ⊢
    cases hp : p x with
    | true => exact ⟨0, by simp, by rw [cond_true]; rfl, hp, fun j hj => absurd hj (Nat.not_lt_zero _)⟩
    | false =>
      rw [hp, cond_false] at h
      obtain ⟨i, hi, e1, e2, e3⟩ := fidx_first h
      refine ⟨i + 1, by simpa using hi, ?_, e2, fun j hj => ?_⟩
      · rw [cond_false, e1, show k + 1 + i = k + (i + 1) by omega]
      · cases j with
        | zero => exact hp
        | succ j => exact e3 j (by omega)
theorem Dst.start {p : Dl → Bool} {l : List Dl} {i : Nat} (h : i < l.length) (hp : p l[i] = true) (ha : ∀ (j : Nat) (hj : j < i), p (l[j]'(by omega)) = false) : cnt p l (i + 1) = i ∧ Dst p l (i + 1) l := by
  have hf : ((l.take i).filter fun d => !p d) = l.take i := by
    rw [List.filter_eq_self]
    intro d hd
    obtain ⟨j, hj, rfl⟩ := List.mem_iff_getElem.1 hd
    rw [List.length_take] at hj
    rw [List.getElem_take, ha j (by omega)]; rfl
  have hk := kept_succ (p := p) h
  rw [if_pos hp, List.append_nil, hf] at hk
  have hc : cnt p l (i + 1) = i := by unfold cnt; rw [hk, List.length_take]; omega
  exact ⟨hc, h, rfl, by omega, by rw [hc, hk], rfl⟩
theorem le_of_eqA {x y : AV} (h : x = y) : AV.le x y := h ▸ .refl _
theorem delf_spec (l : List Dl) (D : Dl → Prop) (p : Dl → Bool) (hl : l.length ≤ 1000) (hD : ∀ x ∈ l, D x) : FnSpec Sy.P 127 [.sl true 6 (l.map dlA), fnDl D p] [.dead, fnDl D p] (.sl true 6 ((l.filter fun d => !p d).map dlA)) := by
  have hI := indexDl_spec l D p (by omega) hD
  refine FnSpec.enter (S := Sy) 1 Tryz.func127 rfl rfl rfl Tryz.ntmps127 rfl rfl rfl rfl fun v0 => ?_
  by_cases h0 : 0 ≤ fidx p l 0
  · obtain ⟨i, hi, e1, hp, ha⟩ := fidx_first h0
    obtain ⟨hc0, hS0⟩ := Dst.start hi hp ha
    rw [e1, Nat.zero_add] at hI
    (repeat' (first | refine w9x ?_ | refine w9p (hI) ?_ | (refine w9c ?_ ?_ <;> intro _ <;> try exact w9o) | (refine w9d ?_ ?_ <;> intro _ <;> try exact w9s) | (refine w9q ?_; intro bnil hbnil)))
    all_goals first | (exfalso; omega) | skip
    refine CW.loop (fun v : Nat × List Dl => [(0, .av (.sl true 6 (v.2.map dlA))), (1, .av (fnDl D p)), (5, .av (.int (cnt p l v.1))), (6, .av (.int (v.1)))]) (fun v => Dst p l v.1 v.2) (fun v => l.length - v.1) ((i + 1, l)) ?_ (by exact w9a) ?_
    · exact hS0
    rintro ⟨j, X⟩ hS
    dsimp only at hS ⊢
    have hle := hS.le
    have hXl := hS.len
    have hct := hS.lt
    by_cases hlt : j < l.length
    · have hx := hS.get hlt
      have hd : D l[j] := hD _ (List.getElem_mem hlt)
      have hres : (AV.bool (p (l[j].1, l[j].2.1, l[j].2.2.1, l[j].2.2.2.1, l[j].2.2.2.2.1, l[j].2.2.2.2.2.1, ()))) = .bool (p l[j]) := rfl
      cases hb : p l[j] with
      | true =>
        obtain ⟨c1, hS1⟩ := hS.skip hlt hb
        generalize cnt p l j = c at *
        obtain ⟨o, hci⟩ : ∃ o, X[c]? = some o := ⟨_, List.getElem?_eq_getElem (show c < X.length by omega)⟩
        rw [hb] at hres
        (repeat' (first | refine w9x ?_ | (refine J.callF [dlA l[j]] rfl rfl rfl ⟨_, rfl, hd⟩ (by (repeat' (first | exact ArgsOk.nil | apply ArgsOk.cons | exact ArgOk.pl rfl rfl | exact ArgOk.br rfl AV.noConfusion (by first | rfl | exact sh_int | exact sh_rows | exact sh_rowsO | exact sh_box | exact sh_map (fun _ => rfl))))) (by first | assumption | rfl | simp) rfl ?_) | (refine J.callFQ [dlA l[j]] rfl rfl rfl ⟨_, rfl, hd⟩ (by (repeat' (first | exact ArgsOk.nil | apply ArgsOk.cons | exact ArgOk.pl rfl rfl | exact ArgOk.br rfl AV.noConfusion (by first | rfl | exact sh_int | exact sh_rows | exact sh_rowsO | exact sh_box | exact sh_map (fun _ => rfl))))) (by first | assumption | rfl | simp) rfl ?_) | (refine w9c ?_ ?_ <;> intro _ <;> try exact w9o) | (refine w9d ?_ ?_ <;> intro _ <;> try exact w9s) | (refine w9q ?_; intro bnil hbnil)))
        all_goals first | (exfalso; omega) | (exfalso; contradiction) | (exfalso; simp_all; done) | skip
        refine ⟨(j+1, X), ?_, by first | omega | (simp only; omega), by exact w9a⟩
        all_goals first | exact hS1 | omega
      | false =>
        obtain ⟨c1, hS1⟩ := hS.keep hlt hb
        generalize cnt p l j = c at *
        obtain ⟨o, hci⟩ : ∃ o, X[c]? = some o := ⟨_, List.getElem?_eq_getElem (show c < X.length by omega)⟩
        rw [hb] at hres
        (repeat' (first | ((with_reducible apply J.eff); rfl; (exact e_stM (x := l[j]) rfl rfl rfl rfl rfl rfl)) | refine w9x ?_ | (refine J.callF [dlA l[j]] rfl rfl rfl ⟨_, rfl, hd⟩ (by (repeat' (first | exact ArgsOk.nil | apply ArgsOk.cons | exact ArgOk.pl rfl rfl | exact ArgOk.br rfl AV.noConfusion (by first | rfl | exact sh_int | exact sh_rows | exact sh_rowsO | exact sh_box | exact sh_map (fun _ => rfl))))) (by first | assumption | rfl | simp) rfl ?_) | (refine J.callFQ [dlA l[j]] rfl rfl rfl ⟨_, rfl, hd⟩ (by (repeat' (first | exact ArgsOk.nil | apply ArgsOk.cons | exact ArgOk.pl rfl rfl | exact ArgOk.br rfl AV.noConfusion (by first | rfl | exact sh_int | exact sh_rows | exact sh_rowsO | exact sh_box | exact sh_map (fun _ => rfl))))) (by first | assumption | rfl | simp) rfl ?_) | (refine w9c ?_ ?_ <;> intro _ <;> try exact w9o) | (refine w9d ?_ ?_ <;> intro _ <;> try exact w9s) | (refine w9q ?_; intro bnil hbnil)))
        all_goals first | (exfalso; omega) | (exfalso; contradiction) | (exfalso; simp_all; done) | skip
        refine ⟨(j+1, X.set c l[j]), ?_, by first | omega | (simp only; omega), by exact w9a⟩
        all_goals first | exact hS1 | omega
    · obtain rfl : j = l.length := by omega
      have hlow := hS.low
      rw [List.take_length] at hlow
      have heq : ∀ rep : List AV, ((X.map dlA).take (cnt p l l.length) ++ rep).take ((cnt p l l.length : Nat) : Int).toNat = (l.filter fun d => !p d).map dlA := fun rep => by
        rw [Int.toNat_natCast, List.take_append_of_le_length (by rw [List.length_take, List.length_map]; omega), List.take_take, Nat.min_self, ← List.map_take, hlow]
      have hn1 : cnt p l l.length ≤ (X.map dlA).length := by rw [List.length_map]; omega
      have hn2 : X.map dlA ≠ [] := by intro e; rw [List.map_eq_nil_iff] at e; rw [e] at hXl; simp at hXl; omega
      have hn3 : (0 : Int) ≤ ((cnt p l l.length : Nat) : Int) := by omega
      have hn4 : ((cnt p l l.length : Nat) : Int).toNat ≤ ((X.map dlA).take (cnt p l l.length) ++ List.replicate ((X.map dlA).length - cnt p l l.length) (deadE 6)).length := by
        rw [List.length_append, List.length_take, List.length_replicate]; omega
      (repeat' (first | (refine J.clr rfl rfl rfl hn1 hn2 rfl rfl rfl rfl rfl ?_) | ((with_reducible apply J.step); rfl; (exact s_cutA rfl rfl rfl rfl rfl hn3 hn4 rfl)) | refine w9x ?_ | (refine w9c ?_ ?_ <;> intro _ <;> try exact w9o) | (refine w9d ?_ ?_ <;> intro _ <;> try exact w9s) | (refine w9q ?_; intro bnil hbnil)))
      all_goals first | (exfalso; omega) | exact ⟨rfl, ⟨_, rfl, le_of_eqA (congrArg (AV.sl true 6) (heq _))⟩, rfl, args_start (args_mv rfl (args_pl rfl args_nil))⟩
  · have hno := fidx_none (p := p) (show fidx p l 0 < 0 by omega)
    have hf : (l.filter fun d => !p d) = l := by rw [List.filter_eq_self]; intro d hd; rw [hno d hd]; rfl
    have hr := fidx_range (p := p) (l := l) (k := 0)
    rw [show fidx p l 0 = -1 by omega] at hI
    rw [hf]
    (repeat' (first | refine w9x ?_ | refine w9p (hI) ?_ | (refine w9c ?_ ?_ <;> intro _ <;> try exact w9o) | (refine w9d ?_ ?_ <;> intro _ <;> try exact w9s) | (refine w9q ?_; intro bnil hbnil)))
    all_goals first | (exfalso; omega) | exact ⟨rfl, ⟨_, rfl, .refl _⟩, rfl, args_start (args_mv rfl (args_pl rfl args_nil))⟩
end Go.Proofs.YtkkcnppgcnmikaaGreatDoor
