/- A house: what its records tell, walked. -/
import Derived.Test.YtkkcnppgcnmikaaGreatDoorZdm
namespace Go.Proofs.YtkkcnppgcnmikaaGreatDoor
open Go FM Go.Proofs
set_option maxRecDepth 10000
set_option maxHeartbeats 3200000
set_option linter.all false
/-- Records read one by one. -/
def rcs (R : List Rc) : List Ac := R.foldl rcS []
structure Rrd (R : List Rc) (k : Nat) (A : List Ac) : Prop where
  le : k ≤ R.length
  eq : A = rcs (R.take k)
  al : AcL A
theorem rrd_zero (R : List Rc) : Rrd R 0 [] := ⟨Nat.zero_le _, rfl, ⟨by simp, fun a ha => by cases ha⟩⟩
theorem rrd_succ {R : List Rc} {k : Nat} {A : List Ac} {r : Rc} (h : Rrd R k A) (hr : R[k]? = some r) (hok : r.ok) : Rrd R (k + 1) (rcS A r) :=
  ⟨(List.getElem?_eq_some_iff.1 hr).1, by rw [rcs, List.take_add_one, hr, List.foldl_append, h.eq]; rfl, rcS_L h.al hok⟩
/-- The numbers of a deal, as far as they are read. -/
def xk (x : Dl) : Nat → List Int
  | 0 => [0, 0, 0, 0]
  | 1 => [x.2.2.1, 0, 0, 0]
  | 2 => [x.2.2.1, x.2.2.2.1, 0, 0]
  | 3 => [x.2.2.1, x.2.2.2.1, x.2.2.2.2.1, 0]
  | _ => [x.2.2.1, x.2.2.2.1, x.2.2.2.2.1, x.2.2.2.2.2.1]
theorem read_spec (A : List Ac) (O : List Dl) (k : Str) (n : Int) (R : List Rc) (hk : k.length ≤ 4000) (hs : (scan k).1 = R.map Rc.str) (hR : ∀ r ∈ R, r.ok) (hRl : R.length ≤ 4000) :
    FnSpec Sy.P 32 [hsV A O k n] [hsV (rcs R) [] k n] (.tup []) := by
  have h1 := logAll_spec k n hk
  rw [hs] at h1
  have hz := rrd_zero R
  have hfin : ∀ A, Rrd R R.length A → A = rcs R := fun A h => by rw [h.eq, List.take_length]
  have hml : (R.map Rc.str).length = R.length := List.length_map ..
  have hget : ∀ i (h : i < R.length), (R.map Rc.str)[i]? = some R[i].str := fun i h => by rw [List.getElem?_map, List.getElem?_eq_getElem h]; rfl
  generalize R.map Rc.str = rs at *
  refine FnSpec.enter (S := Sy) 1 Tryz.func32 rfl rfl rfl Tryz.ntmps32 rfl rfl rfl rfl fun v0 => ?_
  (repeat' (first | ((with_reducible apply J.step); rfl; ((with_reducible apply s_ldFb) <;> (first | rfl | exact AV.noConfusion))) | refine w9x ?_ | refine w9p (h1) ?_ | (refine w9c ?_ ?_ <;> intro _ <;> try exact w9o) | (refine w9d ?_ ?_ <;> intro _ <;> try exact w9s) | (refine w9q ?_; intro bnil hbnil)))
  refine CW.leS (x := .nil) 2 rfl (AV.le.nil (o := true) (c := 3)) ?_
  refine CW.loop (fun z : Nat × List Ac => [(0, .av (hsV A O k n)), (2, .av (.sl true 3 (z.2.map acA))), (14, .av (strs true rs)), (15, .av (.int (R.length))), (16, .av (.int (z.1)))]) (fun z => Rrd R z.1 z.2) (fun z => R.length - z.1) ((0, [])) ?_ (by (repeat' (first | exact trivial | rfl | refine And.intro ?_ ?_ | exact int_congr (by omega) | exact int_congr (by dsimp only; omega) | exact ints_congr (by first | assumption | exact Eq.symm (by assumption)) | exact int_congr (by assumption) | exact bool_congr (by first | assumption | exact Eq.symm (by assumption)) | exact map_congr' (by first | assumption | exact Eq.symm (by assumption)) | exact int_congr (by rw [hml])))) ?_
  · exact hz
  rintro ⟨i, B⟩ hS
  dsimp only at hS ⊢
  by_cases hi : i < R.length
  · have hg := hget i hi
    have hok := hR R[i] (List.getElem_mem hi)
    have hS2 := rrd_succ hS (List.getElem?_eq_getElem hi) hok
    have hSp := split_spec R[i].str [32] (by have := str_len hok; omega) (by simp)
    rw [pieces_str hok] at hSp
    have hBl := hS.al
    have hws := wsR_wd hok
    generalize R[i] = r at *
    cases r with
    | o s m =>
      have hA := atoi_spec (Lib.itoa m) (by have := Zp.itoa_len m hok.2.1 hok.2.2; omega)
      rw [numOf_itoa hok.2.1] at hA
      have hO := (open_spec B s m hBl (by have := nm_len hok.1; omega)).le resA_le
      have hrc : rcS B (.o s m) = ifA (opE B s m) (opM B s m) := rfl
      rw [hrc] at hS2
      generalize ifA (opE B s m) (opM B s m) = B2 at *
      generalize opE B s m = e at *
      have w0 : (wsR (.o s m))[0]? = some [111] := rfl
      have w1 : (wsR (.o s m))[1]? = some s := rfl
      have w2 : (wsR (.o s m))[2]? = some (Lib.itoa m) := rfl
      generalize wsR (.o s m) = ws at *
      generalize Lib.itoa m = z at *
      generalize (Rc.o s m).str = rstr at *
      (repeat' (first | refine w9x ?_ | refine w9p (hSp) ?_ | refine w9p (hA) ?_ | refine w9p (hO) ?_ | (refine w9c ?_ ?_ <;> intro _ <;> try exact w9o) | (refine w9d ?_ ?_ <;> intro _ <;> try exact w9s) | (refine w9q ?_; intro bnil hbnil)))
      all_goals first | (exfalso; omega) | skip
      refine ⟨(i+1, B2), ?_, by first | omega | (simp only; omega), by exact w9a⟩
      all_goals first | exact hS2 | omega
    | d x w =>
      have hn := dnums_ok hok.1
      have hT := (take_spec B x w hBl (by have := nm_len hok.1.f; omega) (by have := nm_len hok.1.t; omega)).le resA_le
      have hrc : rcS B (.d x w) = ifA (tkE B x w) (tkM B x w) := rfl
      rw [hrc] at hS2
      generalize ifA (tkE B x w) (tkM B x w) = B2 at *
      generalize tkE B x w = e at *
      have w0 : (wsR (.d x w))[0]? = some [100] := rfl
      have w1 : (wsR (.d x w))[1]? = some x.1 := rfl
      have w2 : (wsR (.d x w))[2]? = some x.2.1 := rfl
      have w7 : (wsR (.d x w))[7]? = some w := rfl
      have w3 : ∀ j, j < 4 → ∃ n, 0 ≤ n ∧ n ≤ 1000000 ∧ (wsR (.d x w))[3 + j]? = some (Lib.itoa n) ∧ (xk x j).set j n = xk x (j + 1) := fun j hj => by
        have h1 := hok.1.num; have h2 := hok.1.much; have h3 := hok.1.fee; have h4 := hok.1.size
        match j, hj with
        | 0, _ => exact ⟨_, h1.1, h1.2, rfl, rfl⟩
        | 1, _ => exact ⟨_, h2.1, h2.2, rfl, rfl⟩
        | 2, _ => exact ⟨_, h3.1, h3.2, rfl, rfl⟩
        | 3, _ => exact ⟨_, by omega, by omega, rfl, rfl⟩
      have wl : (wsR (.d x w)).length = 8 := rfl
      have xl : ∀ j, j ≤ 4 → (xk x j).length = 4 := fun j hj => by
        match j, hj with
        | 0, _ => rfl
        | 1, _ => rfl
        | 2, _ => rfl
        | 3, _ => rfl
        | 4, _ => rfl
      have x0 : (xk x 4)[0]? = some x.2.2.1 := rfl
      have x1 : (xk x 4)[1]? = some x.2.2.2.1 := rfl
      have x2 : (xk x 4)[2]? = some x.2.2.2.2.1 := rfl
      have x3 : (xk x 4)[3]? = some x.2.2.2.2.2.1 := rfl
      have xz : xk x 0 = [0, 0, 0, 0] := rfl
      generalize wsR (.d x w) = ws at *
      generalize (Rc.d x w).str = rstr at *
      (repeat' (first | refine w9x ?_ | refine w9p (hSp) ?_ | (refine w9c ?_ ?_ <;> intro _ <;> try exact w9o) | (refine w9d ?_ ?_ <;> intro _ <;> try exact w9s) | (refine w9q ?_; intro bnil hbnil)))
      all_goals first | (exfalso; omega) | skip
      refine CW.loop (fun j : Nat => [(0, .av (hsV A O k n)), (2, .av (.sl true 3 (B.map acA))), (5, .av (strs true ws)), (8, .av (.pt true ((xk x j).map .int))), (14, .av (strs true rs)), (15, .av (.int (R.length))), (16, .av (.int (i))), (42, .av (.int (j)))]) (fun j => j ≤ 4) (fun j => 4 - j) (0) ?_ (by exact w9a) ?_
      · exact Nat.zero_le _
      intro j hj
      by_cases hj4 : j < 4
      · obtain ⟨q, q0, q1, q2, q3⟩ := w3 j hj4
        have hA := atoi_spec (Lib.itoa q) (by have := Zp.itoa_len q q0 q1; omega)
        rw [numOf_itoa q0] at hA
        have hxl := xl j hj
        obtain ⟨yv, hyv⟩ : ∃ v, (xk x j)[j]? = some v := ⟨_, List.getElem?_eq_getElem (by omega)⟩
        generalize Lib.itoa q = z at *
        generalize hy2 : xk x (j + 1) = y2 at *
        generalize xk x j = y at *
        (repeat' (first | refine w9x ?_ | refine w9p (hA) ?_ | (refine w9c ?_ ?_ <;> intro _ <;> try exact w9o) | (refine w9d ?_ ?_ <;> intro _ <;> try exact w9s) | (refine w9q ?_; intro bnil hbnil)))
        all_goals first | (exfalso; omega) | skip
        refine ⟨j+1, ?_, by first | omega | (simp only; omega), by (repeat' (first | exact trivial | rfl | refine And.intro ?_ ?_ | exact int_congr (by omega) | exact int_congr (by dsimp only; omega) | exact ints_congr (by first | assumption | exact Eq.symm (by assumption)) | exact int_congr (by assumption) | exact bool_congr (by first | assumption | exact Eq.symm (by assumption)) | exact map_congr' (by first | assumption | exact Eq.symm (by assumption)) | exact congrArg (fun l : List Int => TV.av (.pt true (l.map .int))) (q3.trans hy2.symm)))⟩
        all_goals omega
      · obtain rfl : j = 4 := by omega
        generalize xk x 4 = y at *
        (repeat' (first | ((with_reducible refine w9i ?_); first | ((apply JA.one (fuel := 4) (i := 19)); kernel_rfl; rfl) | ((apply JA.take (fuel := 3) (i := 20)); rfl; exact .inl rfl; rfl; kernel_rfl; exact FM.st) | ((apply JA.takeW (fuel := 2) (i := 21)); rfl; rfl; kernel_rfl; exact (StepW.ext FM.st)) | ((apply JA.take (fuel := 1) (i := 23)); rfl; exact .inr rfl; rfl; kernel_rfl; exact FM.st) | ((apply JA.takeW (fuel := 0) (i := 22)); rfl; rfl; kernel_rfl; exact (StepW.ext FM.st)) | ((apply JA.done (fuel := 0)); kernel_rfl)) | ((refine CW.regU 19 5 ?_ (List.replicate 19 true ++ List.replicate 5 false) ?_ ?_ ?_); rfl; kernel_rfl; rfl; simp only [List.take_succ_cons, List.take_zero]) | refine w9x ?_ | refine w9p (hT) ?_ | (refine w9c ?_ ?_ <;> intro _ <;> try exact w9o) | (refine w9d ?_ ?_ <;> intro _ <;> try exact w9s) | (refine w9q ?_; intro bnil hbnil)))
        all_goals first | (exfalso; omega) | skip
        refine ⟨(i+1, B2), ?_, by first | omega | (simp only; omega), by exact w9a⟩
        all_goals first | exact hS2 | omega
  · obtain rfl : i = R.length := by have := hS.le; omega
    have hB := hfin B hS
    subst hB
    refine CW.freeze 2 rfl (sh_map (fun _ => rfl)) rfl ?_
    (repeat' (first | ((with_reducible apply J.eff); rfl; (exact e_stFle (z' := .sl false 6 []) rfl rfl rfl rfl .nil rfl rfl rfl rfl rfl rfl)) | refine w9x ?_ | (refine w9c ?_ ?_ <;> intro _ <;> try exact w9o) | (refine w9d ?_ ?_ <;> intro _ <;> try exact w9s) | (refine w9q ?_; intro bnil hbnil)))
    all_goals first | (exfalso; omega) | exact ⟨rfl, ⟨_, rfl, .refl _⟩, rfl, args_start (args_mu rfl rfl args_nil)⟩
end Go.Proofs.YtkkcnppgcnmikaaGreatDoor
