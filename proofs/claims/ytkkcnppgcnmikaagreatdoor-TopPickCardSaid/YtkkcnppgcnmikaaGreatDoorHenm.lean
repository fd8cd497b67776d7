/- Structs with names compared. No program in sight. -/
import Derived.Test.YtkkcnppgcnmikaaGreatDoorFrnm
import Derived.MapKept
namespace FM
open Go Go.RowKit
set_option linter.all false
section
variable {P : Program} {t ts ti : Nat}
theorem in_str {k : Nat} (h : P.underlying ts = some .string) (a b : List UInt8) (w : World) : (Op.equalIn (k + 1) ts (.string ⟨a.toArray⟩) (.string ⟨b.toArray⟩)).run P w = .ok (decide (a = b)) w := by
  unfold Op.equalIn
  rw [Sem.run_bind, run_underlying h, Result.andThen_ok]
  show Result.ok _ _ = _
  congr 1
  rw [Bool.eq_iff_iff, Go.MapKept.bytes_beq, decide_eq_true_eq]
  constructor
  · intro h; injection h with h; simpa using h
  · intro h; rw [h]
theorem in_int {k : Nat} (h : P.underlying ti = some (.int .i64)) (a b : Int) (w : World) : (Op.equalIn (k + 1) ti (.int .i64 a) (.int .i64 b)).run P w = .ok (decide (a = b)) w := by
  unfold Op.equalIn
  rw [Sem.run_bind, run_underlying h, Result.andThen_ok]
  show Result.ok _ _ = _
  congr 1
theorem agg_str {P : Program} {e : Nat} (he : P.underlying e = some .string) (w : World) : (isAgg e).run P w = .ok false w := by
  simp [isAgg, run_underlying he, Result.andThen]
theorem run_eqAc {f1 f2 f3 : Field} (ht : P.underlying t = some (.struct #[f1, f2, f3])) (h1 : f1.type = ts) (h2 : f2.type = ti) (h3 : f3.type = ti) (o1 : f1.offset = 0) (o2 : f2.offset = 1) (o3 : f3.offset = 2) (n1 : f1.name ≠ "_") (n2 : f2.name ≠ "_") (n3 : f3.name ≠ "_") (hs : P.stoodInHeld t = false)
    (hS : P.underlying ts = some .string) (hI : P.underlying ti = some (.int .i64)) (a a' : List UInt8) (b b' c c' : Int) (w : World) : (Op.equal t (.agg #[.string ⟨a.toArray⟩, .int .i64 b, .int .i64 c]) (.agg #[.string ⟨a'.toArray⟩, .int .i64 b', .int .i64 c'])).run P w = .ok (decide (a = a' ∧ b = b' ∧ c = c')) w := by
  have g1 := fun w => agg_str (P := P) hS w
  have g2 := fun w => run_isAgg (P := P) hI w
  have i1 := fun a b w => in_str (k := 9998) hS a b w
  have i2 := fun a b w => in_int (k := 9998) hI a b w
  show (Op.equalIn (9999 + 1) t _ _).run P w = _
  rw [Op.equalIn]
  simp only [Sem.run_bind, run_underlying ht, Result.andThen_ok, run_program, Sem.run_pure, hs]
  by_cases e1 : a = a'
  · by_cases e2 : b = b'
    · by_cases e3 : c = c' <;> simp [i1, i2, e1, e2, e3, g1, g2, part, h1, h2, h3, o1, o2, o3, n1, n2, n3]
    · simp [i1, i2, e1, e2, g1, g2, part, h1, h2, h3, o1, o2, o3, n1, n2, n3]
  · simp [i1, i2, e1, g1, g2, part, h1, h2, h3, o1, o2, o3, n1, n2, n3]
end
theorem rep_aggL {L : Nat → Lab} {w : World} {π : Option (List Nat)} {cs : List AV} {v : Value} (h : Rep L w π (.agg cs) v) (hc : cs.all (fun x => match x with | .int _ | .str _ => true | _ => false) = true) : v = .agg (cs.map AV.toV).toArray := by
  cases h with
  | @agg _ _ vs hl h =>
    congr 1
    refine congrArg List.toArray (List.ext_getElem? fun i => ?_)
    by_cases hi : i < cs.length
    · have h1 : cs[i]? = some cs[i] := List.getElem?_eq_getElem hi
      have h2 : vs[i]? = some (vs[i]'(by omega)) := List.getElem?_eq_getElem _
      have hr := h i _ _ h1 h2
      have hx := List.all_eq_true.1 hc _ (List.getElem_mem hi)
      rw [h2, List.getElem?_map, h1, Option.map_some]
      generalize cs[i] = x at hr hx
      generalize vs[i]'(by omega) = u at hr
      cases hr <;> first | rfl | cases hx
    · rw [List.getElem?_eq_none (by omega), List.getElem?_eq_none (by rw [List.length_map]; omega)]
section
variable {S : Sys} {σ : St} {d : Nat} {ty : Nat} {pos : String} {aft : Array Edge} {g : Option (Nat × Bool)}
theorem s_neqAgg {t t2 : Nat} {x y : Operand} {cs cs' : List AV} {b : Bool} (hx : ov σ x = .av (.agg cs)) (hy : ov σ y = .av (.agg cs')) (hc : cs.all (fun x => match x with | .int _ | .str _ => true | _ => false) = true) (hc' : cs'.all (fun x => match x with | .int _ | .str _ => true | _ => false) = true)
    (hg : S.P.eqGuardType S.P.depth t = false) (he : ∀ w, (Op.equal t (.agg (cs.map AV.toV).toArray) (.agg (cs'.map AV.toV).toArray)).run S.P w = .ok b w) : Step S ⟨some d, .binOp .neq t x y t2, ty, pos, aft, g⟩ σ (σ.put d (.av (.bool (!b)))) :=
  step_val rfl fun w0 L0 N A w L hR => ⟨.bool (!b), fun w' _ => by
    have hx' := rep_aggL (ev_av hR hx).choose_spec hc
    have hy' := rep_aggL (ev_av hR hy).choose_spec hc'
    have e2 : (binOp .neq t (.agg (cs.map AV.toV).toArray) (.agg (cs'.map AV.toV).toArray)).run S.P w' = .ok (.bool (!b)) w' := by
      show (do pure (.bool (!(← Op.equal t _ _))) : Sem Value).run S.P w' = _
      rw [Sem.run_bind, he w']; rfl
    simp only [execOp, hx', hy', Sem.run_bind]
    simp [run_guardA2 hg, e2], .bool⟩
end
end FM
