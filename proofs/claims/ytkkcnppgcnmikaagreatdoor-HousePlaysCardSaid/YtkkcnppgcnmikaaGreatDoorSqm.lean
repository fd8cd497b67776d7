/- Two structs of two integers compared. No program in sight. -/
import Derived.Test.YtkkcnppgcnmikaaGreatDoorFrm
namespace FM
open Go Go.RowKit
set_option linter.all false
section
variable {S : Sys} {σ : St} {d : Nat} {ty : Nat} {pos : String} {aft : Array Edge} {g : Option (Nat × Bool)}
theorem run_eqS2 {P : Program} {t e : Nat} {k : IntKind} {f1 f2 : Field} (ht : P.underlying t = some (.struct #[f1, f2])) (h1 : f1.type = e) (h2 : f2.type = e) (o1 : f1.offset = 0) (o2 : f2.offset = 1) (n1 : f1.name ≠ "_") (n2 : f2.name ≠ "_") (hs : P.stoodInHeld t = false)
    (he : P.underlying e = some (.int k)) (a b c d : Int) (w : World) : (Op.equal t (.agg #[.int .i64 a, .int .i64 b]) (.agg #[.int .i64 c, .int .i64 d])).run P w = .ok (decide (a = c ∧ b = d)) w := by
  have hg := fun w => run_isAgg (P := P) he w
  show (Op.equalIn (9999 + 1) t _ _).run P w = _
  have inner : ∀ (x y : Int) (w : World), (Op.equalIn 9999 e (.int .i64 x) (.int .i64 y)).run P w = .ok (x == y) w := fun x y w => by
    show (Op.equalIn (9998 + 1) e _ _).run P w = _
    unfold Op.equalIn
    rw [Sem.run_bind, run_underlying he, Result.andThen_ok]
    rfl
  have hb : ∀ x y : Int, (x == y) = decide (x = y) := fun x y => by rw [Bool.eq_iff_iff]; simp
  rw [Op.equalIn]
  simp only [Sem.run_bind, run_underlying ht, Result.andThen_ok, run_program, Sem.run_pure, hs]
  by_cases e1 : a = c <;> by_cases e2 : b = d <;> simp [inner, hb, e1, e2, hg, part, h1, h2, o1, o2, n1, n2]
theorem s_eqS2 {t t2 e : Nat} {k : IntKind} {f1 f2 : Field} {x y : Operand} {a b c d' : Int} (ht : S.P.underlying t = some (.struct #[f1, f2])) (h1 : f1.type = e) (h2 : f2.type = e) (o1 : f1.offset = 0) (o2 : f2.offset = 1) (n1 : f1.name ≠ "_") (n2 : f2.name ≠ "_") (hs : S.P.stoodInHeld t = false)
    (he : S.P.underlying e = some (.int k)) (hg : S.P.eqGuardType S.P.depth t = false)
    (hx : ov σ x = .av (.agg [.int a, .int b])) (hy : ov σ y = .av (.agg [.int c, .int d'])) : Step S ⟨some d, .binOp .eql t x y t2, ty, pos, aft, g⟩ σ (σ.put d (.av (.bool (decide (a = c ∧ b = d'))))) :=
  step_val rfl fun w0 L0 N A w L hR => ⟨.bool (decide (a = c ∧ b = d')), fun w' _ => by
    have hx' := rep_agg2 (ev_av hR hx).choose_spec
    have hy' := rep_agg2 (ev_av hR hy).choose_spec
    have e1 := run_eqS2 ht h1 h2 o1 o2 n1 n2 hs he a b c d' w'
    have e2 : (binOp .eql t (.agg #[.int .i64 a, .int .i64 b]) (.agg #[.int .i64 c, .int .i64 d'])).run S.P w' = .ok (.bool (decide (a = c ∧ b = d'))) w' := by
      show (do pure (.bool (← Op.equal t _ _)) : Sem Value).run S.P w' = _
      rw [Sem.run_bind, e1]; rfl
    simp only [execOp, hx', hy', Sem.run_bind]
    simp [run_guardA2 hg, e2], .bool⟩
end
end FM
