/- An abstract machine over the kit's rules, part 5: functions: what a call of one does; entering, returning, calling. -/
import Derived.Test.YtkkcnppgcnmikaaGreatDoorG0bnm
namespace FM
open Go Go.RowKit
set_option linter.all false

structure FnOk (P : Program) (f : Nat) : Prop where
  out : ∃ fn, P.funcs[f]? = some fn ∧ (fn.name == "runtime.NumGoroutine") = false ∧ fn.body.isNone = false

/-- What a call is handed: labels of what it may turn, by argument. -/
structure Pre (n : Nat) (L : Nat → Lab) (w : World) : Prop where
  lt : ∀ b p, L b = .my p → b < w.heap.size
  head : ∀ b p, L b = .my p → ∃ i q, p = i :: q ∧ i < n
  inj : ∀ b b' p, L b = .my p → L b' = .my p → b = b'
  new : ∀ b, w.heap.size ≤ b → L b ≠ .fo
  glob : Glob L w

structure Back (n : Nat) (xs9' : List AV) (r : AV) (L : Nat → Lab) (w : World) (vs : List Value) (v : Value) (w' : World) (L' : Nat → Lab) : Prop where
  keep : Keep L w w'
  lok : LOk L w L' w'
  head : ∀ b p, L' b = .my p → ∃ i q, p = i :: q ∧ i ≤ n
  args : ∀ i x u, xs9'[i]? = some x → vs[i]? = some u → Rep L' w' (some [i]) x u
  res : Rep L' w' (some [n]) r v

/-- **What a call of function f does**: handed what reads as 'as' it returns what reads as 'r', and its arguments then read as 'as''. -/
structure FnSpec (P : Program) (f : Nat) (xs9 xs9' : List AV) (r : AV) : Prop where
  ok : FnOk P f
  calls : ∀ (w : World) (L : Nat → Lab) (vs : List Value), vs.length = xs9.length → Pre xs9.length L w → (∀ i x v, xs9[i]? = some x → vs[i]? = some v → Rep L w (some [i]) x v) →
    Calls P f vs.toArray w fun e w' => ∃ v L', e = .returned v ∧ Back xs9.length xs9' r L w vs v w' L'

def idx : List Nat → Nat → Option Nat
  | [], _ => none
  | a :: r, t => bif Nat.beq a t then some 0 else (idx r t).map (· + 1)
theorem idx_spec : ∀ {ts : List Nat} {t k : Nat}, idx ts t = some k → ts[k]? = some t
  | [], _, _, h => by simp [idx] at h
  | a :: r, t, k, h => by
    simp only [idx] at h
    cases hb : Nat.beq a t with
    | true => rw [hb, cond_true] at h; injection h with h; subst h; simp [Nat.eq_of_beq_eq_true hb]
    | false =>
      rw [hb, cond_false, Option.map_eq_some_iff] at h
      obtain ⟨k', h1, rfl⟩ := h
      simpa using idx_spec h1
def idxOk : List Nat → Bool
  | [] => true
  | a :: r => !(r.any fun b => Nat.beq b a) && idxOk r
theorem idx_of : ∀ {ts : List Nat}, idxOk ts = true → ∀ {k t : Nat}, ts[k]? = some t → idx ts t = some k
  | [], _, k, t, h => by simp at h
  | a :: r, hok, 0, t, h => by
    simp only [List.getElem?_cons_zero, Option.some.injEq] at h
    subst h
    simp [idx, Nat.beq_refl]
  | a :: r, hok, k + 1, t, h => by
    simp only [List.getElem?_cons_succ] at h
    simp only [idxOk, Bool.and_eq_true, Bool.not_eq_true', List.any_eq_false] at hok
    have hne : Nat.beq a t = false := by
      refine not_beq fun e => ?_
      subst e
      exact hok.1 a (List.mem_of_getElem? h) (Nat.beq_refl a)
    simp [idx, hne, idx_of hok.2 h]

/-- Where what a slot owns goes when the call returns. -/
def rho (n : Nat) (single : Bool) (ts : List Nat) (t : Nat) : Option (List Nat) :=
  bif Nat.blt t n then some [t] else (idx ts t).map fun k => bif single then [n] else [n, k]
def relab (ρ : Nat → Option (List Nat)) (L : Nat → Lab) : Nat → Lab := fun b =>
  match L b with
  | .my (t :: q) => match ρ t with
    | some p => .my (p ++ q)
    | none => .sh
  | .my [] => .sh
  | l => l
theorem relab_my {ρ : Nat → Option (List Nat)} {L : Nat → Lab} {b : Nat} {p : List Nat} (h : relab ρ L b = .my p) : ∃ t q p', L b = .my (t :: q) ∧ ρ t = some p' ∧ p = p' ++ q := by
  simp only [relab] at h
  cases hL : L b with
  | my p0 =>
    rw [hL] at h
    cases p0 with
    | nil => cases h
    | cons t q =>
      simp only at h
      cases hρ : ρ t with
      | none => rw [hρ] at h; cases h
      | some p' => rw [hρ] at h; injection h with h; exact ⟨t, q, p', rfl, hρ, h.symm⟩
  | sh => rw [hL] at h; cases h
  | fo => rw [hL] at h; cases h
theorem relab_to {ρ : Nat → Option (List Nat)} {L : Nat → Lab} {b t : Nat} {q p : List Nat} (h : L b = .my (t :: q)) (hρ : ρ t = some p) : relab ρ L b = .my (p ++ q) := by
  simp only [relab, h, hρ]
theorem relab_sh {ρ : Nat → Option (List Nat)} {L : Nat → Lab} {b : Nat} (h : L b = .sh) : relab ρ L b = .sh := by simp only [relab, h]
theorem relab_fo {ρ : Nat → Option (List Nat)} {L : Nat → Lab} {b : Nat} : relab ρ L b = .fo ↔ L b = .fo := by
  simp only [relab]
  cases hL : L b with
  | my p => cases p with
    | nil => simp
    | cons t q => simp only; cases ρ t <;> simp
  | _ => simp

theorem LOk.relab {L0 L : Nat → Lab} {w0 w : World} (h : LOk L0 w0 L w) {ρ : Nat → Option (List Nat)} (hne : ∀ t p, ρ t = some p → p ≠ [])
    (hρ : ∀ t t' p p' q q', ρ t = some p → ρ t' = some p' → p ++ q = p' ++ q' → t = t' ∧ q = q') : LOk L0 w0 (FM.relab ρ L) w where
  lt b p hb := by obtain ⟨t, q, p', h1, _, _⟩ := relab_my hb; exact h.lt b _ h1
  inj b b' p hb hb' := by
    obtain ⟨t, q, p1, h1, h2, h3⟩ := relab_my hb
    obtain ⟨t', q', p1', h1', h2', h3'⟩ := relab_my hb'
    obtain ⟨rfl, rfl⟩ := hρ t t' p1 p1' q q' h2 h2' (h3.symm.trans h3')
    exact h.inj _ _ _ h1 h1'
  head b p hb := by
    obtain ⟨t, q, p1, h1, h2, h3⟩ := relab_my hb
    subst h3
    have := hne t p1 h2
    simp [this]
  old b p hlt hb := by obtain ⟨t, q, p', h1, _, _⟩ := relab_my hb; exact h.old b _ hlt h1
  fo b hb := relab_fo.trans (h.fo b hb)
  new b hb hf := h.new b hb (relab_fo.1 hf)

theorem rho_inj {n : Nat} {single : Bool} {ts : List Nat} (hs : single = true → ts.length = 1) : ∀ t t' p p' q q', rho n single ts t = some p → rho n single ts t' = some p' → p ++ q = p' ++ q' → t = t' ∧ q = q' := by
  intro t t' p p' q q' h h' he
  unfold rho at h h'
  cases hb : Nat.blt t n <;> cases hb' : Nat.blt t' n <;> simp only [hb, hb', cond_true, cond_false, Option.map_eq_some_iff, Option.some.injEq] at h h'
  · obtain ⟨k, h1, rfl⟩ := h
    obtain ⟨k', h1', rfl⟩ := h'
    have e1 := idx_spec h1
    have e1' := idx_spec h1'
    cases single with
    | true =>
      simp only [cond_true, List.singleton_append, List.cons.injEq, true_and] at he
      have := hs rfl
      have hk : k = 0 := by have := (List.getElem?_eq_some_iff.1 e1).1; omega
      have hk' : k' = 0 := by have := (List.getElem?_eq_some_iff.1 e1').1; omega
      subst hk; subst hk'
      rw [e1] at e1'
      exact ⟨Option.some.inj e1', he⟩
    | false =>
      simp only [cond_false, List.cons_append, List.nil_append, List.cons.injEq, true_and] at he
      obtain ⟨rfl, rfl⟩ := he
      rw [e1] at e1'
      exact ⟨Option.some.inj e1', rfl⟩
  · obtain ⟨k, h1, rfl⟩ := h
    subst h'
    have hlt : t' < n := by simp [Nat.blt] at hb'; omega
    exfalso
    cases single <;> simp at he <;> omega
  · obtain ⟨k, h1, rfl⟩ := h'
    subst h
    have hlt : t < n := by simp [Nat.blt] at hb; omega
    exfalso
    cases single <;> simp at he <;> omega
  · subst h; subst h'
    simpa using he
theorem rho_ne {n : Nat} {single : Bool} {ts : List Nat} : ∀ t p, rho n single ts t = some p → p ≠ [] := by
  intro t p h
  unfold rho at h
  cases hb : Nat.blt t n with
  | true => rw [hb, cond_true] at h; injection h with h; subst h; simp
  | false =>
    rw [hb, cond_false, Option.map_eq_some_iff] at h
    obtain ⟨k, _, rfl⟩ := h
    cases single <;> simp

/-! ### results -/
def ResultVar.slot : ResultVar → Nat
  | .tmp t => t
  | .cell t _ => t
def AV.one (ti : TI) : AV → Bool
  | .agg _ => false
  | z => !z.isOwn && !ti.k.isAgg
theorem one_spec {ti : TI} {z : AV} (h : z.one ti = true) : z.cells = [z] ∧ z.fits ti = true ∧ z.noOwn = true ∧ z.isOwn = false := by
  cases z <;> simp_all [AV.one, AV.cells, AV.fits, AV.noOwn]
def resOf (S : Sys) (σ : St) : ResultVar → Option AV
  | .tmp t => match get σ t with
    | .av y => some y
    | _ => none
  | .cell t ty => match get σ t, S.T ty with
    | .av (.pt true cs), some ti => match ti.k.isAgg with
      | true => bif Nat.beq cs.length ti.size && cs.all (fun z => !z.isOwn) then some (.agg cs) else none
      | false => match cs with
        | [y] => bif y.one ti then some y else none
        | _ => none
    | _, _ => none
def resL (S : Sys) (σ : St) : List ResultVar → Option (List AV)
  | [] => some []
  | r :: rs => match resOf S σ r, resL S σ rs with
    | some y, some ys => some (y :: ys)
    | _, _ => none
def pack : List AV → AV
  | [y] => y
  | ys => .tup ys
def packV : List Value → Value
  | [v] => v
  | vs => .tuple vs.toArray

def resSem (tmps : Array Value) : ResultVar → Sem Value
  | .tmp t => pure (tmps.getD t undef)
  | .cell p t => do loadVar t (← asAddr (tmps.getD p undef))

section
variable {S : Sys} {N : Nat} {σ : St}
theorem resL_get : ∀ {rvs : List ResultVar} {rs : List AV}, resL S σ rvs = some rs → rs.length = rvs.length ∧ ∀ (k : Nat) (rv : ResultVar) (y : AV), rvs[k]? = some rv → rs[k]? = some y → resOf S σ rv = some y
  | [], rs, h => by simp only [resL, Option.some.injEq] at h; subst h; exact ⟨rfl, fun k rv y h => by simp at h⟩
  | r :: rvs, rs, h => by
    simp only [resL] at h
    cases h1 : resOf S σ r with
    | none => rw [h1] at h; cases h
    | some y =>
      cases h2 : resL S σ rvs with
      | none => rw [h1, h2] at h; cases h
      | some ys =>
        rw [h1, h2] at h
        simp only [Option.some.injEq] at h
        subst h
        obtain ⟨e1, e2⟩ := resL_get h2
        refine ⟨by simp [e1], fun k rv y' hk hy => ?_⟩
        cases k with
        | zero => simp only [List.getElem?_cons_zero, Option.some.injEq] at hk hy; subst hk; subst hy; exact h1
        | succ k => simp only [List.getElem?_cons_succ] at hk hy; exact e2 k rv y' hk hy

/-- One result, read. -/
theorem res_run {w0 : World} {L0 : Nat → Lab} {a : Act} {w : World} {L : Nat → Lab} (hR : RelL S w0 L0 N σ a w L) {rv : ResultVar} {y : AV} (h : resOf S σ rv = some y) :
    ∃ v, (resSem a.tmps rv).run S.P w = .ok v w ∧ Rep L w (some [ResultVar.slot rv]) y v := by
  cases rv with
  | tmp t =>
    simp only [resOf] at h
    cases ht : get σ t with
    | av z =>
      rw [ht] at h
      simp only [Option.some.injEq] at h
      subst h
      have := hR.hold t (own_lt hR ht (by simp))
      rw [ht] at this
      exact ⟨_, rfl, this⟩
    | _ => rw [ht] at h; cases h
  | cell t ty =>
    simp only [resOf] at h
    split at h
    · rename_i cs ti ht hT
      have hh := hR.hold t (own_lt hR ht (by simp))
      rw [ht] at hh
      simp only [Hold] at hh
      have hok := S.ok ty ti hT
      split at h
      · rename_i hagg
        cases hc : (Nat.beq cs.length ti.size && cs.all (fun z => !z.isOwn)) with
        | false => rw [hc] at h; cases h
        | true =>
          rw [hc, cond_true] at h
          injection h with h
          subst h
          simp only [Bool.and_eq_true] at hc
          generalize hgv : a.tmps.getD t undef = v at hh
          cases hh with
          | @ptO p cs b arr e u hL hb hsz hcell hr =>
            have hno : (AV.agg cs).noOwn = true := hc.2
            obtain ⟨v, h1, h2, _⟩ := load_core hok (y := .agg cs) (b := b) (off := 0) (L := L) (π := fun j => some ([t] ++ [j])) (by simp [AV.fits, hagg, hc.1]) (Array.getElem?_eq_some_iff.1 hb).1 (noOwn_spec hno) (fun j z hz => ⟨u j, by
              rw [Nat.zero_add, cell_of_row w b j arr e (0, 0) hb]; exact hcell j (List.getElem?_eq_some_iff.1 hz).1, hr j z hz⟩)
            refine ⟨v, ?_, ?_⟩
            · simp only [resSem, hgv, asAddr, Sem.run_bind, Sem.run_pure, Result.andThen_ok]
              exact h1 w (Ext.refl w)
            · exact h2.replace rfl
      · rename_i hagg
        split at h
        · rename_i z
          cases hc : z.one ti with
          | false => rw [hc] at h; cases h
          | true =>
            rw [hc, cond_true] at h
            injection h with h
            subst h
            obtain ⟨hz1, hfit, hno, hown⟩ := one_spec hc
            generalize hgv : a.tmps.getD t undef = v at hh
            cases hh with
            | @ptO p cs b arr e u hL hb hsz hcell hr =>
              obtain ⟨v, h1, h2, _⟩ := load_core hok (y := z) (b := b) (off := 0) (L := L) (π := fun j => some ([t] ++ [j])) hfit (Array.getElem?_eq_some_iff.1 hb).1 (noOwn_spec hno) (fun j z' hz => ⟨u j, by
                rw [hz1] at hz
                rw [Nat.zero_add, cell_of_row w b j arr e (0, 0) hb]; exact hcell j (List.getElem?_eq_some_iff.1 hz).1, by rw [hz1] at hz; exact hr j z' hz⟩)
              refine ⟨v, ?_, ?_⟩
              · simp only [resSem, hgv, asAddr, Sem.run_bind, Sem.run_pure, Result.andThen_ok]
                exact h1 w (Ext.refl w)
              · exact h2.replace hown
        · cases h
    · cases h

theorem mapM_run {α β : Type} {P : Program} {w : World} (f : α → Sem β) : ∀ (l : List α) (vs : List β), vs.length = l.length → (∀ (k : Nat) x v, l[k]? = some x → vs[k]? = some v → (f x).run P w = .ok v w) → (l.mapM f).run P w = .ok vs w
  | [], vs, hl, _ => by
    have : vs = [] := List.eq_nil_of_length_eq_zero (by simpa using hl)
    subst this
    rfl
  | x :: l, [], hl, _ => by simp at hl
  | x :: l, v :: vs, hl, h => by
    have h0 := h 0 x v rfl rfl
    have ih := mapM_run f l vs (by simpa using hl) fun k y u hk hu => h (k + 1) y u (by simpa using hk) (by simpa using hu)
    simp only [List.mapM_cons, Sem.run_bind, h0, Result.andThen_ok, ih, Sem.run_pure]

theorem results_run {fn : Func} {rvs : List ResultVar} (hr : fn.results = rvs.toArray) {tmps : Array Value} {P : Program} {w : World} {vs : List Value} (hl : vs.length = rvs.length)
    (h : ∀ (k : Nat) rv v, rvs[k]? = some rv → vs[k]? = some v → (resSem tmps rv).run P w = .ok v w) :
    (results fn tmps).run P w = .ok (packV vs) w := by
  have hm := mapM_run (P := P) (w := w) (resSem tmps) rvs vs hl h
  have e : results fn tmps = (do let vs ← fn.results.mapM (resSem tmps); pure (if h : vs.size = 1 then vs[0] else .tuple vs)) := by
    unfold results
    congr 2
  rw [e, hr, Sem.run_bind, List.mapM_toArray, Sem.run_map, hm]
  simp only [Result.andThen_ok, Sem.run_pure]
  match vs with
  | [] => rfl
  | [v] => rfl
  | v :: u :: vs => simp [packV]

def initL : Nat → List AV → List (Nat × TV)
  | _, [] => []
  | k, a :: r => (k, .av a) :: initL (k + 1) r
theorem get_initL : ∀ (xs9 : List AV) (k n : Nat), get (ofL (initL k xs9)) n = if k ≤ n then (match xs9[n - k]? with | some x => .av x | none => .none) else .none
  | [], k, n => by simp [initL, ofL, get]
  | a :: xs9, k, n => by
    simp only [initL, ofL, get, kill_eq]
    rw [get_initL xs9 (k + 1) n]
    by_cases hkn : k = n
    · subst hkn; simp [Nat.beq_refl]
    · rw [not_beq hkn, cond_false]
      by_cases hlt : k + 1 ≤ n
      · rw [if_pos hlt, if_pos (by omega), show n - k = (n - (k + 1)) + 1 by omega, List.getElem?_cons_succ]
        cases xs9[n - (k + 1)]? <;> simp [TV.dep]
      · rw [if_neg hlt, if_neg (by omega)]; rfl

/-- What must hold of the frame where the call returns. -/
def Sys.fixedF (S : Sys) (M : Nat → Bool) (v : Nat → Value) : Sys := { S with M := M, v0 := v, D := [] }
def Sys.fixed (S : Sys) (m : Nat) (v : Nat → Value) : Sys := S.fixedF (fun i => Nat.blt i m) v
/-- nil may be read as an empty slice. -/
inductive AV.le : AV → AV → Prop
  | refl (x : AV) : AV.le x x
  | nil {o : Bool} {c : Nat} : AV.le .nil (.sl o c [])
  | tup {xs ys : List AV} (hl : xs.length = ys.length) (h : ∀ (i : Nat) x y, xs[i]? = some x → ys[i]? = some y → AV.le x y) : AV.le (.tup xs) (.tup ys)
  | sl {o : Bool} {c : Nat} {xs ys : List AV} (hl : xs.length = ys.length) (hx : ∀ x ∈ xs, x.cells = [x]) (hy : ∀ y ∈ ys, y.cells = [y]) (h : ∀ (i : Nat) x y, xs[i]? = some x → ys[i]? = some y → AV.le x y) : AV.le (.sl o c xs) (.sl o c ys)
theorem flat_single : ∀ {xs : List AV}, (∀ x ∈ xs, x.cells = [x]) → flat xs = xs
  | [], _ => rfl
  | x :: xs, h => by
    have ih := flat_single (xs := xs) fun y hy => h y (List.mem_cons_of_mem _ hy)
    simp only [flat, List.flatMap_cons] at ih ⊢
    rw [ih, h x (List.mem_cons_self ..)]; rfl
theorem Rep.le {x y : AV} (h : AV.le x y) : ∀ {L : Nat → Lab} {w : World} {π : Option (List Nat)} {v : Value}, Rep L w π x v → Rep L w π y v := by
  induction h with
  | refl => exact fun h => h
  | nil => intro L w π v h; cases h; exact .slE (fun _ => rfl)
  | @tup xs ys hl h ih =>
    intro L w π v h
    cases h with
    | tup hl' h' =>
      refine .tup (by rw [hl', hl]) fun i y u hy hu => ?_
      have hi : i < xs.length := by rw [hl]; exact (List.getElem?_eq_some_iff.1 hy).1
      exact ih i xs[i] y (List.getElem?_eq_getElem hi) hy (h' i xs[i] u (List.getElem?_eq_getElem hi) hu)
  | @sl o c xs ys hl hx hy h ih =>
    intro L w π v h
    have back : ∀ (i : Nat) y, ys[i]? = some y → ∃ x, xs[i]? = some x := fun i y hy => by
      have hi : i < xs.length := by rw [hl]; exact (List.getElem?_eq_some_iff.1 hy).1
      exact ⟨xs[i], List.getElem?_eq_getElem hi⟩
    have hc' : (∀ x ∈ xs, x.cells.length = c) → ∀ y ∈ ys, y.cells.length = c := fun hc y hm => by
      obtain ⟨i, hi⟩ := List.getElem?_of_mem hm
      obtain ⟨x, hx'⟩ := back i y hi
      have h1 := hc x (List.mem_of_getElem? hx')
      rw [hx x (List.mem_of_getElem? hx')] at h1
      rw [hy y hm]; exact h1
    cases h with
    | slE h0 =>
      have : ys = [] := List.eq_nil_of_length_eq_zero (by rw [← hl]; rfl)
      subst this
      exact .slE h0
    | slS u hcap hL hb hc hcell hr =>
      rw [hl]
      refine .slS u (by omega) hL hb (hc' hc) (by rw [← hl]; exact hcell) fun o y hyo => ?_
      rw [flat_single hy] at hyo
      obtain ⟨x, hx'⟩ := back o y hyo
      exact ih o x y hx' hyo (hr o x (by rw [flat_single hx]; exact hx'))
    | slO u hL hb hcap hsz hc hcell hr =>
      rw [hl]
      refine .slO u hL hb (by omega) hsz (hc' hc) (by rw [← hl]; exact hcell) fun o y hyo => ?_
      rw [flat_single hy] at hyo
      obtain ⟨x, hx'⟩ := back o y hyo
      exact ih o x y hx' hyo (hr o x (by rw [flat_single hx]; exact hx'))
/-- A function's body ends. -/
def isRet : Exit → Bool
  | .ret | .normal => true
  | _ => false
def Ret (S : Sys) (rvs : List ResultVar) (xs9 xs9' : List AV) (r : AV) (e : Exit) (σ : St) : Prop :=
  isRet e = true ∧ (∃ rs, resL S σ rvs = some rs ∧ AV.le (pack rs) r) ∧ xs9'.length = xs9.length ∧
  ∀ (i : Nat) (x y : AV), xs9[i]? = some x → xs9'[i]? = some y → (x.isOwn = false ∧ y = x) ∨ (S.M i = true ∧ (get σ i = .av y ∨ y = .dead))

/-- **What a call of function f does**, told by a relation: what its arguments then read as, and the result. -/
structure FnSpecE (P : Program) (f : Nat) (xs9 : List AV) (R : List AV → AV → Prop) : Prop where
  ok : FnOk P f
  calls : ∀ (w : World) (L : Nat → Lab) (vs : List Value), vs.length = xs9.length → Pre xs9.length L w → (∀ i x v, xs9[i]? = some x → vs[i]? = some v → Rep L w (some [i]) x v) →
    Calls P f vs.toArray w fun e w' => ∃ v L' xs9' r, e = .returned v ∧ R xs9' r ∧ Back xs9.length xs9' r L w vs v w' L'
theorem FnSpecE.toFn {P : Program} {f : Nat} {xs9 xs9' : List AV} {r : AV} {R : List AV → AV → Prop} (h : FnSpecE P f xs9 R) (hR : ∀ x y, R x y → x = xs9' ∧ y = r) : FnSpec P f xs9 xs9' r :=
  ⟨h.ok, fun w L vs h1 h2 h3 => (h.calls w L vs h1 h2 h3).mono fun e w' ⟨v, L', x, y, he, hxy, hB⟩ => by
    obtain ⟨rfl, rfl⟩ := hR x y hxy
    exact ⟨v, L', he, hB⟩⟩
theorem FnSpec.toE {P : Program} {f : Nat} {xs9 xs9' : List AV} {r : AV} (h : FnSpec P f xs9 xs9' r) : FnSpecE P f xs9 fun x y => x = xs9' ∧ y = r :=
  ⟨h.ok, fun w L vs h1 h2 h3 => (h.calls w L vs h1 h2 h3).mono fun e w' ⟨v, L', he, hB⟩ => ⟨v, L', _, _, he, ⟨rfl, rfl⟩, hB⟩⟩
theorem FnSpecE.mono {P : Program} {f : Nat} {xs9 : List AV} {R R' : List AV → AV → Prop} (h : FnSpecE P f xs9 R) (hR : ∀ x y, R x y → R' x y) : FnSpecE P f xs9 R' :=
  ⟨h.ok, fun w L vs h1 h2 h3 => (h.calls w L vs h1 h2 h3).mono fun e w' ⟨v, L', x, y, he, hxy, hB⟩ => ⟨v, L', x, y, he, hR x y hxy, hB⟩⟩

/-- Entering a function. -/
theorem FnSpecE.enter (M : Nat → Bool) {f : Nat} {fn : Func} {c : Code} {rvs : List ResultVar} {xs9 : List AV} {R : List AV → AV → Prop} (hf : S.P.funcs[f]? = some fn) (hb : fn.body = some c) (hname : (fn.name == "runtime.NumGoroutine") = false) (hr : fn.results = rvs.toArray) (hN : fn.ntmps = N)
    (hlen : Nat.ble xs9.length N = true) (hidx : idxOk (rvs.map ResultVar.slot) = true) (hge : (rvs.map ResultVar.slot).all (fun t => Nat.ble xs9.length t) = true)
    (hm : ∀ i, M i = true → i < xs9.length) (h : ∀ v0, CW (S.fixedF M v0) N c (fun e σ' => ∃ xs9' r, R xs9' r ∧ Ret (S.fixedF M v0) rvs xs9 xs9' r e σ') (ofL (initL 0 xs9))) : FnSpecE S.P f xs9 R := by
  have hlen' : xs9.length ≤ N := Nat.le_of_ble_eq_true hlen
  refine ⟨⟨fn, hf, hname, by rw [hb]; rfl⟩, fun w L vs hvs hpre hargs => ?_⟩
  refine calls_of_wp hf hb ?_
  rw [List.size_toArray, hvs, hN]
  have h := h fun i => vs.getD i undef
  unfold CW at h
  have hsize : (vs.toArray ++ Array.replicate (N - xs9.length) undef).size = N := by simp [hvs]; omega
  have hget : ∀ i v, vs[i]? = some v → (vs.toArray ++ Array.replicate (N - xs9.length) undef).getD i undef = v := fun i v hv => by
    have hi : i < vs.length := (List.getElem?_eq_some_iff.1 hv).1
    rw [Array.getD_eq_getD_getElem?, Array.getElem?_append_left (by simpa using hi)]
    simp [hv]
  refine h w L _ _ w (fun e σ' a' w' hret hR => ?_) ⟨L, rfl, hsize, ⟨rfl, rfl, rfl, Nat.le_refl _, fun _ _ _ => rfl⟩, ⟨hpre.lt, hpre.inj, fun b p hb hp => ?_, fun b p _ hb => ⟨p, hb⟩, fun b _ => Iff.rfl, hpre.new⟩, fun n hn => ?_, fun n hn => ?_, fun i hi => ?_, hpre.glob⟩
  · obtain ⟨xs9', r, hRR, hee, ⟨rs, hrs, hle⟩, hl', has⟩ := hret
    suffices hkk : bodyPost S.P fn _ .ret a' w' by
      cases e with
      | ret => exact hkk
      | normal => exact hkk
      | _ => cases hee
    clear hee
    obtain ⟨L', hR⟩ := hR
    obtain ⟨hrl, hrk⟩ := resL_get hrs
    -- the results' values
    obtain ⟨us, hul, hus⟩ := gather (R := fun k y v => ∃ rv, rvs[k]? = some rv ∧ (resSem a'.tmps rv).run S.P w' = .ok v w' ∧ Rep L' w' (some [ResultVar.slot rv]) y v) rs 0 (fun k y hy => by
      have hk : k < rvs.length := by rw [← hrl]; exact (List.getElem?_eq_some_iff.1 hy).1
      obtain ⟨v, h1, h2⟩ := res_run hR (hrk k rvs[k] y (List.getElem?_eq_getElem hk) hy)
      exact ⟨v, rvs[k], by rw [Nat.zero_add]; exact List.getElem?_eq_getElem hk, h1, h2⟩)
    have hrun : (results fn a'.tmps).run S.P w' = .ok (packV us) w' := results_run hr (by rw [hul, hrl]) fun k rv v hk hv => by
      have hkr : k < rs.length := by rw [hrl]; exact (List.getElem?_eq_some_iff.1 hk).1
      obtain ⟨rv', h1, h2, _⟩ := hus k rs[k] v (List.getElem?_eq_getElem hkr) hv
      rw [Nat.zero_add, hk] at h1
      injection h1 with h1
      subst h1
      exact h2
    refine ⟨hR.defers, packV us, hrun, packV us, relab (rho xs9.length (Nat.beq rvs.length 1) (rvs.map ResultVar.slot)) L', xs9', r, rfl, hRR, hR.keep, hR.lok.relab rho_ne (rho_inj fun hs => by simpa using Nat.eq_of_beq_eq_true hs), fun b p hb => ?_, fun i x u hx hu => ?_, ?_⟩
    · obtain ⟨t, q, p', h1, h2, rfl⟩ := relab_my hb
      unfold rho at h2
      cases hbl : Nat.blt t xs9.length with
      | true =>
        rw [hbl, cond_true] at h2; injection h2 with h2; subst h2
        have : t < xs9.length := by simp [Nat.blt] at hbl; omega
        exact ⟨t, q, rfl, by omega⟩
      | false =>
        rw [hbl, cond_false, Option.map_eq_some_iff] at h2
        obtain ⟨k, _, rfl⟩ := h2
        cases Nat.beq rvs.length 1 with
        | true => exact ⟨xs9.length, q, rfl, Nat.le_refl _⟩
        | false => exact ⟨xs9.length, k :: q, rfl, Nat.le_refl _⟩
    · have hi : i < xs9.length := by rw [← hl']; exact (List.getElem?_eq_some_iff.1 hx).1
      have hrho : rho xs9.length (Nat.beq rvs.length 1) (rvs.map ResultVar.slot) i = some [i] := by
        unfold rho
        have : Nat.blt i xs9.length = true := by simp [Nat.blt]; omega
        rw [this, cond_true]
      rcases has i xs9[i] x (List.getElem?_eq_getElem hi) hx with ⟨ho, rfl⟩ | ⟨him, hg | rfl⟩
      · -- an argument that is shared reads xs9 it did
        have h0 := (hargs i xs9[i] u (List.getElem?_eq_getElem hi) hu).replace (π' := none) ho
        have h1 : Rep (relab (rho xs9.length (Nat.beq rvs.length 1) (rvs.map ResultVar.slot)) L') w' none xs9[i] u := by
          refine Rep.frame hR.keep.size hR.keep.os hR.keep.tape hR.keep.output (fun b hb hlt => ?_) h0 none (fun p hp => by cases hp)
          refine ⟨?_, hR.keep.block b hlt (fun p hp => by rw [hb] at hp; cases hp)⟩
          cases hL' : L' b with
          | sh => exact relab_sh hL'
          | fo => have := (hR.lok.fo b hlt).1 hL'; rw [hb] at this; cases this
          | my p => obtain ⟨q, hq⟩ := hR.lok.old b p hlt hL'; rw [hb] at hq; cases hq
        exact h1.any _
      · have hiN : i < N := by omega
        have hh := hR.hold i hiN
        rw [hg] at hh
        simp only [Hold] at hh
        have hfix := hR.fix i him
        have hui : vs.getD i undef = u := by simp [List.getD_eq_getElem?_getD, hu]
        have : a'.tmps.getD i undef = u := hfix.trans hui
        rw [this] at hh
        refine Rep.frame (Nat.le_refl _) rfl rfl rfl (fun b hb _ => ⟨relab_sh hb, rfl⟩) hh _ fun p hp => ?_
        cases hp
        exact ⟨[i], rfl, fun b q hb => ⟨relab_to hb hrho, rfl⟩⟩
      · exact .dead
    · refine Rep.le hle ?_
      have hge' := List.all_eq_true.1 hge
      have hbl : ∀ k rv, rvs[k]? = some rv → rho xs9.length (Nat.beq rvs.length 1) (rvs.map ResultVar.slot) (ResultVar.slot rv) = some (bif Nat.beq rvs.length 1 then [xs9.length] else [xs9.length, k]) := fun k rv hk => by
        have hm : (rvs.map ResultVar.slot)[k]? = some (ResultVar.slot rv) := by rw [List.getElem?_map, hk]; rfl
        have := hge' _ (List.mem_of_getElem? hm)
        unfold rho
        have hb : Nat.blt (ResultVar.slot rv) xs9.length = false := by
          have := Nat.le_of_ble_eq_true this
          rw [← Bool.not_eq_true]; intro hc; simp [Nat.blt] at hc; omega
        rw [hb, cond_false, idx_of hidx hm]; rfl
      have key : ∀ k y v, rs[k]? = some y → us[k]? = some v → Rep (relab (rho xs9.length (Nat.beq rvs.length 1) (rvs.map ResultVar.slot)) L') w' (some (bif Nat.beq rvs.length 1 then [xs9.length] else [xs9.length, k])) y v := fun k y v hy hv => by
        obtain ⟨rv, h1, _, h3⟩ := hus k y v hy hv
        rw [Nat.zero_add] at h1
        refine Rep.frame (Nat.le_refl _) rfl rfl rfl (fun b hb _ => ⟨relab_sh hb, rfl⟩) h3 _ fun p hp => ?_
        cases hp
        exact ⟨_, rfl, fun b q hb => ⟨relab_to hb (hbl k rv h1), rfl⟩⟩
      match hrs' : rs, us, hul with
      | [], [], _ => exact .tup rfl (fun i x v h => by simp at h)
      | [y], [v], _ =>
        have h1 : Nat.beq rvs.length 1 = true := by rw [← hrl]; rfl
        have := key 0 y v (by simp) (by simp)
        rw [show (bif Nat.beq rvs.length 1 then [xs9.length] else [xs9.length, 0]) = [xs9.length] from by rw [h1]; rfl] at this
        exact this
      | y :: y' :: ys, v :: v' :: us', hul =>
        have h1 : Nat.beq rvs.length 1 = false := by rw [← hrl]; exact not_beq (by simp)
        refine .tup hul fun k x u hx hu => ?_
        have := key k x u (by simpa using hx) (by simpa using hu)
        rw [show (bif Nat.beq rvs.length 1 then [xs9.length] else [xs9.length, k]) = [xs9.length, k] from by rw [h1]; rfl] at this
        exact this
  · subst hp
    obtain ⟨i, q, h, _⟩ := hpre.head b [] hb
    cases h
  · rw [get_initL xs9 0 n, if_pos (Nat.zero_le _), Nat.sub_zero]
    cases hx : xs9[n]? with
    | none => trivial
    | some x =>
      have hn' : n < vs.length := by rw [hvs]; exact (List.getElem?_eq_some_iff.1 hx).1
      simp only [Hold]
      rw [hget n vs[n] (List.getElem?_eq_getElem hn')]
      exact hargs n x _ hx (List.getElem?_eq_getElem hn')
  · rw [get_initL xs9 0 n, if_pos (Nat.zero_le _), Nat.sub_zero, List.getElem?_eq_none (by omega)]
  · have hml : i < xs9.length := hm i hi
    have hi' : i < vs.length := by omega
    rw [hget i vs[i] (List.getElem?_eq_getElem hi')]
    show vs[i] = vs.getD i undef
    simp [List.getD_eq_getElem?_getD, hi']
theorem FnSpec.enter (m : Nat) {f : Nat} {fn : Func} {c : Code} {rvs : List ResultVar} {xs9 xs9' : List AV} {r : AV} (hf : S.P.funcs[f]? = some fn) (hb : fn.body = some c) (hname : (fn.name == "runtime.NumGoroutine") = false) (hr : fn.results = rvs.toArray) (hN : fn.ntmps = N)
    (hlen : Nat.ble xs9.length N = true) (hidx : idxOk (rvs.map ResultVar.slot) = true) (hge : (rvs.map ResultVar.slot).all (fun t => Nat.ble xs9.length t) = true)
    (hm : Nat.ble m xs9.length = true) (h : ∀ v0, CW (S.fixed m v0) N c (Ret (S.fixed m v0) rvs xs9 xs9' r) (ofL (initL 0 xs9))) : FnSpec S.P f xs9 xs9' r :=
  (FnSpecE.enter (R := fun x y => x = xs9' ∧ y = r) (fun i => Nat.blt i m) hf hb hname hr hN hlen hidx hge (fun i hi => by
    have := Nat.le_of_ble_eq_true hm
    simp [Nat.blt] at hi; omega) fun v0 => (h v0).mono fun e σ' hret => ⟨_, _, ⟨rfl, rfl⟩, hret⟩).toFn fun _ _ h => h
end
end FM

/- An abstract machine over the kit's rules, part 6: calls. -/
namespace FM
open Go Go.RowKit

/-! ### a seat's table of types -/
def look : List (Nat × TI) → Nat → Option TI
  | [], _ => none
  | (k, i) :: r, t => bif Nat.beq k t then some i else look r t
def TabOk (P : Program) : List (Nat × TI) → Prop
  | [] => True
  | e :: r => TOk P e.1 e.2 ∧ TabOk P r
theorem look_ok {P : Program} : ∀ {l : List (Nat × TI)}, TabOk P l → ∀ {t : Nat} {i : TI}, look l t = some i → TOk P t i
  | [], _, t, i, h => by simp [look] at h
  | (k, j) :: r, hok, t, i, h => by
    simp only [look] at h
    cases hk : Nat.beq k t with
    | true => rw [hk, cond_true] at h; injection h with h; subst h; have := Nat.eq_of_beq_eq_true hk; subst this; exact hok.1
    | false => rw [hk, cond_false] at h; exact look_ok hok.2 h
theorem TOk.ofInfo {P : Program} {t size bytes : Nat} {zero : List AV} (h : (P.info? t).map (fun i => (i.size, i.bytes)) = some (size, bytes)) (hz : (P.info? t).bind (fun i => i.zero.map (·.cells.toList)) = some (zero.map AV.toV)) (hf : zero.all AV.flatPlain = true) (hl : zero.length = size) :
    ∃ f z, P.info? t = some f ∧ f.size = size ∧ f.bytes = bytes ∧ f.zero = some z ∧ z.cells.toList = zero.map AV.toV ∧ zero.all AV.flatPlain = true ∧ z.cells.size = size := by
  cases hi : P.info? t with
  | none => rw [hi] at h; cases h
  | some f =>
    rw [hi] at h hz
    simp only [Option.map_some, Option.some.injEq, Prod.mk.injEq] at h
    simp only [Option.bind_some] at hz
    cases hz' : f.zero with
    | none => rw [hz'] at hz; cases hz
    | some z =>
      rw [hz'] at hz
      simp only [Option.map_some, Option.some.injEq] at hz
      refine ⟨f, z, rfl, h.1, h.2, hz', hz, hf, ?_⟩
      rw [← Array.length_toList, hz, List.length_map, hl]

/-- Nothing of it is shared. -/
inductive NoSh : AV → Prop
  | int {n} : NoSh (.int n)
  | bool {b} : NoSh (.bool b)
  | str {s} : NoSh (.str s)
  | val {v} : NoSh (.val v)
  | nil : NoSh .nil
  | dead : NoSh .dead
  | agg {cs} (h : ∀ x ∈ cs, NoSh x) : NoSh (.agg cs)
  | tup {cs} (h : ∀ x ∈ cs, NoSh x) : NoSh (.tup cs)
  | slE {o c} : NoSh (.sl o c [])
  | sl {c xs} (h : ∀ x ∈ xs, NoSh x) : NoSh (.sl true c xs)
  | pt {cs} (h : ∀ x ∈ cs, NoSh x) : NoSh (.pt true cs)

/-- What holds nothing shared, found by the form of it. -/
class NoShI (x : AV) : Prop where
  out : NoSh x
class NoShL (xs : List AV) : Prop where
  out : ∀ x ∈ xs, NoSh x
instance {n : Int} : NoShI (.int n) := ⟨.int⟩
instance {b : Bool} : NoShI (.bool b) := ⟨.bool⟩
instance {s : List UInt8} : NoShI (.str s) := ⟨.str⟩
instance {v : Value} : NoShI (.val v) := ⟨.val⟩
instance : NoShI .nil := ⟨.nil⟩
instance : NoShI .dead := ⟨.dead⟩
instance {o : Bool} {c : Nat} : NoShI (.sl o c []) := ⟨.slE⟩
instance {cs : List AV} [h : NoShL cs] : NoShI (.agg cs) := ⟨.agg h.out⟩
instance {cs : List AV} [h : NoShL cs] : NoShI (.tup cs) := ⟨.tup h.out⟩
instance {c : Nat} {cs : List AV} [h : NoShL cs] : NoShI (.sl true c cs) := ⟨.sl h.out⟩
instance {cs : List AV} [h : NoShL cs] : NoShI (.pt true cs) := ⟨.pt h.out⟩
instance : NoShL [] := ⟨fun x h => by cases h⟩
instance {x : AV} {xs : List AV} [h : NoShI x] [hs : NoShL xs] : NoShL (x :: xs) := ⟨fun y hy => by
  rcases List.mem_cons.1 hy with rfl | hy
  · exact h.out
  · exact hs.out y hy⟩
instance {xs ys : List AV} [h : NoShL xs] [h' : NoShL ys] : NoShL (xs ++ ys) := ⟨fun y hy => by
  rcases List.mem_append.1 hy with hy | hy
  · exact h.out y hy
  · exact h'.out y hy⟩
instance {α : Type} {f : α → AV} {l : List α} [h : ∀ x, NoShI (f x)] : NoShL (l.map f) := ⟨fun y hy => by
  obtain ⟨x, _, rfl⟩ := List.mem_map.1 hy
  exact (h x).out⟩
theorem gn0 {p : Prop} : false = true → p := fun h => Bool.noConfusion h
theorem gnI {b : Bool} {r : AV} [h : NoShI r] : b = true → NoSh r := fun _ => h.out
theorem NoSh.cells {x y : AV} (h : NoSh x) (hy : y ∈ x.cells) : NoSh y := by
  cases h with
  | agg h => exact h y hy
  | int => simp only [AV.cells, List.mem_singleton] at hy; subst hy; exact .int
  | bool => simp only [AV.cells, List.mem_singleton] at hy; subst hy; exact .bool
  | str => simp only [AV.cells, List.mem_singleton] at hy; subst hy; exact .str
  | val => simp only [AV.cells, List.mem_singleton] at hy; subst hy; exact .val
  | nil => simp only [AV.cells, List.mem_singleton] at hy; subst hy; exact .nil
  | dead => simp only [AV.cells, List.mem_singleton] at hy; subst hy; exact .dead
  | tup h => simp only [AV.cells, List.mem_singleton] at hy; subst hy; exact .tup h
  | slE => simp only [AV.cells, List.mem_singleton] at hy; subst hy; exact .slE
  | sl h => simp only [AV.cells, List.mem_singleton] at hy; subst hy; exact .sl h
  | pt h => simp only [AV.cells, List.mem_singleton] at hy; subst hy; exact .pt h
theorem NoSh.flat {xs : List AV} (h : ∀ x ∈ xs, NoSh x) : ∀ y ∈ flat xs, NoSh y := by
  intro y hy
  simp only [FM.flat, List.mem_flatMap] at hy
  obtain ⟨x, hx, hy⟩ := hy
  exact (h x hx).cells hy

/-- The frame law where nothing is shared. -/
theorem Rep.frameN {L L' : Nat → Lab} {w w' : World} {π : Option (List Nat)} {x : AV} {v : Value} (h : Rep L w π x v) :
    NoSh x → ∀ π' : Option (List Nat), (∀ p, π = some p → ∃ p', π' = some p' ∧ ∀ b q, L b = .my (p ++ q) → L' b = .my (p' ++ q) ∧ w'.heap[b]? = w.heap[b]?) → Rep L' w' π' x v := by
  induction h with
  | int => exact fun _ _ _ => .int
  | bool => exact fun _ _ _ => .bool
  | str => exact fun _ _ _ => .str
  | val => exact fun _ _ _ => .val
  | agg hl _ ih =>
    intro hn π' _
    cases hn with
    | agg hn => exact .agg hl fun i x v hx hv => ih i x v hx hv (hn x (List.mem_of_getElem? hx)) none (fun p hp => by cases hp)
  | @tup π cs vs hl _ ih =>
    intro hn π' hO
    cases hn with
    | tup hn =>
      refine .tup hl fun i x v hx hv => ih i x v hx hv (hn x (List.mem_of_getElem? hx)) _ fun p hp => ?_
      cases π with
      | none => simp [ch] at hp
      | some p0 =>
        simp only [ch, Option.map_some, Option.some.injEq] at hp
        subst hp
        obtain ⟨p', rfl, h⟩ := hO p0 rfl
        exact ⟨p' ++ [i], rfl, fun b q hb => by have := h b ([i] ++ q) (by rw [← List.append_assoc]; exact hb); rw [List.append_assoc]; exact this⟩
  | nil => exact fun _ _ _ => .nil
  | dead => exact fun _ _ _ => .dead
  | slE h => exact fun _ _ _ => .slE h
  | slS u hcap hL hb hc hcell hr ih =>
    intro hn π' _
    cases hn with
    | slE => exact .slE (by simp)
  | @slO p c xs b cap arr e u hL hb hcap hsz hc hcell hr ih =>
    intro hn π' hO
    obtain ⟨p', rfl, h⟩ := hO p rfl
    obtain ⟨h1, h2⟩ := h b [] (by simpa using hL)
    have hn' : ∀ x ∈ xs, NoSh x := by
      cases hn with
      | slE => intro x hx; cases hx
      | sl hn => exact hn
    refine .slO u (by simpa using h1) (h2.trans hb) hcap hsz hc hcell fun o y hy => ih o y hy (NoSh.flat hn' y (List.mem_of_getElem? hy)) _ fun q hq => ?_
    cases hq
    exact ⟨p' ++ [o], rfl, fun b q hb => by have := h b ([o] ++ q) (by rw [← List.append_assoc]; exact hb); rw [List.append_assoc]; exact this⟩
  | ptS => intro hn; cases hn
  | @ptO p cs b arr e u hL hb hsz hcell hr ih =>
    intro hn π' hO
    obtain ⟨p', rfl, h⟩ := hO p rfl
    obtain ⟨h1, h2⟩ := h b [] (by simpa using hL)
    cases hn with
    | pt hn =>
      refine .ptO u (by simpa using h1) (h2.trans hb) hsz hcell fun o y hy => ih o y hy (hn y (List.mem_of_getElem? hy)) _ fun q hq => ?_
      cases hq
      exact ⟨p' ++ [o], rfl, fun b q hb => by have := h b ([o] ++ q) (by rw [← List.append_assoc]; exact hb); rw [List.append_assoc]; exact this⟩
  | fn => intro hn; cases hn
  | mpS => intro hn; cases hn
  | mpO => intro hn; cases hn

/-- An argument, as the callee reads it ('true': it is borrowed from what this call owns). -/
inductive ArgOk (S : Sys) (N : Nat) (σ : St) (x : Operand) : Bool → AV → Prop
  | pl {y} (h : ov σ x = .av y) (ho : y.isOwn = false) : ArgOk S N σ x false y
  | br {y z} (h : rd σ (ov σ x) = y) (hd : y ≠ .dead) (hz : y.sh = z) : ArgOk S N σ x true z
  | fn {B : Beh} (h : ∀ w0 L0 a w, Rel S w0 L0 N σ a w → B.holds w (fun _ => True) (a.eval x)) : ArgOk S N σ x true (.fn B)
inductive ArgsOk (S : Sys) (N : Nat) (σ : St) : List Operand → Bool → List AV → Prop
  | nil : ArgsOk S N σ [] false []
  | cons {x xs b c y ys} (h : ArgOk S N σ x b y) (r : ArgsOk S N σ xs c ys) : ArgsOk S N σ (x :: xs) (b || c) (y :: ys)

section
variable {S : Sys} {N : Nat} {σ : St}
theorem ArgsOk.length {xs : List Operand} {b : Bool} {ys : List AV} (h : ArgsOk S N σ xs b ys) : xs.length = ys.length := by
  induction h with
  | nil => rfl
  | cons _ _ ih => simp [ih]
theorem ArgsOk.get {xs : List Operand} {b : Bool} {ys : List AV} (h : ArgsOk S N σ xs b ys) : ∀ (i : Nat) (x : Operand) (y : AV), xs[i]? = some x → ys[i]? = some y → ∃ c, ArgOk S N σ x c y ∧ (b = false → c = false) := by
  induction h with
  | nil => intro i x y h; simp at h
  | @cons x xs b c y ys h r ih =>
    intro i x' y' hx hy
    cases i with
    | zero => simp only [List.getElem?_cons_zero, Option.some.injEq] at hx hy; subst hx; subst hy; exact ⟨b, h, fun e => by cases b <;> simp_all⟩
    | succ i =>
      simp only [List.getElem?_cons_succ] at hx hy
      obtain ⟨c', h1, h2⟩ := ih i x' y' hx hy
      exact ⟨c', h1, fun e => h2 (by cases b <;> simp_all)⟩

/-- As the callee reads it where all may be read. -/
theorem ArgOk.readN {x : Operand} {b : Bool} {y : AV} (h : ArgOk S N σ x b y) {w0 : World} {L0 : Nat → Lab} {a : Act} {w : World} {L : Nat → Lab} (hR : RelL S w0 L0 N σ a w L) : Rep (fun _ => .sh) w none y (a.eval x) := by
  cases h with
  | pl h ho =>
    obtain ⟨n, hn⟩ := ev_av hR h
    exact Rep.frame (Nat.le_refl _) rfl rfl rfl (fun _ _ _ => ⟨rfl, rfl⟩) (hn.replace (π' := none) ho) none (fun p hp => by cases hp)
  | br h hd hz =>
    obtain ⟨L', π, h1, h2, h3⟩ := rd_ok hR h hd
    subst hz
    exact Rep.toSh (fun _ _ _ => rfl) h3 (fun _ _ _ _ _ => rfl)
  | fn h => exact .fn (wE := w) (B := fun _ => True) (h w0 L0 a w ⟨L, hR⟩) (Nat.le_refl _) rfl rfl rfl fun b _ _ => ⟨rfl, rfl⟩
/-- As the callee reads it where what this call owns is not his. -/
def hide (L : Nat → Lab) : Nat → Lab := fun b => match L b with
  | .sh => .sh
  | _ => .fo
theorem ArgOk.readS {x : Operand} {y : AV} (h : ArgOk S N σ x false y) {w0 : World} {L0 : Nat → Lab} {a : Act} {w : World} {L L1 : Nat → Lab} (hR : RelL S w0 L0 N σ a w L) (h1 : ∀ b, b < w.heap.size → L b = .sh → L1 b = .sh) : Rep L1 w none y (a.eval x) := by
  cases h with
  | pl h ho =>
    obtain ⟨n, hn⟩ := ev_av hR h
    exact Rep.frame (Nat.le_refl _) rfl rfl rfl (fun b hb hlt => ⟨h1 b hlt hb, rfl⟩) (hn.replace (π' := none) ho) none (fun p hp => by cases hp)

theorem run_call {P : Program} {f : Nat} (hf : FnOk P f) {ρ : Operand → Value} {xs : List Operand} {ts : Array Nat} {o : Oper} (ho : o.op = .call ⟨.value (.func f), xs.toArray, ts⟩) (hρ : ρ (.func f) = .func (.func f) #[] #[]) (w : World) :
    (execOp ρ o).run P w = .ok (.enter f (xs.map ρ).toArray) w := by
  obtain ⟨fn, h1, h2, h3⟩ := hf.out
  simp only [execOp, ho, resolve, hρ, Deferred.ofValue, Sem.run_bind, Sem.run_pure, Result.andThen_ok, invoke, callFunc, run_program, h1, h2, h3]
  simp

/-- The labels behind a call. -/
def afterL (n d : Nat) (sz : Nat) (L L' : Nat → Lab) : Nat → Lab := fun b =>
  if b < sz then clear d L b else match L' b with
    | .my (k :: q) => bif Nat.beq k n then .my (d :: q) else .sh
    | _ => .sh
theorem afterL_my {n d sz : Nat} {L L' : Nat → Lab} {b : Nat} {p : List Nat} (h : afterL n d sz L L' b = .my p) : (b < sz ∧ clear d L b = .my p) ∨ (sz ≤ b ∧ ∃ q, L' b = .my (n :: q) ∧ p = d :: q) := by
  unfold afterL at h
  split at h
  · exact .inl ⟨‹_›, h⟩
  · refine .inr ⟨by omega, ?_⟩
    cases hL : L' b with
    | my p' =>
      rw [hL] at h
      cases p' with
      | nil => cases h
      | cons k q =>
        simp only at h
        cases hk : Nat.beq k n with
        | true => rw [hk, cond_true] at h; injection h with h; have := Nat.eq_of_beq_eq_true hk; subst this; exact ⟨q, rfl, h.symm⟩
        | false => rw [hk] at h; cases h
    | sh => rw [hL] at h; cases h
    | fo => rw [hL] at h; cases h

/-- What a call leaves: the caller's frame behind it. -/
theorem after_call {w0 : World} {L0 : Nat → Lab} {a : Act} {w : World} {L : Nat → Lab} (hR : RelL S w0 L0 N σ a w L) {d : Nat} (hd : DOk S N d) {n : Nat} {xs9' : List AV} {r : AV} {L1 : Nat → Lab} {vs : List Value} {v : Value} {w' : World} {L' : Nat → Lab} (hB : Back n xs9' r L1 w vs v w' L') (hno : ∀ b p, L1 b ≠ .my p)
    (hres : Rep (afterL n d w.heap.size L L') w' (some [d]) r v) : Ext w w' ∧ Rel S w0 L0 N (σ.put d (.av r)) (a.put (some d) v) w' := by
  have hext : Ext w w' := ⟨hB.keep.os, hB.keep.tape, hB.keep.output, hB.keep.size, fun b hb => hB.keep.block b hb (fun p => hno b p)⟩
  have hnew : ∀ b p, L' b = .my p → w.heap.size ≤ b := fun b p hb => by
    rcases Nat.lt_or_ge b w.heap.size with h | h
    · obtain ⟨q, hq⟩ := hB.lok.old b p h hb; exact absurd hq (hno b q)
    · exact h
  refine ⟨hext, afterL n d w.heap.size L L', hR.defers, by simp [Act.put, hR.size], hR.keep.ext hext, ⟨fun b p hb => ?_, fun b b' p hb hb' => ?_, fun b p hb => ?_, fun b p hlt hb => ?_, fun b hlt => ?_, fun b hge hf => ?_⟩, fun m hm => ?_, fun m hm => ?_, fun i hi => (getD_set_other (hd.ne hi)).trans (hR.fix i hi), hR.glob⟩
  · rcases afterL_my hb with ⟨h1, _⟩ | ⟨_, q, h2, _⟩
    · exact Nat.lt_of_lt_of_le h1 hext.size
    · exact hB.lok.lt b _ h2
  · rcases afterL_my hb with ⟨h1, h2⟩ | ⟨h1, q, h2, h3⟩ <;> rcases afterL_my hb' with ⟨h1', h2'⟩ | ⟨h1', q', h2', h3'⟩
    · exact (hR.lok.clear d).inj _ _ _ h2 h2'
    · subst h3'; exact absurd rfl (clear_my h2).2
    · subst h3; exact absurd rfl (clear_my h2').2
    · rw [h3] at h3'; cases h3'; exact hB.lok.inj _ _ _ h2 h2'
  · rcases afterL_my hb with ⟨_, h2⟩ | ⟨_, q, _, h3⟩
    · exact (hR.lok.clear d).head _ _ h2
    · subst h3; simp
  · rcases afterL_my hb with ⟨_, h2⟩ | ⟨h1, _⟩
    · exact (hR.lok.clear d).old b p hlt h2
    · have := hR.keep.size; omega
  · have : b < w.heap.size := Nat.lt_of_lt_of_le hlt hR.keep.size
    unfold afterL
    rw [if_pos this]
    exact (hR.lok.clear d).fo b hlt
  · unfold afterL at hf
    split at hf
    · exact (hR.lok.clear d).new b hge hf
    · split at hf
      · rename_i k q _
        cases hk : Nat.beq k n <;> rw [hk] at hf <;> cases hf
      · cases hf
  · simp only [get, kill_eq, Act.put]
    by_cases hnd : d = m
    · subst hnd
      rw [Nat.beq_refl, cond_true, getD_set_same (by rw [hR.size]; exact hd.lt)]
      exact hres
    · rw [not_beq hnd, cond_false, getD_set_other hnd]
      cases hdep : (get σ m).dep d with
      | true => trivial
      | false =>
        rw [cond_false]
        refine Hold.relab (good := fun t => t ≠ d) hext.size hext.os hext.tape hext.output (fun b h1 h2 => ⟨by unfold afterL; rw [if_pos h2]; exact clear_sh h1, hext.block b h2⟩) (fun b t q h1 h2 => ⟨by unfold afterL; rw [if_pos (hR.lok.lt b _ h1)]; exact clear_keep h1 h2, hext.block b (hR.lok.lt b _ h1)⟩)
          (fun s hs => getD_set_other (fun e => hs e.symm)) (fun e => hnd e.symm) (fun s hs e => by subst e; rw [hdep] at hs; cases hs) (hR.hold m hm)
  · simp only [get, kill_eq]
    rw [not_beq (show d ≠ m by have := hd.lt; omega), cond_false, hR.out m hm]; rfl

/-- Its result read by the caller's labels. -/
theorem res_after {w : World} {L L1 : Nat → Lab} {n d : Nat} {xs9' : List AV} {r : AV} {vs : List Value} {v : Value} {w' : World} {L' : Nat → Lab} (hB : Back n xs9' r L1 w vs v w' L') (hno : ∀ b p, L1 b ≠ .my p) (hsh : NoSh r ∨ ∀ b, b < w.heap.size → L1 b = .sh → L b = .sh)
    (hfo : NoSh r ∨ ∀ b, b < w.heap.size → L1 b = .sh ∨ L1 b = .fo) : Rep (afterL n d w.heap.size L L') w' (some [d]) r v := by
  have hnew : ∀ b p, L' b = .my p → w.heap.size ≤ b := fun b p hb => by
    rcases Nat.lt_or_ge b w.heap.size with h | h
    · obtain ⟨q, hq⟩ := hB.lok.old b p h hb; exact absurd hq (hno b q)
    · exact h
  have hmy : ∀ p, (some [n] : Option (List Nat)) = some p → ∃ p', (some [d] : Option (List Nat)) = some p' ∧ ∀ b q, L' b = .my (p ++ q) → afterL n d w.heap.size L L' b = .my (p' ++ q) ∧ w'.heap[b]? = w'.heap[b]? := fun p hp => by
    cases hp
    refine ⟨[d], rfl, fun b q hb => ⟨?_, rfl⟩⟩
    unfold afterL
    rw [if_neg (by have := hnew b _ hb; omega), hb]
    simp [Nat.beq_refl]
  by_cases hN : NoSh r
  · exact hB.res.frameN hN _ hmy
  · refine hB.res.frame (Nat.le_refl _) rfl rfl rfl (fun b hb hlt => ⟨?_, rfl⟩) _ hmy
    unfold afterL
    split
    · rename_i h
      have h1 : L1 b = .sh := by
        rcases (hfo.resolve_left hN) b h with h' | h'
        · exact h'
        · have := (hB.lok.fo b h).2 h'; rw [hb] at this; cases this
      exact clear_sh ((hsh.resolve_left hN) b h h1)
    · rw [hb]

theorem pre_none {n : Nat} {L : Nat → Lab} {w : World} (hno : ∀ b p, L b ≠ .my p) (hf : ∀ b, w.heap.size ≤ b → L b ≠ .fo) (hg : Glob L w) : FM.Pre n L w :=
  ⟨fun b p h => absurd h (hno b p), fun b p h => absurd h (hno b p), fun b _ p h => absurd h (hno b p), hf, hg⟩

/-- A call, in the text's order. -/
theorem J.call {f : Nat} {xs9 : List AV} {r : AV} {xs : List Operand} {b : Bool} {ops : Array Oper} {l : List Oper} {K : St → Prop} {d ty : Nat} {ts : Array Nat} {pos : String} {aft : Array Edge} {g : Option (Nat × Bool)} (hs : FnSpec S.P f xs9 xs9 r) (hg : live ops g σ = some true) (ha : ArgsOk S N σ xs b xs9) (hb : b = true → NoSh r) (h : J false S N ops l K (σ.put d (.av r))) :
    J false S N ops (⟨some d, .call ⟨.value (.func f), xs.toArray, ts⟩, ty, pos, aft, g⟩ :: l) K σ := by
  unfold J at *
  intro hdo w0 L0 Q a w hQ hR
  obtain ⟨h1, h2⟩ := dstOk_cons hdo
  have hd := h1 d rfl
  have hw := live_wanted (o := ⟨some d, .call ⟨.value (.func f), xs.toArray, ts⟩, ty, pos, aft, g⟩) hg hR
  simp only [wpList, hw, if_true]
  refine .inl ?_
  unfold Oper.wp
  rw [run_call hs.ok rfl rfl w, Oper.upon_enter]
  obtain ⟨L, hR⟩ := hR
  have fin : ∀ (L1 : Nat → Lab), Glob L1 w → (∀ b p, L1 b ≠ .my p) → (∀ b, w.heap.size ≤ b → L1 b ≠ .fo) → (∀ (i : Nat) x v, xs9[i]? = some x → (xs.map a.eval)[i]? = some v → Rep L1 w none x v) → (NoSh r ∨ ∀ b, b < w.heap.size → L1 b = .sh → L b = .sh) → (NoSh r ∨ ∀ b, b < w.heap.size → L1 b = .sh ∨ L1 b = .fo) →
      Calls S.P f (xs.map a.eval).toArray w fun
        | .returned v, w'' => wpList S.P ops Q l (a.put (some d) v) w''
        | .panicked chain, w'' => Q (.panic chain) a w''
        | .outgrown, _ => LetsOut Q := by
    intro L1 hgl hno hf hargs h3 h4
    refine (hs.calls w L1 (xs.map a.eval) (by rw [List.length_map, ha.length]) (pre_none hno hf hgl) (fun i x v hx hv => (hargs i x v hx hv).any _)).mono fun e w' ⟨v, L', he, hB⟩ => ?_
    subst he
    obtain ⟨_, hR'⟩ := after_call hR hd hB hno (res_after hB hno h3 h4)
    exact h h2 w0 L0 Q _ w' hQ hR'
  cases hbv : b with
  | true =>
    refine fin (fun _ => .sh) hR.globNow.all (fun _ _ h => by cases h) (fun _ _ h => by cases h) (fun i x v hx hv => ?_) (.inl (hb hbv)) (.inl (hb hbv))
    simp only [List.getElem?_map, Option.map_eq_some_iff] at hv
    obtain ⟨y, hy, rfl⟩ := hv
    obtain ⟨c, hc, _⟩ := ha.get i y x hy hx
    exact hc.readN hR
  | false =>
    refine fin (hide L) (hR.globNow.move (Nat.le_refl _) fun b _ h => ⟨by unfold hide; rw [h], rfl⟩) (fun b p h => ?_) (fun b hge h => ?_) (fun i x v hx hv => ?_) (.inr fun b _ h => ?_) (.inr fun b _ => ?_)
    · unfold hide at h; split at h <;> cases h
    · unfold hide at h
      split at h
      · cases h
      · rename_i hne
        cases hLb : L b with
        | sh => exact hne hLb
        | fo =>
          exact hR.lok.new b (Nat.le_trans hR.keep.size hge) hLb
        | my p => have := hR.lok.lt b p hLb; omega
    · simp only [List.getElem?_map, Option.map_eq_some_iff] at hv
      obtain ⟨y, hy, rfl⟩ := hv
      obtain ⟨c, hc, hcf⟩ := ha.get i y x hy hx
      have := hcf hbv
      subst this
      exact hc.readS hR (fun b _ hb => by unfold hide; rw [hb])
    · unfold hide at h; split at h
      · assumption
      · cases h
    · unfold hide; split
      · exact .inl rfl
      · exact .inr rfl
end
end FM

/- An abstract machine over the kit's rules, part 7: operations that make or write memory. -/
namespace FM
open Go Go.RowKit

/-- An operation that turns the world. -/
def EStep (S : Sys) (o : Oper) (σ σ' : St) : Prop :=
  ∀ (w0 : World) (L0 : Nat → Lab) (N : Nat) (a : Act) (w : World), (∀ d : Nat, o.dst = some d → DOk S N d) → Rel S w0 L0 N σ a w →
    ∃ v w', ((execOp a.eval o).run S.P w = .ok (.value v) w' ∨ ((execOp a.eval o).run S.P w = .ok .skip w' ∧ v = undef)) ∧ Rel S w0 L0 N σ' (a.put o.dst v) w'

section
variable {S : Sys} {N : Nat} {σ σ' : St}
theorem J.eff {ops : Array Oper} {l : List Oper} {K : St → Prop} {o : Oper} (hg : live ops o.guard σ = some true) (hs : EStep S o σ σ') (h : J false S N ops l K σ') : J false S N ops (o :: l) K σ := by
  unfold J at *
  intro hdo w0 L0 Q a w hQ hR
  obtain ⟨h1, h2⟩ := dstOk_cons hdo
  obtain ⟨v, w', hv, hR'⟩ := hs w0 L0 N a w h1 hR
  have hk := h h2 w0 L0 Q _ w' hQ hR'
  simp only [wpList, live_wanted hg hR, if_true]
  refine .inl ?_
  unfold Oper.wp
  rcases hv with hv | ⟨hv, rfl⟩
  · rw [hv]; exact hk
  · rw [hv]; exact hk

/-! ### labels, remapped -/
def remap (φ : List Nat → Option (List Nat)) (L : Nat → Lab) : Nat → Lab := fun b =>
  match L b with
  | .my p => match φ p with
    | some p' => .my p'
    | none => .sh
  | l => l
theorem remap_my {φ : List Nat → Option (List Nat)} {L : Nat → Lab} {b : Nat} {p : List Nat} (h : remap φ L b = .my p) : ∃ p', L b = .my p' ∧ φ p' = some p := by
  simp only [remap] at h
  cases hL : L b with
  | my p' =>
    rw [hL] at h
    simp only at h
    cases hφ : φ p' with
    | none => rw [hφ] at h; cases h
    | some r => rw [hφ] at h; injection h with h; subst h; exact ⟨p', rfl, hφ⟩
  | sh => rw [hL] at h; cases h
  | fo => rw [hL] at h; cases h
theorem remap_to {φ : List Nat → Option (List Nat)} {L : Nat → Lab} {b : Nat} {p p' : List Nat} (h : L b = .my p) (hφ : φ p = some p') : remap φ L b = .my p' := by simp only [remap, h, hφ]
theorem remap_sh {φ : List Nat → Option (List Nat)} {L : Nat → Lab} {b : Nat} (h : L b = .sh) : remap φ L b = .sh := by simp only [remap, h]
theorem remap_fo {φ : List Nat → Option (List Nat)} {L : Nat → Lab} {b : Nat} : remap φ L b = .fo ↔ L b = .fo := by
  simp only [remap]
  cases L b with
  | my p => simp only; cases φ p <;> simp
  | _ => simp
structure Inj (φ : List Nat → Option (List Nat)) : Prop where
  inj : ∀ p p' r, φ p = some r → φ p' = some r → p = p'
  ne : ∀ p, φ p ≠ some []

/-- Labels remapped, and one block given the place [d]. -/
def setL (φ : List Nat → Option (List Nat)) (g d : Nat) (L : Nat → Lab) : Nat → Lab := fun b => if b = g then .my [d] else remap φ L b
theorem LOk.setL {L0 L : Nat → Lab} {w0 w w' : World} (h : LOk L0 w0 L w) (hs : w.heap.size ≤ w'.heap.size) {φ : List Nat → Option (List Nat)} (hφ : Inj φ) {g d : Nat} (hd : ∀ p, φ p ≠ some [d]) (hg : g < w'.heap.size) (hg0 : g < w0.heap.size → ∃ q, L g = .my q) : LOk L0 w0 (FM.setL φ g d L) w' where
  lt b p hb := by
    unfold FM.setL at hb
    split at hb
    · subst_vars; exact hg
    · obtain ⟨p', h1, _⟩ := remap_my hb; exact Nat.lt_of_lt_of_le (h.lt b _ h1) hs
  inj b b' p hb hb' := by
    unfold FM.setL at hb hb'
    split at hb <;> split at hb'
    · subst_vars; rfl
    · injection hb with hb; subst hb; obtain ⟨p', _, h2⟩ := remap_my hb'; exact absurd h2 (hd p')
    · injection hb' with hb'; subst hb'; obtain ⟨p', _, h2⟩ := remap_my hb; exact absurd h2 (hd p')
    · obtain ⟨p1, h1, h2⟩ := remap_my hb
      obtain ⟨p1', h1', h2'⟩ := remap_my hb'
      have := hφ.inj _ _ _ h2 h2'
      subst this
      exact h.inj _ _ _ h1 h1'
  head b p hb := by
    unfold FM.setL at hb
    split at hb
    · injection hb with hb; subst hb; simp
    · obtain ⟨p', _, h2⟩ := remap_my hb; intro e; subst e; exact hφ.ne p' h2
  old b p hlt hb := by
    unfold FM.setL at hb
    split at hb
    · subst_vars; obtain ⟨q, hq⟩ := hg0 hlt; exact h.old _ q hlt hq
    · obtain ⟨p', h1, _⟩ := remap_my hb; exact h.old b _ hlt h1
  fo b hlt := by
    unfold FM.setL
    split
    · rename_i hbg
      subst hbg
      obtain ⟨q, hq⟩ := hg0 hlt
      refine ⟨fun e => (by cases e), fun e => ?_⟩
      have := (h.fo b hlt).2 e
      rw [hq] at this; cases this
    · exact remap_fo.trans (h.fo b hlt)
  new b hge hf := by
    unfold FM.setL at hf
    split at hf
    · cases hf
    · exact h.new b hge (remap_fo.1 hf)

/-- Slot d is given what is new; else nothing. -/
def φput (d : Nat) : List Nat → Option (List Nat)
  | [] => none
  | h :: q => bif Nat.beq h d then none else some (h :: q)
theorem φput_inj (d : Nat) : Inj (φput d) := by
  refine ⟨fun p p' r h h' => ?_, fun p h => ?_⟩
  · cases p with
    | nil => cases h
    | cons a q =>
      cases p' with
      | nil => cases h'
      | cons a' q' =>
        simp only [φput] at h h'
        cases ha : Nat.beq a d <;> cases ha' : Nat.beq a' d <;> simp_all
  · cases p with
    | nil => cases h
    | cons a q => simp only [φput] at h; cases ha : Nat.beq a d <;> simp_all
theorem φput_ne (d : Nat) (p : List Nat) : φput d p ≠ some [d] := by
  cases p with
  | nil => simp [φput]
  | cons a q =>
    simp only [φput]
    cases ha : Nat.beq a d with
    | true => simp
    | false => have := of_not_beq ha; simp; intro e; exact absurd e this

theorem alloc_ext (w : World) (o : Obj) : Ext w (w.alloc o) := (Below.refl _ _).alloc (Nat.le_refl _) o

/-- A new block goes to slot d. -/
theorem RelL.alloc {w0 : World} {L0 : Nat → Lab} {a : Act} {w : World} {L : Nat → Lab} (h : RelL S w0 L0 N σ a w L) {d : Nat} (hd : DOk S N d) {o : Obj} {x : AV} {v : Value} (hx : Rep (setL (φput d) w.heap.size d L) (w.alloc o) (some [d]) x v) :
    Rel S w0 L0 N (σ.put d (.av x)) (a.put (some d) v) (w.alloc o) := by
  have he := alloc_ext w o
  have hlt : w.heap.size < (w.alloc o).heap.size := by simp
  refine ⟨_, h.defers, by simp [Act.put, h.size], h.keep.ext he, h.lok.setL he.size (φput_inj d) (φput_ne d) hlt (fun h' => absurd h' (by have := h.keep.size; omega)), fun n hn => ?_, fun n hn => ?_, fun i hi => (getD_set_other (hd.ne hi)).trans (h.fix i hi), h.glob⟩
  · simp only [get, kill_eq, Act.put]
    by_cases hnd : d = n
    · subst hnd
      rw [Nat.beq_refl, cond_true, getD_set_same (by rw [h.size]; exact hd.lt)]
      exact hx
    · rw [not_beq hnd, cond_false, getD_set_other hnd]
      cases hdep : (get σ n).dep d with
      | true => trivial
      | false =>
        rw [cond_false]
        refine Hold.relab (good := fun t => t ≠ d) he.size he.os he.tape he.output (fun b h1 h2 => ⟨by unfold setL; rw [if_neg (by omega)]; exact remap_sh h1, he.block b h2⟩) (fun b t q h1 h2 => ⟨by unfold setL; rw [if_neg (by have := h.lok.lt b _ h1; omega)]; exact remap_to h1 (by simp only [φput, not_beq h2, cond_false]), he.block b (h.lok.lt b _ h1)⟩)
          (fun s hs => getD_set_other (fun e => hs e.symm)) (fun e => hnd e.symm) (fun s hs e => by subst e; rw [hdep] at hs; cases hs) (h.hold n hn)
  · simp only [get, kill_eq]
    rw [not_beq (show d ≠ n by have := hd.lt; omega), cond_false, h.out n hn]; rfl

/-- An element of a new slice, read in the new world. -/
theorem Rep.inNew {w0 : World} {L0 : Nat → Lab} {a : Act} {w : World} {L : Nat → Lab} (h : RelL S w0 L0 N σ a w L) {d : Nat} {o : Obj} {x : AV} {v : Value} (hx : Rep L w none x v) : Rep (setL (φput d) w.heap.size d L) (w.alloc o) none x v := by
  have he := alloc_ext w o
  have := h.size
  exact hx.frame he.size he.os he.tape he.output (fun b h1 h2 => ⟨by unfold setL; rw [if_neg (by omega)]; exact remap_sh h1, he.block b h2⟩) none (fun p hp => by cases hp)

/-- A row of known cells, newly made, is owned. -/
theorem rep_new {w : World} {L : Nat → Lab} {d c n cap : Nat} {arr : Array Value} {e : TypeId} {xs : List AV} (hn : xs.length = n) (hc : ∀ x ∈ xs, x.cells.length = c) (hcap : n ≤ cap) (hsz : arr.size = cap * c)
    (hr : ∀ (o : Nat) y, (flat xs)[o]? = some y → ∃ u, arr[o]? = some u ∧ Rep (setL (φput d) w.heap.size d L) (w.alloc (.cells arr e)) (some ([d] ++ [o])) y u) :
    Rep (setL (φput d) w.heap.size d L) (w.alloc (.cells arr e)) (some [d]) (.sl true c xs) (.slice (some ⟨w.heap.size, 0, none⟩) n cap) := by
  subst hn
  refine .slO (fun o => arr.getD o undef) (by simp [setL]) (heap_alloc_new w _) hcap hsz hc (fun o ho => ?_) (fun o y hy => ?_)
  · have : o < arr.size := by rw [hsz]; exact Nat.lt_of_lt_of_le ho (Nat.mul_le_mul_right _ hcap)
    simp [this]
  · obtain ⟨u, h1, h2⟩ := hr o y hy
    simpa [h1] using h2

theorem toV_rep {L : Nat → Lab} {w : World} {π : Option (List Nat)} {x : AV} (h : x.flatPlain = true) : Rep L w π x x.toV := by
  cases x <;> first | exact .int | exact .bool | exact .str | exact .val | exact .nil | (simp [AV.flatPlain] at h)

theorem flat_replicate (n : Nat) (z : AV) : flat (List.replicate n z) = (List.replicate n z.cells).flatten := by
  simp [flat, List.flatMap_replicate]

theorem getElem?_replicate_flatten {α : Type} (l : List α) (n o : Nat) (h : o < n * l.length) : (List.replicate n l).flatten[o]? = l[o % l.length]? := by
  induction n generalizing o with
  | zero => omega
  | succ n ih =>
    rw [List.replicate_succ, List.flatten_cons]
    by_cases ho : o < l.length
    · rw [List.getElem?_append_left ho, Nat.mod_eq_of_lt ho]
    · rw [List.getElem?_append_right (by omega), ih _ (by rw [Nat.add_mul] at h; omega)]
      congr 1
      rw [Nat.mod_eq_sub_mod (by omega : o ≥ l.length)]

/-- make([]T, n). -/
theorem e_mks {t e c : Nat} {sz by_ : Nat} {zz : List AV} {ti : TI} {z : AV} {x : Operand} {n : Int} {d ty : Nat} {pos : String} {aft : Array Edge} {g : Option (Nat × Bool)} (hx : ov σ x = .av (.int n)) (hT : S.T t = some ⟨.slice e, sz, by_, zz⟩) (hE : S.T e = some ti) (hc : ti.size = c) (h1 : Nat.blt 0 c = true) (hfit : (z.cells.length = c ∧ ti.zero = z.cells))
    (h0 : 0 ≤ n) (hb : n * ti.bytes ≤ 140737488355328) (hm : n ≤ 4611686018427387904) : EStep S ⟨some d, .makeSlice t x x, ty, pos, aft, g⟩ σ (σ.put d (.av (.sl true c (List.replicate n.toNat z)))) := by
  intro w0 L0 N a w hN ⟨L, hR⟩
  obtain ⟨k, rfl⟩ := Int.eq_ofNat_of_zero_le h0
  subst hc
  obtain ⟨f, zv, hf1, hf2, hf3, hf4, hf5, hf6, hf7⟩ := (S.ok e ti hE).info
  have hpos : 0 < ti.size := by simp [Nat.blt] at h1; omega
  have hw : IntKind.i64.wrap (k : Int) = k := IntWalk.i64_in _ (by omega)
  have hzl : zv.cells.toList = z.cells.map AV.toV := by rw [hf5, hfit.2]
  have hzs : zv.cells.size = ti.size := hf7
  have hlarge : ¬ (f.bytes * (k : Int) > 2 ^ 48) := by rw [hf3]; rw [Int.mul_comm] at hb; omega
  let arr : Array Value := (Array.range (k * ti.size)).map (fun i => zv.cells[i % zv.cells.size]!)
  have hrun : (execOp a.eval ⟨some d, .makeSlice t x x, ty, pos, aft, g⟩).run S.P w = .ok (.value (.slice (some ⟨w.heap.size, 0, none⟩) k k)) (w.alloc (.cells arr e)) := by
    simp only [execOp, ev_int hR hx, Instr.makeSlice, Sem.run_bind, run_underlying (S.ok t _ hT).slice, Result.andThen_ok, asInt, asIntOf, Sem.run_pure, typeInfo, run_program, hf1, hw]
    have hl0 : ¬ ((k : Int) < 0) := by omega
    simp only [hl0, decide_false, hlarge, Bool.false_eq_true, Bool.or_self, gt_iff_lt, if_false, Int.lt_irrefl, Sem.run_bind, run_askRoom, Result.andThen_ok, Go.sizeOf, typeInfo, run_program, hf1, Sem.run_pure, hf2, Int.toNat_natCast]
    by_cases hk : k * ti.size = 0
    · have hk0 : k = 0 := by rcases Nat.mul_eq_zero.1 hk with h | h <;> omega
      subst hk0
      have hr0 : Array.range 0 = #[] := rfl
      simp [newRow, arr, hr0]
    · rw [if_neg hk]
      simp [zeroValue, typeInfo, hf1, hf4, newRow, arr]
  refine ⟨_, _, .inl hrun, hR.alloc (hN d rfl) ?_⟩
  have harr : arr.size = k * ti.size := by simp [arr]
  refine rep_new (by simp) (fun y hy => by rw [List.eq_of_mem_replicate hy]; exact hfit.1) (Nat.le_refl _) harr fun o y hy => ?_
  simp only [Int.toNat_natCast] at hy
  have hol : o < k * z.cells.length := by
    have := (List.getElem?_eq_some_iff.1 hy).1
    rw [flat_length (c := z.cells.length) (fun y hy => by rw [List.eq_of_mem_replicate hy]), List.length_replicate] at this
    exact this
  rw [flat_replicate, getElem?_replicate_flatten _ _ _ hol] at hy
  have ho2 : o < k * ti.size := by rw [← hfit.1]; exact hol
  refine ⟨zv.cells[o % zv.cells.size]!, by simp [arr, ho2], ?_⟩
  have hmod : o % zv.cells.size < zv.cells.size := Nat.mod_lt _ (by omega)
  have hy' : y.toV = zv.cells[o % zv.cells.size]! := by
    have e1 : zv.cells.toList[o % zv.cells.size]? = some y.toV := by
      rw [hzl, List.getElem?_map]
      have : zv.cells.size = z.cells.length := by rw [hzs, hfit.1]
      rw [this, hy]; rfl
    rw [Array.getElem?_toList] at e1
    rw [getElem!_def, e1]
  rw [← hy']
  have hplain : y.flatPlain = true := by
    rw [hfit.2] at hf6
    exact (List.all_eq_true.1 hf6) y (List.mem_of_getElem? hy)
  exact toV_rep hplain

theorem e_mks1 {t e : Nat} {sz by_ by2 : Nat} {zz : List AV} {kk : TK} {z : AV} {x : Operand} {n : Int} {d ty : Nat} {pos : String} {aft : Array Edge} {g : Option (Nat × Bool)} (hx : ov σ x = .av (.int n)) (hT : S.T t = some ⟨.slice e, sz, by_, zz⟩) (hE : S.T e = some ⟨kk, 1, by2, [z]⟩) (hz : z.cells = [z])
    (h0 : 0 ≤ n) (hb : n * by2 ≤ 140737488355328) (hm : n ≤ 4611686018427387904) : EStep S ⟨some d, .makeSlice t x x, ty, pos, aft, g⟩ σ (σ.put d (.av (.sl true 1 (List.replicate n.toNat z)))) :=
  e_mks (ti := ⟨kk, 1, by2, [z]⟩) hx hT hE rfl rfl ⟨by rw [hz]; rfl, hz.symm⟩ h0 hb hm
theorem e_mksI {t e : Nat} {sz by_ by2 : Nat} {zz : List AV} {kk : TK} {x : Operand} {n : Int} {d ty : Nat} {pos : String} {aft : Array Edge} {g : Option (Nat × Bool)} (hx : ov σ x = .av (.int n)) (hT : S.T t = some ⟨.slice e, sz, by_, zz⟩) (hE : S.T e = some ⟨kk, 1, by2, [.int 0]⟩)
    (h0 : 0 ≤ n) (hb : n * by2 ≤ 140737488355328) (hm : n ≤ 4611686018427387904) : EStep S ⟨some d, .makeSlice t x x, ty, pos, aft, g⟩ σ (σ.put d (.av (.sl true 1 ((List.replicate n.toNat (0 : Int)).map .int)))) := by
  rw [List.map_replicate]
  exact e_mks1 hx hT hE rfl h0 hb hm
theorem e_mksA {t e c : Nat} {sz by_ by2 : Nat} {zz : List AV} {kk : TK} {zs : List AV} {x : Operand} {n : Int} {d ty : Nat} {pos : String} {aft : Array Edge} {g : Option (Nat × Bool)} (hx : ov σ x = .av (.int n)) (hT : S.T t = some ⟨.slice e, sz, by_, zz⟩) (hE : S.T e = some ⟨kk, c, by2, zs⟩) (_hk : kk.isAgg = true) (hl : zs.length = c) (h1 : Nat.blt 0 c = true)
    (h0 : 0 ≤ n) (hb : n * by2 ≤ 140737488355328) (hm : n ≤ 4611686018427387904) : EStep S ⟨some d, .makeSlice t x x, ty, pos, aft, g⟩ σ (σ.put d (.av (.sl true c (List.replicate n.toNat (.agg zs))))) :=
  e_mks (ti := ⟨kk, c, by2, zs⟩) hx hT hE rfl h1 ⟨hl, rfl⟩ h0 hb hm

/-! ### literals -/
theorem foldl_set_list : ∀ (vs : List Value) (k off : Nat) (arr : Array Value), off + k + vs.length ≤ arr.size →
    ((vs.zipIdx k).foldl (fun cs p => cs.setIfInBounds (off + p.2) p.1) arr).size = arr.size ∧
    ∀ j, ((vs.zipIdx k).foldl (fun cs p => cs.setIfInBounds (off + p.2) p.1) arr)[j]? = if off + k ≤ j ∧ j < off + k + vs.length then vs[j - (off + k)]? else arr[j]?
  | [], k, off, arr, _ => by simp; intro j h1 h2; omega
  | v :: vs, k, off, arr, h => by
    simp only [List.zipIdx_cons, List.foldl_cons, List.length_cons] at h ⊢
    obtain ⟨h1, h2⟩ := foldl_set_list vs (k + 1) off (arr.setIfInBounds (off + k) v) (by simp; omega)
    refine ⟨by rw [h1]; simp, fun j => ?_⟩
    rw [h2]
    by_cases hj : j = off + k
    · subst hj
      rw [if_neg (by omega), if_pos (by omega)]
      simp [show off + k < arr.size by omega]
    · by_cases hin : off + (k + 1) ≤ j ∧ j < off + (k + 1) + vs.length
      · rw [if_pos hin, if_pos (by omega), show j - (off + k) = (j - (off + (k + 1))) + 1 by omega, List.getElem?_cons_succ]
      · rw [if_neg hin, if_neg (by omega), Array.getElem?_setIfInBounds_ne (fun e => hj e.symm)]

theorem foldl_set_cells (v : Value) (off : Nat) (arr : Array Value) (h : off + v.cells.size ≤ arr.size) :
    (v.cells.zipIdx.foldl (fun cs (c, j) => cs.setIfInBounds (off + j) c) arr).size = arr.size ∧
    ∀ j, (v.cells.zipIdx.foldl (fun cs (c, j) => cs.setIfInBounds (off + j) c) arr)[j]? = if off ≤ j ∧ j < off + v.cells.size then v.cells[j - off]? else arr[j]? := by
  have := foldl_set_list v.cells.toList 0 off arr (by simpa using h)
  rw [← Array.foldl_toList, Array.toList_zipIdx]
  simpa using this

/-- A literal's parts, laid one behind the other. -/
theorem fill_parts (c : Nat) : ∀ (vs : List Value) (k : Nat) (arr : Array Value), (∀ v ∈ vs, v.cells.size = c) → (k + vs.length) * c ≤ arr.size →
    ∃ arr', Instr.fill (fun i => some (i * c, c)) arr ((vs.zipIdx k).map fun p => (p.2, p.1)) = some arr' ∧ arr'.size = arr.size ∧
      ∀ j, arr'[j]? = if k * c ≤ j ∧ j < (k + vs.length) * c then (vs.flatMap fun v => v.cells.toList)[j - k * c]? else arr[j]?
  | [], k, arr, _, _ => ⟨arr, rfl, rfl, fun j => by simp; intro h1 h2; omega⟩
  | v :: vs, k, arr, hc, h => by
    have hv := hc v (List.mem_cons_self ..)
    simp only [List.length_cons] at h
    have hmul : (k + 1) * c = k * c + c := by rw [Nat.add_mul, Nat.one_mul]
    have hle : (k + 1) * c ≤ (k + (vs.length + 1)) * c := Nat.mul_le_mul_right _ (by omega)
    obtain ⟨h1, h2⟩ := foldl_set_cells v (k * c) arr (by rw [hv]; omega)
    obtain ⟨arr', h3, h4, h5⟩ := fill_parts c vs (k + 1) _ (fun u hu => hc u (List.mem_cons_of_mem _ hu)) (by rw [h1, show k + 1 + vs.length = k + (vs.length + 1) by omega]; exact h)
    refine ⟨arr', ?_, by rw [h4, h1], fun j => ?_⟩
    · simp only [List.zipIdx_cons, List.map_cons, Instr.fill, hv]
      rw [if_neg (by simp; omega)]
      exact h3
    · rw [h5, h2]
      have he : (k + 1 + vs.length) * c = (k + (vs.length + 1)) * c := by rw [show k + 1 + vs.length = k + (vs.length + 1) by omega]
      rw [he]
      simp only [List.flatMap_cons, List.length_cons]
      by_cases hj1 : k * c ≤ j ∧ j < k * c + c
      · rw [if_neg (by omega), if_pos (by rw [hv]; exact hj1), if_pos (by omega), List.getElem?_append_left (by simp [hv]; omega), Array.getElem?_toList]
      · by_cases hj2 : (k + 1) * c ≤ j ∧ j < (k + (vs.length + 1)) * c
        · rw [if_pos hj2, if_pos (by omega), List.getElem?_append_right (by simp [hv]; omega)]
          congr 1
          simp [hv]
          omega
        · rw [if_neg hj2, if_neg (by rw [hv]; exact hj1), if_neg (by omega)]

/-- The parts of a literal: values that are not owned. -/
inductive PartsOk (σ : St) : List Operand → List AV → Prop
  | nil : PartsOk σ [] []
  | cons {x xs y ys} (h : ov σ x = .av y) (ho : y.isOwn = false) (r : PartsOk σ xs ys) : PartsOk σ (x :: xs) (y :: ys)
theorem PartsOk.length {xs : List Operand} {ys : List AV} (h : PartsOk σ xs ys) : xs.length = ys.length := by
  induction h with
  | nil => rfl
  | cons _ _ _ ih => simp [ih]
theorem PartsOk.get {xs : List Operand} {ys : List AV} (h : PartsOk σ xs ys) : ∀ (i : Nat) (x : Operand) (y : AV), xs[i]? = some x → ys[i]? = some y → ov σ x = .av y ∧ y.isOwn = false := by
  induction h with
  | nil => intro i x y h; simp at h
  | cons h ho r ih =>
    intro i x y hx hy
    cases i with
    | zero => simp only [List.getElem?_cons_zero, Option.some.injEq] at hx hy; subst hx; subst hy; exact ⟨h, ho⟩
    | succ i => simp only [List.getElem?_cons_succ] at hx hy; exact ih i x y hx hy

/-- Is it a value of cells that a store may write? -/
def AV.cellOk : AV → Bool
  | .int _ | .bool _ | .str _ | .nil | .sl _ _ _ | .pt _ _ => true
  | .val v => v.oneCell'
  | _ => false
def AV.varOk : AV → Bool
  | .agg cs => cs.all AV.cellOk
  | y => y.cellOk
theorem cellOk_spec {L : Nat → Lab} {w : World} {π : Option (List Nat)} {y : AV} {v : Value} (h : Rep L w π y v) (hy : y.cellOk = true) : v.cells = #[v] ∧ v.oneCell' = true ∧ y.cells = [y] := by
  cases h <;> first | exact ⟨rfl, rfl, rfl⟩ | (simp [AV.cellOk] at hy; done) | skip
  simp only [AV.cellOk] at hy
  refine ⟨?_, hy, rfl⟩
  cases v <;> first | rfl | (simp [Value.oneCell'] at hy)
theorem rep_cells {L : Nat → Lab} {w : World} {y : AV} {v : Value} (h : Rep L w none y v) (hy : y.varOk = true) : v.cells.size = y.cells.length ∧ (∀ u ∈ v.cells.toList, u.oneCell' = true) ∧ ∀ (j : Nat) z, y.cells[j]? = some z → ∃ u, v.cells[j]? = some u ∧ Rep L w none z u := by
  by_cases hagg : ∃ cs, y = .agg cs
  · obtain ⟨cs, rfl⟩ := hagg
    cases h with
    | @agg _ _ vs hl h =>
      simp only [AV.varOk, List.all_eq_true] at hy
      refine ⟨by simp [Value.cells, AV.cells, hl], fun u hu => ?_, fun j z hz => ?_⟩
      · have hu : u ∈ vs := by simpa [Value.cells] using hu
        obtain ⟨i, hi, rfl⟩ := List.mem_iff_getElem.1 hu
        have hi' : i < cs.length := by omega
        exact (cellOk_spec (h i cs[i] _ (List.getElem?_eq_getElem hi') (List.getElem?_eq_getElem hi)) (hy _ (List.getElem_mem hi'))).2.1
      · have hj : j < cs.length := (List.getElem?_eq_some_iff.1 hz).1
        simp only [AV.cells] at hz
        exact ⟨vs[j], by simp [Value.cells, show j < vs.length by omega], h j z _ hz (List.getElem?_eq_getElem (by omega))⟩
  · have hy' : y.cellOk = true := by cases y <;> first | exact hy | (exact absurd ⟨_, rfl⟩ hagg)
    obtain ⟨h1, h2, h3⟩ := cellOk_spec h hy'
    rw [h1, h3]
    refine ⟨rfl, fun u hu => ?_, fun j z hz => ?_⟩
    · simp at hu; subst hu; exact h2
    · cases j with
      | zero => simp only [List.getElem?_cons_zero, Option.some.injEq] at hz; subst hz; exact ⟨v, rfl, h⟩
      | succ j => simp at hz

theorem parts_values {w0 : World} {L0 : Nat → Lab} {a : Act} {w : World} {L : Nat → Lab} (hR : RelL S w0 L0 N σ a w L) {xs : List Operand} {ys : List AV} (h : PartsOk σ xs ys) : ∀ (i : Nat) y v, ys[i]? = some y → (xs.map a.eval)[i]? = some v → Rep L w none y v := by
  intro i y v hy hv
  simp only [List.getElem?_map, Option.map_eq_some_iff] at hv
  obtain ⟨x, hx, rfl⟩ := hv
  obtain ⟨h1, h2⟩ := h.get i x y hx hy
  obtain ⟨n, hn⟩ := ev_av hR h1
  exact hn.replace h2

/-- A flat row of values, read as a flat row of words. -/
theorem flat_values {L : Nat → Lab} {w : World} {c : Nat} : ∀ {ys : List AV} {vs : List Value}, vs.length = ys.length → (∀ y ∈ ys, y.varOk = true ∧ y.cells.length = c) → (∀ (i : Nat) y v, ys[i]? = some y → vs[i]? = some v → Rep L w none y v) →
    (∀ v ∈ vs, v.cells.size = c) ∧ (∀ u ∈ vs.flatMap (fun v => v.cells.toList), u.oneCell' = true) ∧ (vs.flatMap fun v => v.cells.toList).length = ys.length * c ∧
    ∀ (o : Nat) z, (flat ys)[o]? = some z → ∃ u, (vs.flatMap fun v => v.cells.toList)[o]? = some u ∧ Rep L w none z u
  | [], [], _, _, _ => ⟨by simp, by simp, by simp, by simp [flat]⟩
  | [], v :: vs, h, _, _ => by simp at h
  | y :: ys, [], h, _, _ => by simp at h
  | y :: ys, v :: vs, hl, hc, hr => by
    obtain ⟨h1, h2⟩ := hc y (List.mem_cons_self ..)
    obtain ⟨e1, e2, e3⟩ := rep_cells (hr 0 y v rfl rfl) h1
    obtain ⟨i1, i2, i3, i4⟩ := flat_values (ys := ys) (vs := vs) (by simpa using hl) (fun z hz => hc z (List.mem_cons_of_mem _ hz)) (fun i z u hz hu => hr (i + 1) z u (by simpa using hz) (by simpa using hu))
    have e1' : v.cells.toList.length = c := by simp [e1, h2]
    refine ⟨fun u hu => ?_, fun u hu => ?_, ?_, fun o z hz => ?_⟩
    · rcases List.mem_cons.1 hu with rfl | hu
      · rw [e1, h2]
      · exact i1 u hu
    · rw [List.flatMap_cons, List.mem_append] at hu
      rcases hu with hu | hu
      · exact e2 u hu
      · exact i2 u hu
    · rw [List.flatMap_cons, List.length_append, i3, e1', List.length_cons, Nat.add_mul]; omega
    · simp only [flat, List.flatMap_cons] at hz ⊢
      by_cases ho : o < c
      · rw [List.getElem?_append_left (by omega)] at hz ⊢
        obtain ⟨u, hu, hr'⟩ := e3 o z hz
        exact ⟨u, by rw [Array.getElem?_toList]; exact hu, hr'⟩
      · rw [List.getElem?_append_right (by omega)] at hz ⊢
        rw [h2] at hz; rw [e1']
        exact i4 _ z hz

theorem zero_cells {e : Nat} {ti : TI} (hE : S.T e = some ti) : ∃ f zv, S.P.info? e = some f ∧ f.size = ti.size ∧ f.zero = some zv ∧ zv.cells.size = ti.size :=
  let ⟨f, z, h1, h2, _, h4, _, _, h7⟩ := (S.ok e ti hE).info
  ⟨f, z, h1, h2, h4, h7⟩

/-- The run of a slice literal. -/
theorem run_buildSlice {t e c : Nat} {sz by_ : Nat} {zz : List AV} {ti : TI} (hT : S.T t = some ⟨.slice e, sz, by_, zz⟩) (hE : S.T e = some ti) (hc : ti.size = c) {vs : List Value} (h1 : ∀ v ∈ vs, v.cells.size = c) (hlen : (vs.flatMap fun v => v.cells.toList).length = vs.length * c) (hb : vs.length * c ≤ 16777216) (w : World) :
    (Instr.buildSlice t vs.length (vs.zipIdx.map fun p => (p.2, p.1)).toArray).run S.P w = .ok (.slice (some ⟨w.heap.size, 0, none⟩) vs.length vs.length) (w.alloc (.cells (vs.flatMap fun v => v.cells.toList).toArray e)) := by
  obtain ⟨f, zv, hf1, hf2, hf4, hf7⟩ := zero_cells hE
  have hsz : f.size = c := by rw [hf2, hc]
  simp only [Instr.buildSlice, Sem.run_bind, run_underlying (S.ok t _ hT).slice, Result.andThen_ok, Go.sizeOf, typeInfo, run_program, hf1, Sem.run_pure, hsz]
  rw [if_neg (by omega)]
  have key : ∀ zc : Array Value, zc.size = (if vs.length * c = 0 then 0 else c) →
      Instr.fill (fun i => some (i * c, c)) ((Array.range (vs.length * c)).map (zc[· % zc.size]!)) (vs.zipIdx.map fun p => (p.2, p.1)) = some (vs.flatMap fun v => v.cells.toList).toArray := by
    intro zc hzc
    obtain ⟨arr', h2, h3, h4⟩ := fill_parts c vs 0 ((Array.range (vs.length * c)).map (zc[· % zc.size]!)) h1 (by simp)
    rw [h2]
    congr 1
    apply Array.ext_getElem?
    intro j
    rw [h4 j]
    simp only [Nat.zero_mul, Nat.zero_add, Nat.zero_le, true_and, Nat.sub_zero, List.getElem?_toArray]
    by_cases hj : j < vs.length * c
    · rw [if_pos hj]
    · rw [if_neg hj, List.getElem?_eq_none (by rw [hlen]; omega)]
      simp; omega
  by_cases hz : vs.length * c = 0
  · rw [if_pos hz]
    have := key #[] (by rw [if_pos hz]; rfl)
    simp only [Sem.run_pure, Result.andThen_ok, this, newRow, Sem.run_bind, run_newObj]
    rfl
  · rw [if_neg hz]
    have := key zv.cells (by rw [if_neg hz, hf7, hc])
    simp only [zeroValue, typeInfo, Sem.run_bind, run_program, hf1, hf4, Sem.run_pure, Result.andThen_ok, this, newRow, run_newObj]
    rfl

/-- []T{..}: elements that are not owned. -/
theorem e_bls {t e c : Nat} {sz by_ : Nat} {zz : List AV} {ti : TI} {xs : List Operand} {ys : List AV} {n d ty : Nat} {ps : Array (Nat × Operand)} {pos : String} {aft : Array Edge} {g : Option (Nat × Bool)} (hT : S.T t = some ⟨.slice e, sz, by_, zz⟩) (hE : S.T e = some ti) (hc : ti.size = c)
    (hps : ps = (xs.zipIdx.map fun p => (p.2, p.1)).toArray) (hn : xs.length = n) (hp : PartsOk σ xs ys) (hok : ys.all (fun y => y.varOk && Nat.beq y.cells.length c) = true) (hb : Nat.ble (n * c) 16777216 = true) :
    EStep S ⟨some d, .buildSlice t n ps, ty, pos, aft, g⟩ σ (σ.put d (.av (.sl true c ys))) := by
  subst hps; subst hn
  intro w0 L0 N a w hN ⟨L, hR⟩
  have hall : ∀ y ∈ ys, y.varOk = true ∧ y.cells.length = c := fun y hy => by
    have := (List.all_eq_true.1 hok) y hy
    simp only [Bool.and_eq_true] at this
    exact ⟨this.1, Nat.eq_of_beq_eq_true this.2⟩
  have hl : (xs.map a.eval).length = ys.length := by rw [List.length_map, hp.length]
  obtain ⟨f1, f2, f3, f4⟩ := flat_values hl hall (parts_values hR hp)
  have hrun := run_buildSlice hT hE hc f1 (by rw [f3, hl]) (by rw [List.length_map]; exact Nat.le_of_ble_eq_true hb) w
  refine ⟨.slice (some ⟨w.heap.size, 0, none⟩) xs.length xs.length, w.alloc (.cells ((xs.map a.eval).flatMap fun v => v.cells.toList).toArray e), .inl ?_, hR.alloc (hN d rfl) ?_⟩
  · have e1 : ((xs.zipIdx.map fun p => (p.2, p.1)).toArray.map fun (i, x) => (i, a.eval x)) = ((xs.map a.eval).zipIdx.map fun p => (p.2, p.1)).toArray := by
      rw [List.zipIdx_map]
      simp
    simp only [execOp, Sem.run_bind]
    rw [e1]
    rw [List.length_map] at hrun
    rw [hrun]; rfl
  · refine rep_new hp.length.symm (fun y hy => (hall y hy).2) (Nat.le_refl _) (by rw [List.size_toArray, f3, hp.length]) fun o y hy => ?_
    obtain ⟨u, h1, h2⟩ := f4 o y hy
    exact ⟨u, by rw [List.getElem?_toArray]; exact h1, (Rep.inNew hR h2).any _⟩
end
end FM

/- An abstract machine over the kit's rules, part 8: append. -/
namespace FM
open Go Go.RowKit

/-- A slice value whose cells are known. -/
structure RowV (w : World) (c : Nat) (v : Value) (n : Nat) (vs : List Value) (a : Option Addr) (cap : Nat) : Prop where
  val : v = .slice a n cap
  len : vs.length = n * c
  cell : ∀ (j : Nat) u, vs[j]? = some u → ∃ b, a = some b ∧ w.cell? (b.add j) = some u

theorem run_firstCells {P : Program} {w : World} {c n : Nat} {v : Value} {vs : List Value} {a : Option Addr} {cap : Nat} (h : RowV w c v n vs a cap) : (Builtin.firstCells c n v).run P w = .ok vs.toArray w := by
  rw [h.val]
  cases a with
  | none =>
    have : vs = [] := by
      cases vs with
      | nil => rfl
      | cons u vs => obtain ⟨b, hb, _⟩ := h.cell 0 u rfl; cases hb
    subst this
    simp [Builtin.firstCells]
  | some b =>
    refine run_firstCells_some w c n b n cap vs h.len fun j u hu => ?_
    obtain ⟨b', hb, hc⟩ := h.cell j u hu
    cases hb; exact hc

theorem RowV.drew {w : World} {c n : Nat} {v : Value} {vs : List Value} {a : Option Addr} {cap : Nat} (h : RowV w c v n vs a cap) : RowV w.drew c v n vs a cap := ⟨h.val, h.len, h.cell⟩

section
variable {S : Sys} {N : Nat} {σ : St}

/-- append: a new array. -/
theorem run_app_grow {t e c t2 e2 : Nat} {sz by_ sz2 by2 by3 : Nat} {zz zz2 zs : List AV} {kk : TK} (hT : S.T t = some ⟨.slice e, sz, by_, zz⟩) (hT2 : S.T t2 = some ⟨.slice e2, sz2, by2, zz2⟩) (hE : S.T e = some ⟨kk, c, by3, zs⟩) {x y : Value} {n m : Nat} {olds news : List Value} {a a2 : Option Addr} {cap cap2 : Nat} {w : World}
    (hx : RowV w c x n olds a cap) (hy : RowV w c y m news a2 cap2) (hg : cap < n + m) (hb : (n + m) * by3 ≤ 140737488355328) (hm : n + m ≤ 4611686018427387904) (ty : Nat) :
    ∃ (cap' : Nat) (arr : Array Value), (Builtin.append_ #[t, t2] ty #[x, y]).run S.P w = .ok (.slice (some ⟨w.heap.size, 0, none⟩) (n + m) cap') (w.drew.alloc (.cells arr e)) ∧ n + m ≤ cap' ∧ arr.size = cap' * c ∧ ∀ j, j < (n + m) * c → arr[j]? = (olds ++ news)[j]? := by
  obtain ⟨f, zv, h1, h2, h3, h4, h5, h6, h7⟩ := (S.ok e _ hE).info
  have hf1 := run_firstCells (P := S.P) hx.drew
  have hf2 := run_firstCells (P := S.P) hy.drew
  have hn : ¬ (n + m ≤ cap) := by omega
  have h63 : ¬ (9223372036854775807 < ((n : Int) + (m : Int))) := by omega
  have h48 : ¬ (281474976710656 < Builtin.nextslicecap (n + m) cap * f.bytes) := by
    rw [h3]
    have := growslice_fits (bytes := by3) hg hb
    show ¬ (281474976710656 < Builtin.nextslicecap (n + m) cap * by3)
    omega
  have hge := grownCap_ge w (n + m) cap e
  have h2' : f.size = c := h2
  have h7' : zv.cells.size = c := h7
  refine ⟨grownCap w (n + m) cap e, olds.toArray ++ news.toArray ++ Builtin.zeroCells zv.cells (grownCap w (n + m) cap e - (n + m)), ?_, hge, ?_, fun j hj => ?_⟩
  · have hvx := hx.val
    have hvy := hy.val
    subst hvx hvy
    simp [Builtin.append_, run_underlying (S.ok t _ hT).slice, run_underlying (S.ok t2 _ hT2).slice, Go.sizeOf, typeInfo, zeroValue, h1, h2', h4, Builtin.lenOf, hn, h63, h48, Question.forced, hf1, hf2, newRow, grownCap]
    have hon : olds.toArray ++ news.toArray = (olds ++ news).toArray := by simp
    rw [← Array.append_assoc, hon]
  · simp only [Array.size_append, List.size_toArray, size_zeroCells, hx.len, hy.len, h7']
    rw [← Nat.add_mul, ← Nat.add_mul]
    congr 1; omega
  · have hl : (olds.toArray ++ news.toArray).size = (n + m) * c := by simp [hx.len, hy.len, Nat.add_mul]
    rw [Array.getElem?_append_left (by omega)]
    simp

theorem run_app_room {t e c t2 e2 : Nat} {sz by_ sz2 by2 by3 : Nat} {zz zz2 zs : List AV} {kk : TK} (hT : S.T t = some ⟨.slice e, sz, by_, zz⟩) (hT2 : S.T t2 = some ⟨.slice e2, sz2, by2, zz2⟩) (hE : S.T e = some ⟨kk, c, by3, zs⟩) {y : Value} {n m : Nat} {news : List Value} {a2 : Option Addr} {gb cap cap2 e3 : Nat} {cur : Array Value} {w : World}
    (hgb : w.heap[gb]? = some (.cells cur e3 (0, 0))) (hsz : cur.size = cap * c) (hy : RowV w c y m news a2 cap2) (h1 : ∀ u ∈ news, u.oneCell' = true) (hr : n + m ≤ cap) (ty : Nat) :
    (Builtin.append_ #[t, t2] ty #[.slice (some ⟨gb, 0, none⟩) n cap, y]).run S.P w = .ok (.slice (some ⟨gb, 0, none⟩) (n + m) cap) (w.setRow gb (cur.toList.take (n * c) ++ news ++ cur.toList.drop (n * c + news.length)).toArray) := by
  obtain ⟨f, zv, hf1, hf2, _⟩ := (S.ok e _ hE).info
  have hf2' : f.size = c := hf2
  have hf := run_firstCells (P := S.P) hy
  have hvy := hy.val
  subst hvy
  have hfit : n * c + 0 + news.length ≤ cur.size := by
    rw [hy.len, hsz, Nat.add_zero, ← Nat.add_mul]; exact Nat.mul_le_mul_right _ hr
  have hst := run_storeCells_at S.P gb (n * c) e3 news 0 cur w hgb hfit h1
  simp only [Nat.add_zero] at hst
  simp [Builtin.append_, run_underlying (S.ok t _ hT).slice, run_underlying (S.ok t2 _ hT2).slice, Go.sizeOf, typeInfo, hf1, hf2', Builtin.lenOf, hr, hf, addr_add, hst]

theorem run_app_none {t e c t2 e2 : Nat} {sz by_ sz2 by2 by3 : Nat} {zz zz2 zs : List AV} {kk : TK} (hT : S.T t = some ⟨.slice e, sz, by_, zz⟩) (hT2 : S.T t2 = some ⟨.slice e2, sz2, by2, zz2⟩) (hE : S.T e = some ⟨kk, c, by3, zs⟩) {y : Value} {a a2 : Option Addr} {cap2 : Nat} {w : World}
    (hy : RowV w c y 0 [] a2 cap2) (ty : Nat) :
    (Builtin.append_ #[t, t2] ty #[.slice a 0 0, y]).run S.P w = .ok (.slice a 0 0) w := by
  obtain ⟨f, zv, hf1, hf2, _⟩ := (S.ok e _ hE).info
  have hf := run_firstCells (P := S.P) hy
  have hvy := hy.val
  subst hvy
  have hf' : (Builtin.firstCells f.size 0 (.slice a2 0 cap2)).run S.P w = .ok #[] w := by rw [show f.size = c from hf2]; simpa using hf
  cases a <;> simp [Builtin.append_, run_underlying (S.ok t _ hT).slice, run_underlying (S.ok t2 _ hT2).slice, Go.sizeOf, typeInfo, hf1, Builtin.lenOf, hf', storeCells]

/-! ### the frame -/
/-- What append takes over: the slot that it consumes, if any. -/
def srcAt (σ : St) (x : Operand) : Option (Option Nat × Option Nat × List AV) :=
  match ov σ x with
  | .av .nil => some (none, none, [])
  | .av (.sl true c xs) => match x with
    | .tmp t => some (some t, some c, xs)
    | _ => none
  | .ref s => match get σ s with
    | .av (.sl true c xs) => some (some s, some c, xs)
    | _ => none
  | _ => none

def isS (s? : Option Nat) (h : Nat) : Bool := match s? with
  | some s => Nat.beq s h
  | none => false
theorem isS_some {s h : Nat} : isS (some s) h = true ↔ s = h := ⟨Nat.eq_of_beq_eq_true, fun e => by subst e; exact Nat.beq_refl s⟩

def φapp (d : Nat) (s? t? : Option Nat) (k : Nat) : List Nat → Option (List Nat)
  | [] => none
  | h :: q => bif Nat.beq h d then none else
    bif isS s? h then (match q with
      | o :: q' => if o < k then some (d :: o :: q') else none
      | [] => none) else
    bif isS t? h then (match q with
      | o :: q' => some (d :: (k + o) :: q')
      | [] => none) else some (h :: q)

theorem φapp_cases {d : Nat} {s? t? : Option Nat} {k : Nat} {p r : List Nat} (h : φapp d s? t? k p = some r) :
    (∃ s o q, s? = some s ∧ p = s :: o :: q ∧ o < k ∧ r = d :: o :: q) ∨ (∃ t o q, t? = some t ∧ p = t :: o :: q ∧ r = d :: (k + o) :: q ∧ isS s? t = false) ∨ (∃ a q, p = a :: q ∧ r = a :: q ∧ a ≠ d ∧ isS s? a = false ∧ isS t? a = false) := by
  cases p with
  | nil => cases h
  | cons a q =>
    simp only [φapp] at h
    cases hd : Nat.beq a d with
    | true => rw [hd] at h; cases h
    | false =>
      rw [hd, cond_false] at h
      cases hs : isS s? a with
      | true =>
        rw [hs, cond_true] at h
        cases q with
        | nil => cases h
        | cons o q' =>
          simp only at h
          split at h
          · rename_i hlt
            injection h with h
            cases s? with
            | none => cases hs
            | some s => have := isS_some.1 hs; subst this; exact .inl ⟨s, o, q', rfl, rfl, hlt, h.symm⟩
          · cases h
      | false =>
        rw [hs, cond_false] at h
        cases ht : isS t? a with
        | true =>
          rw [ht, cond_true] at h
          cases q with
          | nil => cases h
          | cons o q' =>
            simp only at h
            injection h with h
            cases t? with
            | none => cases ht
            | some t => have := isS_some.1 ht; subst this; exact .inr (.inl ⟨t, o, q', rfl, rfl, h.symm, hs⟩)
        | false =>
          rw [ht, cond_false] at h
          injection h with h
          exact .inr (.inr ⟨a, q, rfl, h.symm, of_not_beq hd, hs, ht⟩)
theorem φapp_inj (d : Nat) (s? t? : Option Nat) (k : Nat) : Inj (φapp d s? t? k) := by
  refine ⟨fun p p' r h h' => ?_, fun p h => ?_⟩
  · rcases φapp_cases h with ⟨s, o, q, e1, e2, e3, e4⟩ | ⟨t, o, q, e1, e2, e3, e4⟩ | ⟨b, q, e1, e2, e3, e4, e5⟩ <;>
      rcases φapp_cases h' with ⟨s', o', q', e1', e2', e3', e4'⟩ | ⟨t', o', q', e1', e2', e3', e4'⟩ | ⟨b', q', e1', e2', e3', e4', e5'⟩
    · rw [e1] at e1'; cases e1'; subst e2; subst e2'; rw [e4] at e4'; cases e4'; rfl
    · rw [e4] at e3'; injection e3' with _ e; injection e with e _; omega
    · rw [e4] at e2'; injection e2' with e _; exact absurd e.symm e3'
    · rw [e3] at e4'; injection e4' with _ e; injection e with e _; omega
    · rw [e1] at e1'; cases e1'; subst e2; subst e2'; rw [e3] at e3'; injection e3' with _ e; injection e with e1 e2; subst e2; have : o = o' := by omega
      subst this; rfl
    · rw [e3] at e2'; injection e2' with e _; exact absurd e.symm e3'
    · rw [e2] at e4'; injection e4' with e _; exact absurd e e3
    · rw [e2] at e3'; injection e3' with e _; exact absurd e e3
    · subst e1; subst e1'; rw [e2] at e2'; exact e2'
  · rcases φapp_cases h with ⟨_, _, _, _, _, _, e⟩ | ⟨_, _, _, _, _, e, _⟩ | ⟨_, _, _, e, _⟩ <;> cases e
theorem φapp_ne (d : Nat) (s? t? : Option Nat) (k : Nat) (p : List Nat) : φapp d s? t? k p ≠ some [d] := by
  intro h
  rcases φapp_cases h with ⟨_, _, _, _, _, _, e⟩ | ⟨_, _, _, _, _, e, _⟩ | ⟨_, _, _, e, e3, _⟩
  · cases e
  · cases e
  · injection e with e _; exact e3 e.symm
theorem φapp_s {d s o k : Nat} {t? : Option Nat} {q : List Nat} (hsd : s ≠ d) (ho : o < k) : φapp d (some s) t? k (s :: o :: q) = some (d :: o :: q) := by
  simp [φapp, not_beq hsd, isS, Nat.beq_refl, ho]
theorem φapp_t {d t o k : Nat} {s? : Option Nat} {q : List Nat} (htd : t ≠ d) (hs : isS s? t = false) : φapp d s? (some t) k (t :: o :: q) = some (d :: (k + o) :: q) := by
  simp only [φapp, not_beq htd, hs, cond_false]
  simp [isS, Nat.beq_refl]
theorem φapp_o {d a k : Nat} {s? t? : Option Nat} {q : List Nat} (h1 : a ≠ d) (h2 : isS s? a = false) (h3 : isS t? a = false) : φapp d s? t? k (a :: q) = some (a :: q) := by
  simp only [φapp, not_beq h1, h2, h3, cond_false]

def killO (s? : Option Nat) (σ : St) : St := match s? with
  | some s => σ.put s .none
  | none => σ
theorem get_killO {s? : Option Nat} {σ : St} {n : Nat} : get (killO s? σ) n = .none ∨ (isS s? n = false ∧ get (killO s? σ) n = get σ n ∧ ∀ s, s? = some s → (get σ n).dep s = false) := by
  cases s? with
  | none => exact .inr ⟨rfl, rfl, fun s h => by cases h⟩
  | some s =>
    simp only [killO, get, kill_eq, isS]
    cases h : Nat.beq s n with
    | true => exact .inl rfl
    | false =>
      rw [cond_false]
      cases hd : (get σ n).dep s with
      | true => exact .inl rfl
      | false => exact .inr ⟨rfl, rfl, fun s' h => by cases h; exact hd⟩

/-- What of a slice that is appended is needed. -/
structure YSrc (L : Nat → Lab) (w : World) (c d k : Nat) (t? : Option Nat) (ys : List AV) (v : Value) (m : Nat) (news : List Value) (a2 : Option Addr) (cap2 : Nat) : Prop where
  row : RowV w c v m news a2 cap2
  one : ∀ u ∈ news, u.oneCell' = true
  len : ys.length = m
  cells : ∀ y ∈ ys, y.cells.length = c
  rep : ∀ (o : Nat) z, (flat ys)[o]? = some z → ∃ u, news[o]? = some u ∧ ∀ (L' : Nat → Lab) (w' : World), w.heap.size ≤ w'.heap.size → w'.os = w.os → w'.tape = w.tape → w'.output = w.output →
    (∀ b, L b = .sh → b < w.heap.size → L' b = .sh ∧ w'.heap[b]? = w.heap[b]?) → (∀ t, t? = some t → ∀ b o q, L b = .my (t :: o :: q) → L' b = .my (d :: (k + o) :: q) ∧ w'.heap[b]? = w.heap[b]?) → Rep L' w' (some [d, k + o]) z u

theorem cell_add {w : World} {b off o : Nat} {u : Value} (h : w.cell? ⟨b, off + o, none⟩ = some u) : w.cell? ((⟨b, off, none⟩ : Addr).add o) = some u := by rw [addr_add]; exact h

/-- The rows of a reading. -/
theorem rep_row {L : Nat → Lab} {w : World} {π : Option (List Nat)} {own : Bool} {c : Nat} {xs : List AV} {v : Value} (h : Rep L w π (.sl own c xs) v) :
    ∃ a cap us, RowV w c v xs.length us a cap ∧ (∀ x ∈ xs, x.cells.length = c) ∧
      ((us = [] ∧ xs = [] ∧ (own = true → cap = 0)) ∨
       (own = false ∧ ∃ b off, a = some ⟨b, off, none⟩ ∧ L b = .sh ∧ b < w.heap.size ∧ ∀ (o : Nat) z, (flat xs)[o]? = some z → ∃ u, us[o]? = some u ∧ Rep L w none z u) ∨
       (own = true ∧ ∃ p b arr e, π = some p ∧ a = some ⟨b, 0, none⟩ ∧ L b = .my p ∧ w.heap[b]? = some (.cells arr e (0, 0)) ∧ xs.length ≤ cap ∧ arr.size = cap * c ∧ (∀ o, o < xs.length * c → us[o]? = arr[o]?) ∧ ∀ (o : Nat) z, (flat xs)[o]? = some z → ∃ u, us[o]? = some u ∧ Rep L w (some (p ++ [o])) z u)) := by
  cases h with
  | @slE _ _ _ a cap h => exact ⟨a, cap, [], ⟨rfl, by simp, by simp⟩, by simp, .inl ⟨rfl, rfl, h⟩⟩
  | @slS _ c xs b off cap u hcap hL hb hc hcell hr =>
    refine ⟨_, cap, (List.range (xs.length * c)).map u, ⟨rfl, by simp, fun j v hv => ⟨_, rfl, ?_⟩⟩, hc, .inr (.inl ⟨rfl, b, off, rfl, hL, hb, fun o z hz => ?_⟩)⟩
    · simp only [List.getElem?_map, Option.map_eq_some_iff] at hv
      obtain ⟨i, hi, rfl⟩ := hv
      obtain ⟨hlt, rfl⟩ := List.getElem?_eq_some_iff.1 hi
      simp only [List.length_range] at hlt
      simp only [List.getElem_range]
      exact cell_add (hcell j hlt)
    · have ho : o < xs.length * c := by rw [← flat_length hc]; exact (List.getElem?_eq_some_iff.1 hz).1
      exact ⟨u o, by simp [ho], hr o z hz⟩
  | @slO p c xs b cap arr e u hL hb hcap hsz hc hcell hr =>
    refine ⟨_, cap, (List.range (xs.length * c)).map u, ⟨rfl, by simp, fun j v hv => ⟨_, rfl, ?_⟩⟩, hc, .inr (.inr ⟨rfl, p, b, arr, e, rfl, rfl, hL, hb, hcap, hsz, fun o ho => by simp [ho, hcell o ho], fun o z hz => ?_⟩)⟩
    · simp only [List.getElem?_map, Option.map_eq_some_iff] at hv
      obtain ⟨i, hi, rfl⟩ := hv
      obtain ⟨hlt, rfl⟩ := List.getElem?_eq_some_iff.1 hi
      simp only [List.length_range] at hlt
      simp only [List.getElem_range]
      refine cell_add ?_
      rw [Nat.zero_add, cell_of_row w b j arr e (0, 0) hb]; exact hcell j hlt
    · have ho : o < xs.length * c := by rw [← flat_length hc]; exact (List.getElem?_eq_some_iff.1 hz).1
      exact ⟨u o, by simp [ho], hr o z hz⟩

theorem srcAt_spec {x : Operand} {s? : Option Nat} {c? : Option Nat} {xs : List AV} (h : srcAt σ x = some (s?, c?, xs)) {w0 : World} {L0 : Nat → Lab} {a : Act} {w : World} {L : Nat → Lab} (hR : RelL S w0 L0 N σ a w L) :
    (s? = none ∧ xs = [] ∧ a.eval x = .slice none 0 0) ∨ ∃ s c, s? = some s ∧ c? = some c ∧ s < N ∧ get σ s = .av (.sl true c xs) ∧ Rep L w (some [s]) (.sl true c xs) (a.eval x) := by
  unfold srcAt at h
  split at h
  · rename_i hx
    simp only [Option.some.injEq, Prod.mk.injEq] at h
    obtain ⟨rfl, rfl, rfl⟩ := h
    exact .inl ⟨rfl, rfl, ev_nil hR hx⟩
  · rename_i c xs' hx
    split at h
    · rename_i t
      simp only [Option.some.injEq, Prod.mk.injEq] at h
      obtain ⟨rfl, rfl, rfl⟩ := h
      have ht := own_lt hR hx (by simp)
      have := hR.hold t ht
      rw [show get σ t = _ from hx] at this
      exact .inr ⟨t, c, rfl, rfl, ht, hx, this⟩
    · cases h
  · rename_i s hx
    split at h
    · rename_i c xs' hs
      simp only [Option.some.injEq, Prod.mk.injEq] at h
      obtain ⟨rfl, rfl, rfl⟩ := h
      obtain ⟨n, hn, _⟩ := hold_plain hR hx (by simp)
      simp only [Hold] at hn
      have hsN := own_lt hR hs (by simp)
      have := hR.hold s hsN
      rw [hs] at this
      refine .inr ⟨s, c, rfl, rfl, hsN, hs, by rw [hn]; exact this⟩
    · cases h
  · cases h

/-- **append**, whatever its source. -/
theorem app_core {t e c t2 e2 : Nat} {sz by_ sz2 by2 by3 : Nat} {zz zz2 zs : List AV} {kk : TK} (hT : S.T t = some ⟨.slice e, sz, by_, zz⟩) (hT2 : S.T t2 = some ⟨.slice e2, sz2, by2, zz2⟩) (hE : S.T e = some ⟨kk, c, by3, zs⟩) {x y : Operand} {s? c? t? : Option Nat} {xs ys : List AV} {d ty : Nat} {pos : String} {aft : Array Edge} {g : Option (Nat × Bool)}
    (hx : srcAt σ x = some (s?, c?, xs)) (hc : ∀ c', c? = some c' → c' = c) (hsd : isS s? d = false) (htd : isS t? d = false) (hst : ∀ t, t? = some t → isS s? t = false) (hb : (xs.length + ys.length) * by3 ≤ 140737488355328) (hm : xs.length + ys.length ≤ 4611686018427387904)
    {w0 : World} {L0 : Nat → Lab} {a : Act} {w : World} {L : Nat → Lab} (hR : RelL S w0 L0 N σ a w L) (hd : DOk S N d) {news : List Value} {a2 : Option Addr} {cap2 : Nat} (hY : YSrc L w c d (xs.length * c) t? ys (a.eval y) ys.length news a2 cap2) :
    ∃ v w', (execOp a.eval ⟨some d, .call ⟨.builtin .append, #[x, y], #[t, t2]⟩, ty, pos, aft, g⟩).run S.P w = .ok (.value v) w' ∧ Rel S w0 L0 N ((killO t? (killO s? σ)).put d (.av (.sl true c (xs ++ ys)))) (a.put (some d) v) w' := by
  have hexec : ∀ v w', (Builtin.append_ #[t, t2] ty #[a.eval x, a.eval y]).run S.P w = .ok v w' → (execOp a.eval ⟨some d, .call ⟨.builtin .append, #[x, y], #[t, t2]⟩, ty, pos, aft, g⟩).run S.P w = .ok (.value v) w' := fun v w' h => by
    simp [execOp, resolve, invoke, builtin, h]
  -- the rows of x
  obtain ⟨ax, cap, olds, hrow, hcx, hxc⟩ : ∃ ax cap olds, RowV w c (a.eval x) xs.length olds ax cap ∧ (∀ z ∈ xs, z.cells.length = c) ∧
      ((olds = [] ∧ xs = [] ∧ cap = 0) ∨ ∃ s b arr e3, s? = some s ∧ ax = some ⟨b, 0, none⟩ ∧ L b = .my [s] ∧ w.heap[b]? = some (.cells arr e3 (0, 0)) ∧ xs.length ≤ cap ∧ arr.size = cap * c ∧ (∀ o, o < xs.length * c → olds[o]? = arr[o]?) ∧ ∀ (o : Nat) z, (flat xs)[o]? = some z → ∃ u, olds[o]? = some u ∧ Rep L w (some [s, o]) z u) := by
    rcases srcAt_spec hx hR with ⟨h1, rfl, h3⟩ | ⟨s, c', h1, h2, _, _, h4⟩
    · exact ⟨none, 0, [], ⟨h3, by simp, by simp⟩, by simp, .inl ⟨rfl, rfl, rfl⟩⟩
    · have := hc c' h2
      subst this
      obtain ⟨a1, cap, us, e1, e2, e3⟩ := rep_row h4
      refine ⟨a1, cap, us, e1, e2, ?_⟩
      rcases e3 with ⟨r1, r2, r3⟩ | ⟨r1, _⟩ | ⟨_, p, b, arr, e3, r1, r2, r3, r4, r5, r6, r7, r8⟩
      · exact .inl ⟨r1, r2, r3 rfl⟩
      · cases r1
      · cases r1
        exact .inr ⟨s, b, arr, e3, h1, r2, r3, r4, r5, r6, r7, r8⟩
  have hlenx : olds.length = xs.length * c := hrow.len
  have hleny : news.length = ys.length * c := hY.row.len
  have hcy := hY.cells
  have hcxy : ∀ z ∈ xs ++ ys, z.cells.length = c := fun z hz => by rcases List.mem_append.1 hz with h | h; exact hcx z h; exact hcy z h
  -- the frame behind it, in general
  have fin : ∀ (gb : Nat) (w' : World) (v : Value) (arr : Array Value) (e3 cap' : Nat), v = .slice (some ⟨gb, 0, none⟩) (xs.length + ys.length) cap' → w'.heap[gb]? = some (.cells arr e3 (0, 0)) → xs.length + ys.length ≤ cap' → arr.size = cap' * c → (∀ j, j < (xs.length + ys.length) * c → arr[j]? = (olds ++ news)[j]?) →
      w.heap.size ≤ w'.heap.size → w'.os = w.os → w'.tape = w.tape → w'.output = w.output → (∀ b, b ≠ gb → b < w.heap.size → w'.heap[b]? = w.heap[b]?) → (w.heap.size ≤ gb ∨ ∃ s, s? = some s ∧ L gb = .my [s]) → gb < w'.heap.size →
      Rel S w0 L0 N ((killO t? (killO s? σ)).put d (.av (.sl true c (xs ++ ys)))) (a.put (some d) v) w' := by
    intro gb w' v arr e3 cap' hv hgb hcap' hsz' harr hs ho ht hu hblk hgold hlt
    subst hv
    have hne_sh : ∀ b, L b = .sh → b < w.heap.size → b ≠ gb := fun b hb hlt' e => by
      subst e
      rcases hgold with h | ⟨s, _, h⟩
      · omega
      · rw [hb] at h; cases h
    have hsh : ∀ b, L b = .sh → b < w.heap.size → setL (φapp d s? t? (xs.length * c)) gb d L b = .sh ∧ w'.heap[b]? = w.heap[b]? := fun b hb hlt' =>
      ⟨by unfold setL; rw [if_neg (hne_sh b hb hlt')]; exact remap_sh hb, hblk b (hne_sh b hb hlt') hlt'⟩
    have hmy : ∀ b p r, L b = .my p → φapp d s? t? (xs.length * c) p = some r → (∀ s, s? = some s → p ≠ [s]) → setL (φapp d s? t? (xs.length * c)) gb d L b = .my r ∧ w'.heap[b]? = w.heap[b]? := fun b p r hb hφ hp => by
      have hlt' := hR.lok.lt b p hb
      have hne : b ≠ gb := fun e => by
        subst e
        rcases hgold with h | ⟨s, h1, h2⟩
        · omega
        · rw [hb] at h2; injection h2 with h2; exact hp s h1 h2
      exact ⟨by unfold setL; rw [if_neg hne]; exact remap_to hb hφ, hblk b hne hlt'⟩
    have hkeep : Keep L0 w0 w' := by
      refine ⟨ho.trans hR.keep.os, ht.trans hR.keep.tape, hu.trans hR.keep.output, Nat.le_trans hR.keep.size hs, fun b hb hn => ?_⟩
      have hlt' := Nat.lt_of_lt_of_le hb hR.keep.size
      refine (hblk b (fun e => ?_) hlt').trans (hR.keep.block b hb hn)
      subst e
      rcases hgold with h | ⟨s, _, h2⟩
      · omega
      · obtain ⟨q, hq⟩ := hR.lok.old b [s] hb h2; exact hn q hq
    refine ⟨setL (φapp d s? t? (xs.length * c)) gb d L, hR.defers, by simp [Act.put, hR.size], hkeep, hR.lok.setL hs (φapp_inj _ _ _ _) (φapp_ne _ _ _ _) hlt (fun h' => ?_), fun n hn => ?_, fun n hn => ?_, fun i hi => (getD_set_other (hd.ne hi)).trans (hR.fix i hi), hR.glob⟩
    · rcases hgold with h | ⟨s, _, h2⟩
      · have := hR.keep.size; omega
      · exact ⟨_, h2⟩
    · simp only [get, kill_eq, Act.put]
      by_cases hnd : d = n
      · subst hnd
        rw [Nat.beq_refl, cond_true, getD_set_same (by rw [hR.size]; exact hd.lt)]
        simp only [Hold]
        rw [← List.length_append]
        refine .slO (fun o => arr.getD o undef) (by simp [setL]) hgb (by simpa using hcap') hsz' hcxy (fun o ho' => ?_) (fun o z hz => ?_)
        · have : o < arr.size := by rw [hsz']; exact Nat.lt_of_lt_of_le ho' (Nat.mul_le_mul_right _ (by simpa using hcap'))
          simp [this]
        · have hol : o < (xs.length + ys.length) * c := by
            have := (List.getElem?_eq_some_iff.1 hz).1
            rwa [flat_length hcxy, List.length_append] at this
          have hao := harr o hol
          rw [flat_append] at hz
          by_cases hox : o < xs.length * c
          · rw [List.getElem?_append_left (by rw [flat_length hcx]; exact hox)] at hz
            rcases hxc with ⟨_, rfl, _⟩ | ⟨s, b, arr0, e0, h1, h2, h3, h4, h5, h6, h7, h8⟩
            · simp at hox
            · obtain ⟨u, hu', hr⟩ := h8 o z hz
              rw [List.getElem?_append_left (by rw [hlenx]; exact hox), hu'] at hao
              have : arr.getD o undef = u := by simp [hao]
              rw [this]
              refine hr.frame hs ho ht hu hsh _ fun p hp => ?_
              cases hp
              have hsd' : s ≠ d := fun e => by subst e; subst h1; simp [isS, Nat.beq_refl] at hsd
              exact ⟨[d, o], rfl, fun b' q hb' => hmy b' _ _ hb' (by subst h1; exact φapp_s hsd' hox) (fun s' _ e => by simp at e)⟩
          · rw [List.getElem?_append_right (by rw [flat_length hcx]; omega), flat_length hcx] at hz
            obtain ⟨u, hu', hr⟩ := hY.rep _ z hz
            rw [List.getElem?_append_right (by rw [hlenx]; omega), hlenx, hu'] at hao
            have : arr.getD o undef = u := by simp [hao]
            rw [this]
            have := hr _ w' hs ho ht hu hsh (fun t htt b o' q hb' => hmy b _ _ hb' (by
              subst htt
              exact φapp_t (fun e => by subst e; simp [isS, Nat.beq_refl] at htd) (hst t rfl)) (fun s' _ e => by simp at e))
            rwa [show xs.length * c + (o - xs.length * c) = o by omega] at this
      · rw [not_beq hnd, cond_false, getD_set_other hnd]
        cases hdep : (get (killO t? (killO s? σ)) n).dep d with
        | true => trivial
        | false =>
          rw [cond_false]
          rcases get_killO (s? := t?) (σ := killO s? σ) (n := n) with h | ⟨h1, h2, h3⟩
          · rw [h]; trivial
          · rw [h2] at hdep ⊢
            rcases get_killO (s? := s?) (σ := σ) (n := n) with h | ⟨h4, h5, h6⟩
            · rw [h]; trivial
            · rw [h5] at hdep h3 ⊢
              refine Hold.relab (good := fun m => m ≠ d ∧ isS s? m = false ∧ isS t? m = false) hs ho ht hu hsh (fun b m q hb hg => hmy b _ _ hb (φapp_o hg.1 hg.2.1 hg.2.2) (fun s hs' e => by
                injection e with e _
                subst e
                have := hg.2.1
                subst hs'
                simp [isS, Nat.beq_refl] at this)) (fun s' hg => getD_set_other (fun e => hg.1 e.symm)) ⟨fun e => hnd e.symm, h4, h1⟩ (fun m hm => ⟨fun e => ?_, ?_, ?_⟩) (hR.hold n hn)
              · subst e; rw [hdep] at hm; cases hm
              · rw [← Bool.not_eq_true]; intro e
                cases s? with
                | none => cases e
                | some s => have := isS_some.1 e; subst this; have := h6 s rfl; rw [this] at hm; cases hm
              · rw [← Bool.not_eq_true]; intro e
                cases t? with
                | none => cases e
                | some s => have := isS_some.1 e; subst this; have := h3 s rfl; rw [this] at hm; cases hm
    · simp only [get, kill_eq]
      rw [not_beq (show d ≠ n by have := hd.lt; omega), cond_false]
      rcases get_killO (s? := t?) (σ := killO s? σ) (n := n) with h | ⟨_, h2, _⟩
      · rw [h]; rfl
      · rw [h2]
        rcases get_killO (s? := s?) (σ := σ) (n := n) with h | ⟨_, h5, _⟩
        · rw [h]; rfl
        · rw [h5, hR.out n hn]; rfl
  by_cases hgrow : cap < xs.length + ys.length
  · obtain ⟨cap', arr, h1, h2, h3, h4⟩ := run_app_grow hT hT2 hE hrow hY.row hgrow hb hm ty
    refine ⟨_, _, hexec _ _ h1, fin w.heap.size _ _ arr e cap' rfl (heap_alloc_new w.drew _) h2 h3 h4 (by simp) rfl rfl rfl (fun b _ hlt => (alloc_ext w.drew (.cells arr e)).block b hlt) (.inl (Nat.le_refl _)) (by simp)⟩
  · rcases hxc with ⟨rfl, rfl, rfl⟩ | ⟨s, b, arr0, e0, h1, h2, h3, h4, h5, h6, h7, h8⟩
    · -- nothing appended to nothing
      have hy0 : ys = [] := List.eq_nil_of_length_eq_zero (by simp only [List.length_nil, Nat.zero_add] at hgrow; omega)
      subst hy0
      have hn0 : news = [] := List.eq_nil_of_length_eq_zero (by simpa using hleny)
      subst hn0
      have hv := hrow.val
      simp only [List.length_nil] at hv
      have hr := run_app_none hT hT2 hE hY.row ty (a := ax) (w := w)
      rw [← hv] at hr
      refine ⟨_, _, hexec _ _ hr, Rel.weaken (σ := σ.put d (.av (.sl true c []))) (fun n => ?_) ⟨_, hR.put hd (by rw [hv]; exact .slE (fun _ => rfl))⟩⟩
      simp only [get, kill_eq, List.append_nil]
      cases hdn : Nat.beq d n with
      | true => exact .inl rfl
      | false =>
        simp only [cond_false]
        rcases get_killO (s? := t?) (σ := killO s? σ) (n := n) with h | ⟨_, h2, _⟩
        · rw [h]; exact .inr rfl
        · rw [h2]
          rcases get_killO (s? := s?) (σ := σ) (n := n) with h | ⟨_, h5, _⟩
          · rw [h]; exact .inr rfl
          · rw [h5]; exact .inl rfl
    · have hv := hrow.val
      subst h2
      have hr := run_app_room hT hT2 hE h4 h6 hY.row hY.one (by omega : xs.length + ys.length ≤ cap) ty
      rw [← hv] at hr
      have hblt := (Array.getElem?_eq_some_iff.1 h4).1
      have hmul : (xs.length + ys.length) * c ≤ cap * c := Nat.mul_le_mul_right _ (by omega)
      rw [Nat.add_mul] at hmul
      refine ⟨_, _, hexec _ _ hr, fin b _ _ (arr0.toList.take (xs.length * c) ++ news ++ arr0.toList.drop (xs.length * c + news.length)).toArray e0 cap rfl (setRow_heap w b arr0 _ e0 (0, 0) h4) (by omega) ?_ (fun j hj => ?_) (by simp) rfl rfl rfl (fun k hk _ => setRow_other w b k _ hk) (.inr ⟨s, h1, h3⟩) (by simpa using hblt)⟩
      · simp only [List.size_toArray, List.length_append, List.length_take, List.length_drop, Array.length_toList, hleny]
        omega
      · rw [Nat.add_mul] at hj
        rw [List.getElem?_toArray]
        by_cases hjx : j < xs.length * c
        · rw [List.append_assoc, List.getElem?_append_left (by simp; omega), List.getElem?_append_left (by omega), List.getElem?_take, if_pos hjx, h7 j hjx, Array.getElem?_toList]
        · rw [List.getElem?_append_left (by simp [hleny]; omega), List.getElem?_append_right (by simp; omega), List.getElem?_append_right (by omega)]
          congr 1
          simp; omega

/-- Cells that a store may write. -/
def CellsOk (ys : List AV) : Prop := ∀ z ∈ flat ys, z.cellOk = true
def FlatOk (ys : List AV) : Prop := ∀ z ∈ flat ys, z.flatPlain = true ∧ z.cellOk = true
theorem CellsOk.lit {ys : List AV} (h : (flat ys).all AV.cellOk = true) : CellsOk ys := fun z hz => List.all_eq_true.1 h z hz
theorem CellsOk.map {α : Type} {f : α → AV} {l : List α} (h : ∀ x, (f x).cells.all AV.cellOk = true) : CellsOk (l.map f) := by
  intro z hz
  simp only [flat, List.mem_flatMap, List.mem_map] at hz
  obtain ⟨_, ⟨x, _, rfl⟩, hz⟩ := hz
  exact List.all_eq_true.1 (h x) z hz
theorem FlatOk.lit {ys : List AV} (h : (flat ys).all (fun z => z.flatPlain && z.cellOk) = true) : FlatOk ys := fun z hz => by simpa using List.all_eq_true.1 h z hz
theorem FlatOk.map {α : Type} {f : α → AV} {l : List α} (h : ∀ x, (f x).cells.all (fun z => z.flatPlain && z.cellOk) = true) : FlatOk (l.map f) := by
  intro z hz
  simp only [flat, List.mem_flatMap, List.mem_map] at hz
  obtain ⟨_, ⟨x, _, rfl⟩, hz⟩ := hz
  simpa using List.all_eq_true.1 (h x) z hz
theorem FlatOk.int {l : List Int} : FlatOk (l.map AV.int) := .map fun _ => rfl
theorem CellsOk.int {l : List Int} : CellsOk (l.map AV.int) := .map fun _ => rfl

theorem one_of {L : Nat → Lab} {w : World} {ys : List AV} {us : List Value} {c : Nat} {π : Nat → Option (List Nat)} (hok : CellsOk ys) (hl : us.length = ys.length * c) (hc : ∀ y ∈ ys, y.cells.length = c) (h : ∀ (o : Nat) z, (flat ys)[o]? = some z → ∃ u, us[o]? = some u ∧ Rep L w (π o) z u) : ∀ u ∈ us, u.oneCell' = true := by
  intro u hu
  obtain ⟨o, ho, rfl⟩ := List.mem_iff_getElem.1 hu
  have hlt : o < (flat ys).length := by rw [flat_length hc, ← hl]; exact ho
  obtain ⟨u', h1, h2⟩ := h o _ (List.getElem?_eq_getElem hlt)
  rw [List.getElem?_eq_getElem ho] at h1
  injection h1 with h1
  rw [h1]
  exact (cellOk_spec h2 (hok _ (List.getElem_mem hlt))).2.1

section
variable {t e c t2 e2 : Nat} {sz by_ sz2 by2 by3 : Nat} {zz zz2 zs : List AV} {kk : TK} {x y : Operand} {s? c? : Option Nat} {xs ys : List AV} {d ty : Nat} {pos : String} {aft : Array Edge} {g : Option (Nat × Bool)}

/-- append(x, y...), y being a slice of the call's own that lies in slot ty: used up. -/
theorem e_appO {ty0 : Nat} (hT : S.T t = some ⟨.slice e, sz, by_, zz⟩) (hT2 : S.T t2 = some ⟨.slice e2, sz2, by2, zz2⟩) (hE : S.T e = some ⟨kk, c, by3, zs⟩) (hx : srcAt σ x = some (s?, c?, xs)) (hy : get σ ty0 = .av (.sl true c ys)) (hc : c?.getD c = c) (hsd : isS s? d = false) (htd : Nat.beq ty0 d = false) (hst : isS s? ty0 = false) (hok : CellsOk ys)
    (hb : (xs.length + ys.length) * by3 ≤ 140737488355328) (hm : xs.length + ys.length ≤ 4611686018427387904) :
    EStep S ⟨some d, .call ⟨.builtin .append, #[x, .tmp ty0], #[t, t2]⟩, ty, pos, aft, g⟩ σ ((killO (some ty0) (killO s? σ)).put d (.av (.sl true c (xs ++ ys)))) := by
  intro w0 L0 N a w hN ⟨L, hR⟩
  have hh := hR.hold ty0 (own_lt hR hy (by simp))
  rw [hy] at hh
  simp only [Hold] at hh
  obtain ⟨a2, cap2, us, hrow, hcy, h3⟩ := rep_row hh
  have hY : YSrc L w c d (xs.length * c) (some ty0) ys (a.eval (.tmp ty0)) ys.length us a2 cap2 := by
    refine ⟨hrow, ?_, rfl, hcy, fun o z hz => ?_⟩
    · rcases h3 with ⟨rfl, rfl, _⟩ | ⟨h, _⟩ | ⟨_, p, b, arr, e3, hp, _, _, _, _, _, _, h8⟩
      · simp
      · cases h
      · exact one_of hok hrow.len hcy h8
    · rcases h3 with ⟨rfl, rfl, _⟩ | ⟨h, _⟩ | ⟨_, p, b, arr, e3, hp, _, _, _, _, _, _, h8⟩
      · simp [flat] at hz
      · cases h
      · cases hp
        obtain ⟨u, hu, hr⟩ := h8 o z hz
        refine ⟨u, hu, fun L' w' hs ho ht hu' hsh hmv => hr.frame hs ho ht hu' hsh _ fun p hp => ?_⟩
        cases hp
        exact ⟨_, rfl, fun b q hb => hmv ty0 rfl b o q hb⟩
  obtain ⟨v, w', h1, h2⟩ := app_core hT hT2 hE hx (fun c' h => by subst h; simpa using hc) hsd (by simpa [isS] using htd) (fun t' h => by cases h; exact hst) hb hm hR (hN d rfl) hY (ty := ty) (pos := pos) (aft := aft) (g := g)
  exact ⟨v, w', .inl h1, h2⟩

/-- append(x, y...), y being shared. -/
theorem e_appS (hT : S.T t = some ⟨.slice e, sz, by_, zz⟩) (hT2 : S.T t2 = some ⟨.slice e2, sz2, by2, zz2⟩) (hE : S.T e = some ⟨kk, c, by3, zs⟩) (hx : srcAt σ x = some (s?, c?, xs)) (hy : ov σ y = .av (.sl false c ys)) (hc : c?.getD c = c) (hsd : isS s? d = false) (hok : CellsOk ys)
    (hb : (xs.length + ys.length) * by3 ≤ 140737488355328) (hm : xs.length + ys.length ≤ 4611686018427387904) :
    EStep S ⟨some d, .call ⟨.builtin .append, #[x, y], #[t, t2]⟩, ty, pos, aft, g⟩ σ ((killO none (killO s? σ)).put d (.av (.sl true c (xs ++ ys)))) := by
  intro w0 L0 N a w hN ⟨L, hR⟩
  obtain ⟨n, hh⟩ := ev_av hR hy
  obtain ⟨a2, cap2, us, hrow, hcy, h3⟩ := rep_row hh
  have hY : YSrc L w c d (xs.length * c) none ys (a.eval y) ys.length us a2 cap2 := by
    refine ⟨hrow, ?_, rfl, hcy, fun o z hz => ?_⟩
    · rcases h3 with ⟨rfl, rfl, _⟩ | ⟨_, b, off, _, _, _, h8⟩ | ⟨h, _⟩
      · simp
      · exact one_of (π := fun _ => none) hok hrow.len hcy h8
      · cases h
    · rcases h3 with ⟨rfl, rfl, _⟩ | ⟨_, b, off, _, _, _, h8⟩ | ⟨h, _⟩
      · simp [flat] at hz
      · obtain ⟨u, hu, hr⟩ := h8 o z hz
        exact ⟨u, hu, fun L' w' hs ho ht hu' hsh _ => (hr.frame hs ho ht hu' hsh none (fun p hp => by cases hp)).any _⟩
      · cases h
  obtain ⟨v, w', h1, h2⟩ := app_core hT hT2 hE hx (fun c' h => by subst h; simpa using hc) hsd rfl (fun t' h => by cases h) hb hm hR (hN d rfl) hY (ty := ty) (pos := pos) (aft := aft) (g := g)
  exact ⟨v, w', .inl h1, h2⟩

/-- append(x, y...), y being borrowed, of plain cells. -/
theorem e_appB {o : Bool} (hT : S.T t = some ⟨.slice e, sz, by_, zz⟩) (hT2 : S.T t2 = some ⟨.slice e2, sz2, by2, zz2⟩) (hE : S.T e = some ⟨kk, c, by3, zs⟩) (hx : srcAt σ x = some (s?, c?, xs)) (hy : rd σ (ov σ y) = .sl o c ys) (hc : c?.getD c = c) (hsd : isS s? d = false) (hok : FlatOk ys)
    (hb : (xs.length + ys.length) * by3 ≤ 140737488355328) (hm : xs.length + ys.length ≤ 4611686018427387904) :
    EStep S ⟨some d, .call ⟨.builtin .append, #[x, y], #[t, t2]⟩, ty, pos, aft, g⟩ σ ((killO none (killO s? σ)).put d (.av (.sl true c (xs ++ ys)))) := by
  intro w0 L0 N a w hN ⟨L, hR⟩
  obtain ⟨L1, π, _, _, hh⟩ := rd_ok hR hy (by simp)
  obtain ⟨a2, cap2, us, hrow, hcy, h3⟩ := rep_row hh
  have hcok : CellsOk ys := fun z hz => (hok z hz).2
  have hrep : ∀ (o : Nat) z, (flat ys)[o]? = some z → ∃ u, us[o]? = some u ∧ Rep L1 w none z u := fun o z hz => by
    have hz' := hok z (List.mem_of_getElem? hz)
    rcases h3 with ⟨rfl, rfl, _⟩ | ⟨_, b, off, _, _, _, h8⟩ | ⟨_, p, b, arr, e3, _, _, _, _, _, _, _, h8⟩
    · simp [flat] at hz
    · exact h8 o z hz
    · obtain ⟨u, hu, hr⟩ := h8 o z hz
      exact ⟨u, hu, hr.flatPlain hz'.1⟩
  have hY : YSrc L w c d (xs.length * c) none ys (a.eval y) ys.length us a2 cap2 := by
    refine ⟨hrow, one_of (π := fun _ => none) hcok hrow.len hcy hrep, rfl, hcy, fun o z hz => ?_⟩
    obtain ⟨u, hu, hr⟩ := hrep o z hz
    exact ⟨u, hu, fun L' w' _ _ _ _ _ _ => hr.flatPlain (hok z (List.mem_of_getElem? hz)).1⟩
  obtain ⟨v, w', h1, h2⟩ := app_core hT hT2 hE hx (fun c' h => by subst h; simpa using hc) hsd rfl (fun t' h => by cases h) hb hm hR (hN d rfl) hY (ty := ty) (pos := pos) (aft := aft) (g := g)
  exact ⟨v, w', .inl h1, h2⟩

/-- The same, told by what the lists are lists of. -/
theorem e_appOM {α : Type} {f : α → AV} {l : List α} {a : α} {ty0 : Nat} (hT : S.T t = some ⟨.slice e, sz, by_, zz⟩) (hT2 : S.T t2 = some ⟨.slice e2, sz2, by2, zz2⟩) (hE : S.T e = some ⟨kk, c, by3, zs⟩) (hx : srcAt σ x = some (s?, c?, l.map f)) (hy : get σ ty0 = .av (.sl true c [f a])) (hc : c?.getD c = c) (hsd : isS s? d = false) (htd : Nat.beq ty0 d = false) (hst : isS s? ty0 = false) (hok : (f a).cells.all AV.cellOk = true)
    (hb : (l.length + 1) * by3 ≤ 140737488355328) (hm : l.length + 1 ≤ 4611686018427387904) :
    EStep S ⟨some d, .call ⟨.builtin .append, #[x, .tmp ty0], #[t, t2]⟩, ty, pos, aft, g⟩ σ ((killO (some ty0) (killO s? σ)).put d (.av (.sl true c ((l ++ [a]).map f)))) := by
  rw [List.map_append]
  exact e_appO hT hT2 hE hx hy hc hsd htd hst (.lit (by simpa [flat] using hok)) (by simpa using hb) (by simpa using hm)
theorem e_appSM {α : Type} {f : α → AV} {l l2 : List α} (hT : S.T t = some ⟨.slice e, sz, by_, zz⟩) (hT2 : S.T t2 = some ⟨.slice e2, sz2, by2, zz2⟩) (hE : S.T e = some ⟨kk, c, by3, zs⟩) (hx : srcAt σ x = some (s?, c?, l.map f)) (hy : ov σ y = .av (.sl false c (l2.map f))) (hc : c?.getD c = c) (hsd : isS s? d = false) (hok : CellsOk (l2.map f))
    (hb : (l.length + l2.length) * by3 ≤ 140737488355328) (hm : l.length + l2.length ≤ 4611686018427387904) :
    EStep S ⟨some d, .call ⟨.builtin .append, #[x, y], #[t, t2]⟩, ty, pos, aft, g⟩ σ ((killO none (killO s? σ)).put d (.av (.sl true c ((l ++ l2).map f)))) := by
  rw [List.map_append]
  exact e_appS hT hT2 hE hx hy hc hsd hok (by simpa using hb) (by simpa using hm)
theorem e_appBM {α : Type} {f : α → AV} {l l2 : List α} {o : Bool} (hT : S.T t = some ⟨.slice e, sz, by_, zz⟩) (hT2 : S.T t2 = some ⟨.slice e2, sz2, by2, zz2⟩) (hE : S.T e = some ⟨kk, c, by3, zs⟩) (hx : srcAt σ x = some (s?, c?, l.map f)) (hy : rd σ (ov σ y) = .sl o c (l2.map f)) (hc : c?.getD c = c) (hsd : isS s? d = false) (hok : FlatOk (l2.map f))
    (hb : (l.length + l2.length) * by3 ≤ 140737488355328) (hm : l.length + l2.length ≤ 4611686018427387904) :
    EStep S ⟨some d, .call ⟨.builtin .append, #[x, y], #[t, t2]⟩, ty, pos, aft, g⟩ σ ((killO none (killO s? σ)).put d (.av (.sl true c ((l ++ l2).map f)))) := by
  rw [List.map_append]
  exact e_appB hT hT2 hE hx hy hc hsd hok (by simpa using hb) (by simpa using hm)
end
end
end FM

/- An abstract machine over the kit's rules, part 9: stores, variables in memory, ghost steps. -/
namespace FM
open Go Go.RowKit

section
variable {S : Sys} {N : Nat} {σ : St}

/-- One block that slot s owns is turned. -/
theorem RelL.write {w0 : World} {L0 : Nat → Lab} {a : Act} {w w' : World} {L : Nat → Lab} (hR : RelL S w0 L0 N σ a w L) {s b : Nat} {q0 : List Nat} {x' : AV} (hs : s < N) (hb : L b = .my (s :: q0)) (hsz : w'.heap.size = w.heap.size) (ho : w'.os = w.os) (ht : w'.tape = w.tape) (hu : w'.output = w.output) (hblk : ∀ k, k ≠ b → w'.heap[k]? = w.heap[k]?)
    (hx : Rep L w' (some [s]) x' (a.tmps.getD s undef)) (deep : Bool) (hdeep : deep = true → q0 ≠ []) : RelL S w0 L0 N (σ.upd deep s (.av x')) a w' L := by
  have hne : ∀ k p, L k = .my p → p ≠ s :: q0 → k ≠ b := fun k p hk hp e => by subst e; rw [hb] at hk; injection hk with hk; exact hp hk.symm
  have hnsh : ∀ k, L k = .sh → k ≠ b := fun k hk e => by subst e; rw [hb] at hk; cases hk
  refine ⟨hR.defers, hR.size, ⟨ho.trans hR.keep.os, ht.trans hR.keep.tape, hu.trans hR.keep.output, by rw [hsz]; exact hR.keep.size, fun k hk hn => ?_⟩, ⟨fun k p hk => by rw [hsz]; exact hR.lok.lt k p hk, hR.lok.inj, hR.lok.head, hR.lok.old, hR.lok.fo, hR.lok.new⟩, fun n hn => ?_, fun n hn => ?_, hR.fix, hR.glob⟩
  · refine (hblk k (fun e => ?_)).trans (hR.keep.block k hk hn)
    subst e
    obtain ⟨q, hq⟩ := hR.lok.old k _ hk hb; exact hn q hq
  · simp only [get]
    by_cases hsn : s = n
    · subst hsn; rw [Nat.beq_refl, cond_true]; exact hx
    · rw [not_beq hsn, cond_false]
      have hh := hR.hold n hn
      have key : ∀ tv : TV, tv.dep s = false → Hold L w a.tmps n tv (a.tmps.getD n undef) → Hold L w' a.tmps n tv (a.tmps.getD n undef) := fun tv hd hh =>
        Hold.relab (good := fun m => m ≠ s) (by omega) ho ht hu (fun k h1 _ => ⟨h1, hblk k (hnsh k h1)⟩) (fun k m q h1 h2 => ⟨h1, hblk k (hne k _ h1 (fun e => by injection e with e _; exact h2 e))⟩)
          (fun _ _ => rfl) (fun e => hsn e.symm) (fun m hm e => by subst e; rw [hd] at hm; cases hm) hh
      generalize get σ n = tv at hh
      cases tv with
      | none => trivial
      | av x => exact key _ rfl hh
      | ref s' => exact hh
      | rref s' r y =>
        simp only [TV.stale]
        cases hb' : Nat.beq s' s with
        | false => exact key _ hb' hh
        | true =>
          have := Nat.eq_of_beq_eq_true hb'; subst this
          cases deep with
          | false => trivial
          | true =>
            obtain ⟨k, h1, h2, _⟩ := hh
            exact ⟨k, h1, by rw [cell_of_heap (hblk k (hne k _ h1 (fun e => hdeep rfl (by injection e with _ e; exact e.symm))))]; exact h2, fun h => absurd rfl h⟩
      | ptr s' r c y =>
        simp only [TV.stale]
        cases hb' : Nat.beq s' s with
        | false => exact key _ hb' hh
        | true => obtain ⟨k, h1, h2, _⟩ := hh; exact ⟨k, h1, h2, fun h => absurd rfl h⟩
      | fpt s' o y =>
        simp only [TV.stale]
        cases hb' : Nat.beq s' s with
        | false => exact key _ hb' hh
        | true => obtain ⟨k, h1, h2, _⟩ := hh; exact ⟨k, h1, h2, fun h => absurd rfl h⟩
      | rptr s' r j y =>
        simp only [TV.stale]
        cases hb' : Nat.beq s' s with
        | false => exact key _ hb' hh
        | true =>
          cases deep with
          | false => trivial
          | true => obtain ⟨k, h1, h2, _⟩ := hh; exact ⟨k, h1, h2, fun h => absurd rfl h⟩
      | dptr x => exact key _ rfl hh
      | bdp s' x =>
        simp only [TV.stale]
        cases hb' : Nat.beq s' s with
        | false => exact key _ hb' hh
        | true => trivial
      | bor s' x =>
        simp only [TV.stale]
        cases hb' : Nat.beq s' s with
        | false => exact key _ hb' hh
        | true => trivial
      | clo f caps => exact hh
  · simp only [get]
    rw [not_beq (show s ≠ n by omega), cond_false, hR.out n hn]; rfl

/-- What a store writes. -/
theorem run_store_at {t : Nat} {ti : TI} (hT : S.T t = some ti) {b off e : Nat} {cur : Array Value} {w : World} {v : Value} (hb : w.heap[b]? = some (.cells cur e (0, 0))) (hsz : v.cells.size = ti.size) (h1 : ∀ u ∈ v.cells.toList, u.oneCell' = true) (hfit : off + v.cells.size ≤ cur.size) :
    (Instr.storeAt t (.pointer (some ⟨b, off, none⟩)) v).run S.P w = .ok () (w.setRow b (cur.toList.take off ++ v.cells.toList ++ cur.toList.drop (off + v.cells.size)).toArray) := by
  obtain ⟨f, hf1, hf2⟩ := (S.ok t ti hT).size
  have hst := run_storeCells_at S.P b off e v.cells.toList 0 cur w hb (by simpa using hfit) h1
  simp only [Nat.add_zero, Array.length_toList] at hst
  have hne : v.cells.size = f.size := by rw [hsz, hf2]
  simp [Instr.storeAt, Instr.sureAddr, storeVar, Go.sizeOf, typeInfo, hf1, hne, hst]

theorem getElem?_splice (cur vs : List Value) (off j : Nat) (h : off + vs.length ≤ cur.length) : (cur.take off ++ vs ++ cur.drop (off + vs.length))[j]? = if off ≤ j ∧ j < off + vs.length then vs[j - off]? else cur[j]? := by
  by_cases h1 : j < off
  · rw [List.append_assoc, List.getElem?_append_left (by simp; omega), List.getElem?_take, if_pos h1, if_neg (by omega)]
  · by_cases h2 : j < off + vs.length
    · rw [List.getElem?_append_left (by simp; omega), List.getElem?_append_right (by simp; omega), if_pos (by omega)]
      congr 1; simp; omega
    · rw [List.getElem?_append_right (by simp; omega), if_neg (by omega), List.getElem?_drop]
      congr 1; simp; omega

theorem flat_set {c : Nat} : ∀ {xs : List AV} {i : Nat} {z : AV}, (∀ x ∈ xs, x.cells.length = c) → z.cells.length = c → ∀ (o : Nat) y, (flat (xs.set i z))[o]? = some y → (i * c ≤ o ∧ o < i * c + c ∧ i < xs.length ∧ z.cells[o - i * c]? = some y) ∨ (¬ (i * c ≤ o ∧ o < i * c + c) ∧ (flat xs)[o]? = some y) := by
  intro xs i z hc hz o y hy
  by_cases hi : i < xs.length
  · have hc' : ∀ x ∈ xs.set i z, x.cells.length = c := fun x hx => by
      rcases List.mem_or_eq_of_mem_set hx with h | h
      · exact hc x h
      · rw [h]; exact hz
    obtain ⟨i', j, x, h1, h2, h3, h4⟩ := flat_split hc' hy
    rw [List.getElem?_set] at h1
    by_cases hii : i = i'
    · subst hii
      rw [if_pos rfl, if_pos hi] at h1
      injection h1 with h1
      subst h1
      left
      refine ⟨by omega, by omega, hi, ?_⟩
      rw [h3, show i * c + j - i * c = j by omega]; exact h2
    · rw [if_neg hii] at h1
      right
      have hf := flat_get hc h1 h2
      rw [← h3] at hf
      refine ⟨fun h => ?_, hf⟩
      rcases Nat.lt_or_gt_of_ne hii with h' | h'
      · have : (i + 1) * c ≤ i' * c := Nat.mul_le_mul_right _ (by omega)
        rw [Nat.add_mul] at this; omega
      · have : (i' + 1) * c ≤ i * c := Nat.mul_le_mul_right _ (by omega)
        rw [Nat.add_mul] at this; omega
  · rw [List.set_eq_of_length_le (by omega)] at hy
    refine .inr ⟨fun h => ?_, hy⟩
    have := (List.getElem?_eq_some_iff.1 hy).1
    rw [flat_length hc] at this
    have : xs.length * c ≤ i * c := Nat.mul_le_mul_right _ (by omega)
    omega

/-- A value to be stored: not owned. -/
theorem val_cells {w0 : World} {L0 : Nat → Lab} {a : Act} {w : World} {L : Nat → Lab} (hR : RelL S w0 L0 N σ a w L) {v : Operand} {z : AV} (hv : ov σ v = .av z) (hz : z.isOwn = false) (hok : z.varOk = true) :
    (a.eval v).cells.size = z.cells.length ∧ (∀ u ∈ (a.eval v).cells.toList, u.oneCell' = true) ∧ ∀ (j : Nat) y, z.cells[j]? = some y → ∃ u, (a.eval v).cells[j]? = some u ∧ Rep L w none y u := by
  obtain ⟨n, hn⟩ := ev_av hR hv
  exact rep_cells (hn.replace hz) hok

/-- s[i] = v: a slice that slot s owns. -/
theorem e_st {t : Nat} {ti : TI} {x v : Operand} {s i c : Nat} {y0 z : AV} {xs : List AV} {ty : Nat} {pos : String} {aft : Array Edge} {g : Option (Nat × Bool)} (hx : ov σ x = .ptr s i c y0) (hs : get σ s = .av (.sl true c xs)) (hT : S.T t = some ti) (hv : ov σ v = .av z) (hz : z.isOwn = false) (hok : z.varOk = true) (hc : Nat.beq z.cells.length ti.size = true) (hc2 : Nat.beq ti.size c = true) (hi : i < xs.length) :
    EStep S ⟨none, .store t x v, ty, pos, aft, g⟩ σ (σ.upd false s (.av (.sl true c (xs.set i z)))) := by
  intro w0 L0 N a w _ ⟨L, hR⟩
  have hc1 := Nat.eq_of_beq_eq_true hc
  have hc3 := Nat.eq_of_beq_eq_true hc2
  obtain ⟨_, ⟨b, hL, hp, _⟩, _⟩ := hold_plain hR hx (by simp)
  have hsN := own_lt hR hs (by simp)
  have hh := hR.hold s hsN
  rw [hs] at hh
  simp only [Hold] at hh
  obtain ⟨v1, v2, v3⟩ := val_cells hR hv hz hok
  generalize hsv : a.tmps.getD s undef = sv at hh
  cases hh with
  | slE h => simp at hi
  | @slO p c xs b' cap arr e u hL' hb hcap hsz hcx hcell hr =>
    have := hR.lok.inj _ _ _ hL hL'
    subst this
    have hmul : (i + 1) * c ≤ cap * c := Nat.mul_le_mul_right _ (by omega)
    rw [Nat.add_mul, Nat.one_mul] at hmul
    have hvs : (a.eval v).cells.size = c := by omega
    obtain ⟨A, hrun, hAsz, harr⟩ : ∃ A : Array Value, (Instr.storeAt t (.pointer (some ⟨b, i * c, none⟩)) (a.eval v)).run S.P w = .ok () (w.setRow b A) ∧ A.size = arr.size ∧ ∀ j, A[j]? = if i * c ≤ j ∧ j < i * c + (a.eval v).cells.size then (a.eval v).cells[j - i * c]? else arr[j]? :=
      ⟨_, run_store_at (S := S) hT (off := i * c) (v := a.eval v) hb (by omega) v2 (by omega), by simp; omega, fun j => by
        have := getElem?_splice arr.toList (a.eval v).cells.toList (i * c) j (by simp; omega)
        simpa using this⟩
    have hother : ∀ k, k ≠ b → (w.setRow b A).heap[k]? = w.heap[k]? := fun k hk => setRow_other w b k A hk
    have hnew := setRow_heap w b arr A e (0, 0) hb
    have hsz' : (w.setRow b A).heap.size = w.heap.size := by simp
    have ho : (w.setRow b A).os = w.os := rfl
    have ht : (w.setRow b A).tape = w.tape := rfl
    have hu : (w.setRow b A).output = w.output := rfl
    generalize w.setRow b A = W at hrun hother hnew hsz' ho ht hu
    refine ⟨undef, W, .inr ⟨by simp only [execOp, hp, Sem.run_bind, hrun]; rfl, rfl⟩, L, hR.write (b := b) (q0 := []) hsN hL hsz' ho ht hu hother ?_ false (fun h => by cases h)⟩
    rw [hsv]
    have hlen : (xs.set i z).length = xs.length := by simp
    have hslots : ∀ π (y : AV) (u : Value), Rep L w π y u → (∀ p, π = some p → ∃ o q, p = s :: o :: q) → Rep L W π y u := fun π y u h hπ =>
      h.frame (by omega) ho ht hu (fun k hk _ => ⟨hk, hother k (fun e => by subst e; rw [hL] at hk; cases hk)⟩) π fun p hp' => ⟨p, hp', fun k q hk => ⟨hk, hother k (fun e => by
        subst e
        obtain ⟨o, q', rfl⟩ := hπ p hp'
        rw [hL] at hk; injection hk with hk; simp at hk)⟩⟩
    rw [← hlen]
    refine .slO (fun o => (A[o]?).getD undef) hL hnew (by rw [hlen]; exact hcap) (by rw [hAsz]; exact hsz) (fun y hy => ?_) (fun o ho => ?_) (fun o y hy => ?_)
    · rcases List.mem_or_eq_of_mem_set hy with h | h
      · exact hcx y h
      · rw [h]; omega
    · have hlt : o < A.size := by
        rw [hAsz, hsz]
        rw [hlen] at ho
        exact Nat.lt_of_lt_of_le ho (Nat.mul_le_mul_right _ hcap)
      simp [hlt]
    · rw [harr]
      rcases flat_set hcx (by omega) o y hy with ⟨h1, h2, h3, h4⟩ | ⟨h1, h2⟩
      · rw [if_pos (by omega)]
        obtain ⟨u', hu', hr'⟩ := v3 _ y h4
        rw [hu']
        exact (hslots none y u' hr' (fun p hp => by cases hp)).any _
      · rw [if_neg (by rw [hvs]; exact h1)]
        have ho : o < xs.length * c := by rw [← flat_length hcx]; exact (List.getElem?_eq_some_iff.1 h2).1
        rw [hcell o ho]
        exact hslots _ y _ (hr o y h2) (fun p hp => by cases hp; exact ⟨o, [], rfl⟩)
theorem e_stI {t : Nat} {ti : TI} {x v : Operand} {s i : Nat} {y0 : AV} {l : List Int} {n : Int} {ty : Nat} {pos : String} {aft : Array Edge} {g : Option (Nat × Bool)} (hx : ov σ x = .ptr s i 1 y0) (hs : get σ s = .av (.sl true 1 (l.map .int))) (hT : S.T t = some ti) (hv : ov σ v = .av (.int n)) (hc : Nat.beq 1 ti.size = true) (hc2 : Nat.beq ti.size 1 = true) (hi : i < l.length) :
    EStep S ⟨none, .store t x v, ty, pos, aft, g⟩ σ (σ.upd false s (.av (.sl true 1 ((l.set i n).map .int)))) := by
  rw [List.map_set]
  exact e_st hx hs hT hv rfl rfl hc hc2 (by simpa using hi)
theorem e_stM {α : Type} {f : α → AV} {t : Nat} {ti : TI} {x v : Operand} {s i c : Nat} {y0 : AV} {l : List α} {n : α} {ty : Nat} {pos : String} {aft : Array Edge} {g : Option (Nat × Bool)} (hx : ov σ x = .ptr s i c y0) (hs : get σ s = .av (.sl true c (l.map f))) (hT : S.T t = some ti) (hv : ov σ v = .av (f n)) (hz : (f n).isOwn = false) (hok : (f n).varOk = true) (hc : Nat.beq (f n).cells.length ti.size = true) (hc2 : Nat.beq ti.size c = true) (hi : i < l.length) :
    EStep S ⟨none, .store t x v, ty, pos, aft, g⟩ σ (σ.upd false s (.av (.sl true c ((l.set i n).map f)))) := by
  rw [List.map_set]
  exact e_st hx hs hT hv hz hok hc hc2 (by simpa using hi)

/-! ### ghost steps -/
/-- An empty slice that is nil is as good as an owned one. -/
theorem CW.own {c : Code} {Q : Exit → St → Prop} (s cc : Nat) (hs : get σ s = .av .nil) (h : CW S N c Q (σ.put s (.av (.sl true cc [])))) : CW S N c Q σ := by
  unfold CW at *
  intro w0 L0 Q' a w hQ ⟨L, hR⟩
  refine h w0 L0 Q' a w hQ ⟨L, hR.defers, hR.size, hR.keep, hR.lok, fun n hn => ?_, fun n hn => ?_, hR.fix, hR.glob⟩
  · simp only [get, kill_eq]
    by_cases hsn : s = n
    · subst hsn
      rw [Nat.beq_refl, cond_true]
      have hh := hR.hold s hn
      rw [hs] at hh
      simp only [Hold] at hh ⊢
      generalize a.tmps.getD s undef = v at hh
      cases hh
      exact .slE (fun _ => rfl)
    · rw [not_beq hsn, cond_false]
      cases hd : (get σ n).dep s with
      | true => trivial
      | false => exact hR.hold n hn
  · simp only [get, kill_eq]
    have := own_lt hR hs (by simp)
    rw [not_beq (show s ≠ n by omega), cond_false, hR.out n hn]; rfl

/-- What slot s owns is owned no more: it may be shared from now on. -/
theorem RelL.freeze {w0 : World} {L0 : Nat → Lab} {a : Act} {w : World} {L : Nat → Lab} (hR : RelL S w0 L0 N σ a w L) {s : Nat} {x z : AV} (hs : get σ s = .av x) (hz : x.sh = z) (ho : z.isOwn = false) : RelL S w0 L0 N (σ.put s (.av z)) a w (clear s L) := by
  have hsN := own_lt hR hs (by simp)
  subst hz
  refine ⟨hR.defers, hR.size, hR.keep, hR.lok.clear s, fun n hn => ?_, fun n hn => ?_, hR.fix, hR.glob⟩
  · simp only [get, kill_eq]
    by_cases hsn : s = n
    · subst hsn
      rw [Nat.beq_refl, cond_true]
      have hh := hR.hold s hn
      rw [hs] at hh
      simp only [Hold] at hh ⊢
      exact (Rep.toSh (fun b _ hb => clear_sh hb) hh (fun p hp b q hb => by cases hp; unfold clear; rw [hb]; simp [Lab.without, Nat.beq_refl])).any _
    · rw [not_beq hsn, cond_false]
      cases hd : (get σ n).dep s with
      | true => trivial
      | false =>
        rw [cond_false]
        exact Hold.relab (good := fun m => m ≠ s) (Nat.le_refl _) rfl rfl rfl (fun b h1 _ => ⟨clear_sh h1, rfl⟩) (fun b m q h1 h2 => ⟨clear_keep h1 h2, rfl⟩) (fun _ _ => rfl) (fun e => hsn e.symm) (fun m hm e => by subst e; rw [hd] at hm; cases hm) (hR.hold n hn)
  · simp only [get, kill_eq]
    rw [not_beq (show s ≠ n by omega), cond_false, hR.out n hn]; rfl
theorem CW.freeze {c : Code} {Q : Exit → St → Prop} (s : Nat) {x z : AV} (hs : get σ s = .av x) (hz : x.sh = z) (ho : z.isOwn = false) (h : CW S N c Q (σ.put s (.av z))) : CW S N c Q σ := by
  unfold CW at *
  exact fun w0 L0 Q' a w hQ ⟨L, hR⟩ => h w0 L0 Q' a w hQ ⟨_, hR.freeze hs hz ho⟩
theorem J.freeze {q : Bool} {ops : Array Oper} {l : List Oper} {K : St → Prop} (s : Nat) {x z : AV} (hs : get σ s = .av x) (hz : x.sh = z) (ho : z.isOwn = false) (h : J q S N ops l K (σ.put s (.av z))) : J q S N ops l K σ := by
  unfold J at *
  cases q with
  | true => exact fun hd w0 L0 Q a w hQ ⟨L, hR⟩ => h hd w0 L0 Q a w hQ ⟨_, hR.freeze hs hz ho⟩
  | false => exact fun hd w0 L0 Q a w hQ ⟨L, hR⟩ => h hd w0 L0 Q a w hQ ⟨_, hR.freeze hs hz ho⟩
theorem sh_int {o : Bool} {c : Nat} {l : List Int} : (AV.sl o c (l.map .int)).sh = .sl false c (l.map .int) := by simp only [AV.sh]; rw [shL_map AV.int l AV.int (fun _ => rfl)]
theorem sh_map {α : Type} {o : Bool} {c : Nat} {f g : α → AV} {l : List α} (h : ∀ x, (f x).sh = g x) : (AV.sl o c (l.map f)).sh = .sl false c (l.map g) := by simp only [AV.sh]; rw [shL_map f l g h]
theorem sh_rows {o o2 : Bool} {m : List (List Int)} : (AV.sl o 1 (m.map fun r => .sl o2 1 (r.map .int))).sh = .sl false 1 (m.map fun r => .sl false 1 (r.map .int)) := sh_map fun _ => sh_int

/-! ### a call in a region that draws its order: its result is a plain value -/
theorem J.callQ {f : Nat} {xs9 : List AV} {r : AV} {xs : List Operand} {b : Bool} {ops : Array Oper} {l : List Oper} {K : St → Prop} {d ty : Nat} {ts : Array Nat} {pos : String} {aft : Array Edge} {g : Option (Nat × Bool)} (hs : FnSpec S.P f xs9 xs9 r) (hg : live ops g σ = some true) (ha : ArgsOk S N σ xs b xs9) (hr : r.flatPlain = true) (h : J true S N ops l K (σ.put d (.av r))) :
    J true S N ops (⟨some d, .call ⟨.value (.func f), xs.toArray, ts⟩, ty, pos, aft, g⟩ :: l) K σ := by
  unfold J at *
  intro hdo w0 L0 Q a w hQ hR
  obtain ⟨h1, h2⟩ := dstOk_cons hdo
  have hd := h1 d rfl
  have hw := live_wanted (o := ⟨some d, .call ⟨.value (.func f), xs.toArray, ts⟩, ty, pos, aft, g⟩) hg hR
  simp only [wpQuiet, hw, if_true]
  refine ⟨r.toV, fun w' hw' => ?_, ?_⟩
  · unfold Oper.quietAt
    rw [run_call hs.ok rfl rfl w']
    refine ⟨rfl, ?_⟩
    obtain ⟨L, hR'⟩ := hR.ext hw'
    refine (hs.calls w' (fun _ => .sh) (xs.map a.eval) (by rw [List.length_map, ha.length]) (pre_none (fun _ _ h => by cases h) (fun _ _ h => by cases h) hR'.globNow.all) (fun i x v hx hv => ?_)).mono fun e w'' ⟨v, L', he, hB⟩ => ?_
    · simp only [List.getElem?_map, Option.map_eq_some_iff] at hv
      obtain ⟨y, hy, rfl⟩ := hv
      obtain ⟨c, hc, _⟩ := ha.get i y x hy hx
      exact (hc.readN hR').any _
    · subst he
      have hv : v = r.toV := by
        have := hB.res
        cases this <;> first | rfl | (simp [AV.flatPlain] at hr)
      subst hv
      exact ⟨rfl, hw'.trans ⟨hB.keep.os, hB.keep.tape, hB.keep.output, hB.keep.size, fun b hb => hB.keep.block b hb (fun p h => by cases h)⟩⟩
  · refine h h2 w0 L0 Q _ w hQ ?_
    obtain ⟨L, hR⟩ := hR
    refine Rel.putPlain (n := d) hR hd ?_ rfl (toV_rep hr)
    cases r <;> first | rfl | (simp [AV.flatPlain] at hr)
end
end FM
