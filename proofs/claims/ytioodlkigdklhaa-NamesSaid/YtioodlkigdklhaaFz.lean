/- small laws for the walk's words -/
import Derived.Test.YtioodlkigdklhaaFi
namespace FM
open Go
theorem InR.mk {n : Int} (h : -9223372036854775808 ≤ n ∧ n ≤ 9223372036854775807) : InR n := h
theorem get_map {α : Type} {f : α → AV} {l : List α} {i : Nat} {a : α} (h : l[i]? = some a) : (l.map f)[i]? = some (f a) := by rw [List.getElem?_map, h]; rfl
section
variable {K : St → Prop} {Q : Exit → St → Prop} {σ : St}
theorem thenQ_n (h : K σ) : thenQ K Q .normal σ := h
theorem thenQ_x {i : Nat} (h : Q (.exit i) σ) : thenQ K Q (.exit i) σ := h
theorem thenQ_r (h : Q .ret σ) : thenQ K Q .ret σ := h
theorem blockQ_n {id : Nat} (h : Q .normal σ) : blockQ id Q .normal σ := h
theorem blockQ_r {id : Nat} (h : Q .ret σ) : blockQ id Q .ret σ := h
theorem blockQ_e {id i : Nat} (hi : Nat.beq i id = true) (h : Q .normal σ) : blockQ id Q (.exit i) σ := by simp only [blockQ, hi]; exact h
theorem blockQ_x {id i : Nat} (hi : Nat.beq i id = false) (h : Q (.exit i) σ) : blockQ id Q (.exit i) σ := by simp only [blockQ, hi]; exact h
end
def gslot (ops : Array Oper) : Option (Nat × Bool) → Option Nat
  | none => none
  | some (j, _) => (ops[j]?).bind (·.dst)
section
variable {S : Sys} {N : Nat} {σ : St} {q : Bool} {ops : Array Oper} {l : List Oper} {K : St → Prop} {o : Oper} {t : Nat}
theorem J.splitG {p : Prop} {inst : Decidable p} (_hg : gslot ops o.guard = some t) (ht : get σ t = .av (.bool (decide p))) (h1 : p → J q S N ops (o :: l) K (σ.upd true t (.av (.bool true)))) (h2 : ¬ p → J q S N ops (o :: l) K (σ.upd true t (.av (.bool false)))) : J q S N ops (o :: l) K σ :=
  .splitD ht (fun h σ' e => by subst e; exact h1 h) (fun h σ' e => by subst e; exact h2 h)
theorem J.splitB {b : Bool} (_hg : gslot ops o.guard = some t) (ht : get σ t = .av (.bool b)) (h1 : b = true → J q S N ops (o :: l) K (σ.upd true t (.av (.bool true)))) (h2 : b = false → J q S N ops (o :: l) K (σ.upd true t (.av (.bool false)))) : J q S N ops (o :: l) K σ :=
  .split ht (fun h σ' e => by subst e; exact h1 h) (fun h σ' e => by subst e; exact h2 h)
end
theorem ints_congr {o : Bool} {c : Nat} {l l' : List Int} (h : l = l') : TV.av (.sl o c (l.map .int)) = .av (.sl o c (l'.map .int)) := by rw [h]
theorem map_congr' {α : Type} {f : α → AV} {o : Bool} {c : Nat} {l l' : List α} (h : l = l') : TV.av (.sl o c (l.map f)) = .av (.sl o c (l'.map f)) := by rw [h]
theorem int_congr {n n' : Int} (h : n = n') : TV.av (.int n) = .av (.int n') := by rw [h]
theorem bool_congr {n n' : Bool} (h : n = n') : TV.av (.bool n) = .av (.bool n') := by rw [h]
theorem noSh_ints {c : Nat} {l : List Int} : NoSh (.sl true c (l.map .int)) := .sl fun x hx => by obtain ⟨n, _, rfl⟩ := List.mem_map.1 hx; exact .int
theorem noSh_rows {c : Nat} {l : List (List Int)} : NoSh (.sl true 1 (l.map fun r => .sl true c (r.map .int))) := .sl fun x hx => by obtain ⟨n, _, rfl⟩ := List.mem_map.1 hx; exact noSh_ints
/-- Arguments that come back as they were. -/
theorem same_args {S : Sys} {σ : St} : ∀ {as : List AV}, (as.all fun x => !x.isOwn) = true → ∀ (i : Nat) (x y : AV), as[i]? = some x → as[i]? = some y → (x.isOwn = false ∧ y = x) ∨ (i < S.M ∧ get σ i = .av y) := fun {as} h i x y hx hy => by
  rw [hx] at hy; injection hy with hy; subst hy
  exact .inl ⟨by simpa using List.all_eq_true.1 h x (List.mem_of_getElem? hx), rfl⟩
/-- The end of a function whose arguments are shared. -/
theorem Ret.mk {S : Sys} {rvs : List ResultVar} {as : List AV} {rs : List AV} {r : AV} {σ : St} (hr : resL S σ rvs = some rs) (hp : r = pack rs) (hs : (as.all fun x => !x.isOwn) = true) : Ret S rvs as as r .ret σ :=
  ⟨rfl, ⟨rs, hr, hp⟩, rfl, same_args hs⟩
/-- []T{..}, its parts in their order. -/
theorem e_lit {S : Sys} {σ : St} {t e c : Nat} {sz by_ : Nat} {zz : List AV} {ti : TI} {ys : List AV} {n d ty : Nat} {ps : Array (Nat × Operand)} {pos : String} {aft : Array Edge} {g : Option (Nat × Bool)} (hT : S.T t = some ⟨.slice e, sz, by_, zz⟩) (hE : S.T e = some ti) (hc : ti.size = c)
    (hps : ps = ((ps.toList.map (·.2)).zipIdx.map fun p => (p.2, p.1)).toArray) (hn : (ps.toList.map (·.2)).length = n) (hp : PartsOk σ (ps.toList.map (·.2)) ys) (hok : ys.all (fun y => y.varOk && Nat.beq y.cells.length c) = true) (hb : Nat.ble (n * c) 16777216 = true) :
    EStep S ⟨some d, .buildSlice t n ps, ty, pos, aft, g⟩ σ (σ.put d (.av (.sl true c ys))) := e_bls hT hE hc hps hn hp hok hb
section
variable {S : Sys} {N : Nat} {σ : St} {P : Program} {f : Nat} {as : List AV} {r : AV} {xs : List Operand} {b : Bool} {ops : Array Oper} {l : List Oper} {K : St → Prop} {d ty : Nat} {ts : Array Nat} {pos : String} {aft : Array Edge} {g : Option (Nat × Bool)}
theorem J.callP (hs : FnSpec P f as as r) (hP : P = S.P) (hg : live ops g σ = some true) (ha : ArgsOk S N σ xs b as) (hb : b = true → NoSh r) (h : J false S N ops l K (σ.put d (.av r))) :
    J false S N ops (⟨some d, .call ⟨.value (.func f), xs.toArray, ts⟩, ty, pos, aft, g⟩ :: l) K σ := by subst hP; exact J.call hs hg ha hb h
theorem J.callPQ (hs : FnSpec P f as as r) (hP : P = S.P) (hg : live ops g σ = some true) (ha : ArgsOk S N σ xs b as) (hr : r.flatPlain = true) (h : J true S N ops l K (σ.put d (.av r))) :
    J true S N ops (⟨some d, .call ⟨.value (.func f), xs.toArray, ts⟩, ty, pos, aft, g⟩ :: l) K σ := by subst hP; exact J.callQ hs hg ha hr h
end
end FM
