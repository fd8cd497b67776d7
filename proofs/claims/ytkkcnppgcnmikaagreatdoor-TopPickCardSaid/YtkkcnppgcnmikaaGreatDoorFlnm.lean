/- From a function's contract to the given statement, part 1: what an argument reads as. No program in sight. -/
import Derived.Test.YtkkcnppgcnmikaaGreatDoorFenm
import Derived.ProofKit
import Derived.OpenShut
import Derived.ShutString
import Derived.ChangeOld
import Derived.Below
import Derived.Carry
import Derived.ChangeMaps5
import Derived.Deep.Slices
namespace FM
open Go Go.RowKit Go.ChangeShapes Go.WideShapes Go.Deep
inductive DT where
  | int | byte | bool | str | sl (e : DT) | un | pr (a b : DT) | ar2
def DT.size : DT → Nat
  | .un => 0
  | .pr a b => a.size + b.size
  | .ar2 => 2
  | _ => 1
@[reducible] def Ty : DT → Type
  | .int => Int
  | .byte => Int
  | .bool => Bool
  | .str => List UInt8
  | .sl e => List (Ty e)
  | .un => Unit
  | .pr a b => Ty a × Ty b
  | .ar2 => Int × Int × Unit
def pk : DT → List AV → AV
  | .un, ys => .agg ys
  | .pr _ _, ys => .agg ys
  | .ar2, ys => .agg ys
  | _, [y] => y
  | _, _ => .dead
def cellsD : (d : DT) → Ty d → List AV
  | .int, n => [.int n]
  | .byte, n => [.val (.int .u8 n)]
  | .bool, b => [.bool b]
  | .str, s => [.str s]
  | .sl e, xs => [.sl false e.size (xs.map fun x => pk e (cellsD e x))]
  | .un, _ => []
  | .pr a b, x => cellsD a x.1 ++ cellsD b x.2
  | .ar2, x => [.int x.1, .int x.2.1]
def one (d : DT) (x : Ty d) : AV := pk d (cellsD d x)
def Good : (d : DT) → Ty d → Prop
  | .int, n => InR n
  | .byte, n => 0 ≤ n ∧ n ≤ 255
  | .bool, _ => True
  | .str, s => s.length ≤ 9223372036854775807
  | .sl e, xs => xs.length ≤ 9223372036854775807 ∧ ∀ x ∈ xs, Good e x
  | .un, _ => True
  | .pr a b, x => Good a x.1 ∧ Good b x.2
  | .ar2, x => InR x.1 ∧ InR x.2.1
/-- The lengths are within the form's own reach. -/
def Lens (P : Program) : (d : DT) → TypeId → Ty d → Prop
  | .sl e, t, xs => ∀ te, P.underlying t = some (.slice te) → xs.length * P.bytesOf te ≤ reachBytes ∧ ∀ x ∈ xs, Lens P e te x
  | .str, _, s => s.length ≤ reachBytes
  | _, _, _ => True
theorem cellsD_length : ∀ (d : DT) (x : Ty d), (cellsD d x).length = d.size
  | .int, _ => rfl
  | .byte, _ => rfl
  | .bool, _ => rfl
  | .str, _ => rfl
  | .sl _, _ => rfl
  | .un, _ => rfl
  | .ar2, _ => rfl
  | .pr a b, x => by simp only [cellsD, List.length_append, cellsD_length a, cellsD_length b, DT.size]
theorem one_cells (d : DT) (x : Ty d) : (one d x).cells = cellsD d x := by
  cases d <;> rfl
/-- A type of the program that is so described. -/
def IsX (P : Program) : DT → (TypeId → Prop) × (Nat → List Field → Prop)
  | .int => (fun t => P.underlying t = some (.int .i64), fun _ _ => False)
  | .byte => (fun t => P.underlying t = some (.int .u8), fun _ _ => False)
  | .bool => (fun t => P.underlying t = some .bool, fun _ _ => False)
  | .str => (fun t => P.underlying t = some .string, fun _ _ => False)
  | .sl e => (fun t => ∃ te, P.underlying t = some (.slice te) ∧ P.cellsOf te = e.size ∧ 0 < e.size ∧ (IsX P e).1 te, fun _ _ => False)
  | .un => (fun _ => False, fun _ fs => fs = [])
  | .ar2 => (fun t => ∃ te, P.underlying t = some (.array 2 te) ∧ P.underlying te = some (.int .i64) ∧ P.cellsOf te = 1 ∧ P.cellsOf t = 2, fun _ _ => False)
  | .pr a b =>
    let F := fun (off : Nat) (fs : List Field) => match fs with
      | f :: r => f.offset = off ∧ P.cellsOf f.type = a.size ∧ (IsX P a).1 f.type ∧ (IsX P b).2 (off + a.size) r
      | [] => False
    (fun t => ∃ fs, P.underlying t = some (.struct fs) ∧ P.cellsOf t = a.size + b.size ∧ F 0 fs.toList, F)
def RC (L : Nat → Lab) (w : World) (ys : List AV) (vs : List Value) : Prop := ys.length = vs.length ∧ ∀ (j : Nat) y v, ys[j]? = some y → vs[j]? = some v → Rep L w none y v
theorem RC.one {L : Nat → Lab} {w : World} {y : AV} {v : Value} (h : Rep L w none y v) : RC L w [y] [v] := ⟨rfl, fun j y' v' hy hv => by
  match j with
  | 0 => simp only [List.getElem?_cons_zero, Option.some.injEq] at hy hv; subst hy; subst hv; exact h
  | j + 1 => simp at hy⟩
theorem RC.append {L : Nat → Lab} {w : World} {ys ys' : List AV} {vs vs' : List Value} (h : RC L w ys vs) (h' : RC L w ys' vs') : RC L w (ys ++ ys') (vs ++ vs') := by
  refine ⟨by rw [List.length_append, List.length_append, h.1, h'.1], fun j y v hy hv => ?_⟩
  by_cases hj : j < ys.length
  · rw [List.getElem?_append_left hj] at hy
    rw [List.getElem?_append_left (by rw [← h.1]; exact hj)] at hv
    exact h.2 j y v hy hv
  · rw [List.getElem?_append_right (by omega)] at hy
    rw [List.getElem?_append_right (by rw [← h.1]; omega), ← h.1] at hv
    exact h'.2 _ y v hy hv
theorem list_of_lt {α : Type} {n : Nat} {p : Nat → α → Prop} (h : ∀ i, i < n → ∃ x, p i x) : ∃ l : List α, l.length = n ∧ ∀ (i : Nat) x, l[i]? = some x → p i x := by
  induction n with
  | zero => exact ⟨[], rfl, fun i x hx => by simp at hx⟩
  | succ n ih =>
    obtain ⟨l, h1, h2⟩ := ih fun i hi => h i (by omega)
    obtain ⟨x, hx⟩ := h n (by omega)
    refine ⟨l ++ [x], by simp [h1], fun i y hy => ?_⟩
    by_cases hi : i < l.length
    · rw [List.getElem?_append_left hi] at hy; exact h2 i y hy
    · rw [List.getElem?_append_right (by omega)] at hy
      have : i = n := by
        have := (List.getElem?_eq_some_iff.1 hy).1
        simp at this; omega
      subst this
      rw [h1] at hy
      simp at hy; subst hy; exact hx
theorem wf_i64 {n : Int} (h : (Lit.int .i64 n).wf = true) : InR n := by
  simp only [Lit.wf, Bool.and_eq_true, decide_eq_true_eq] at h
  exact h
theorem wf_u8 {n : Int} (h : (Lit.int .u8 n).wf = true) : 0 ≤ n ∧ n ≤ 255 := by
  simp only [Lit.wf, Bool.and_eq_true, decide_eq_true_eq] at h
  exact h
section
variable {H : Type} {enc : TypeId × Value → H} {P : Program} {w : World} {base : Nat} {spare : Nat → Bool} {held : Bool} {L : Nat → Lab}
theorem size_toList (s : ByteArray) : s.data.toList.length = s.size := by cases s; simp [ByteArray.size]
theorem weightsAll_mem {te : TypeId} : ∀ {l : List (DataW H)} {d : DataW H}, d ∈ l → ∀ {n : Nat}, n ∈ d.weights P te → n ∈ DataW.weightsAll P te l
  | [], d, h, n, _ => by cases h
  | x :: l, d, h, n, hn => by
    simp only [DataW.weightsAll, List.mem_append]
    rcases List.mem_cons.1 h with rfl | h
    · exact .inl hn
    · exact .inr (weightsAll_mem h hn)
theorem open_cells (hL : ∀ b, L b = .sh) : ∀ d : DT,
    (∀ (t : TypeId) (fuel : Nat) (cs : List Value) (x : DataW H × List MemPlace), (IsX P d).1 t → DataW.trod enc P w base spare held fuel t cs = some x → ∃ v : Ty d, Good d v ∧ ((∀ n ∈ x.1.weights P t, n ≤ reachBytes) → Lens P d t v) ∧ RC L w (cellsD d v) cs) ∧
    (∀ (off : Nat) (fs : List Field) (n : Nat) (cs : List Value), (IsX P d).2 off fs → (∀ f ∈ fs, ∃ y, DataW.trod enc P w base spare held n f.type ((cs.drop f.offset).take (P.cellsOf f.type)) = some y) → off + d.size = cs.length →
      ∃ v : Ty d, Good d v ∧ RC L w (cellsD d v) (cs.drop off))
  | .int => ⟨fun t fuel cs x ht h => by
      obtain ⟨n, rfl, _, hw⟩ := DataW.trod_int ht h
      exact ⟨n, wf_i64 hw, fun _ => trivial, .one .int⟩, fun _ _ _ _ h => False.elim h⟩
  | .byte => ⟨fun t fuel cs x ht h => by
      obtain ⟨n, rfl, _, hw⟩ := DataW.trod_int ht h
      exact ⟨n, wf_u8 hw, fun _ => trivial, .one .val⟩, fun _ _ _ _ h => False.elim h⟩
  | .bool => ⟨fun t fuel cs x ht h => by
      obtain ⟨n, rfl, _⟩ := DataW.trod_bool ht h
      exact ⟨n, trivial, fun _ => trivial, .one .bool⟩, fun _ _ _ _ h => False.elim h⟩
  | .str => ⟨fun t fuel cs x ht h => by
      obtain ⟨s, rfl, hxe, hs⟩ := DataW.trod_string ht h
      refine ⟨s.data.toList, ?_, fun hw => ?_, .one ?_⟩
      · show s.data.toList.length ≤ 9223372036854775807
        rw [size_toList]
        exact hs
      · subst hxe
        have := hw s.data.toList.length (by simp [DataW.weights])
        exact this
      · have e : s = ⟨s.data.toList.toArray⟩ := by cases s; simp
        exact e ▸ Rep.str (s := s.data.toList), fun _ _ _ _ h => False.elim h⟩
  | .ar2 => ⟨fun t fuel cs x ht h => by
      obtain ⟨te, h1, h2, h3, h4⟩ := ht
      obtain ⟨xs, m, _, _, hl, hxl, hx⟩ := DataW.trod_array h1 h
      rw [h4] at hl
      match cs, hl with
      | [c0, c1], _ =>
        have e0 := hx 0 (by decide)
        have e1 := hx 1 (by decide)
        rw [h3, List.getElem?_eq_getElem (by omega)] at e0 e1
        change DataW.trod enc P w base spare held m te [c0] = _ at e0
        change DataW.trod enc P w base spare held m te [c1] = _ at e1
        obtain ⟨n0, q0, _, w0⟩ := DataW.trod_int h2 e0
        obtain ⟨n1, q1, _, w1⟩ := DataW.trod_int h2 e1
        cases q0; cases q1
        exact ⟨(n0, n1, ()), ⟨wf_i64 w0, wf_i64 w1⟩, fun _ => trivial, (RC.one .int).append (RC.one .int)⟩, fun _ _ _ _ h => False.elim h⟩
  | .un => ⟨fun _ _ _ _ h => False.elim h, fun off fs n cs h _ hl => ⟨(), trivial, by
      have : cs.drop off = [] := List.drop_eq_nil_of_le (by simp only [DT.size] at hl; omega)
      rw [this]
      exact ⟨rfl, fun j y v hy => by simp [cellsD] at hy⟩⟩⟩
  | .pr a b => by
    have hF : ∀ (off : Nat) (fs : List Field) (n : Nat) (cs : List Value), (IsX P (.pr a b)).2 off fs → (∀ f ∈ fs, ∃ y, DataW.trod enc P w base spare held n f.type ((cs.drop f.offset).take (P.cellsOf f.type)) = some y) → off + (DT.pr a b).size = cs.length →
        ∃ v : Ty (.pr a b), Good (.pr a b) v ∧ RC L w (cellsD (.pr a b) v) (cs.drop off) := by
      intro off fs n cs h hx hl
      match fs, h with
      | f :: r, h =>
        obtain ⟨h1, h2, h3, h4⟩ := h
        obtain ⟨y, hy⟩ := hx f (List.mem_cons_self ..)
        obtain ⟨va, ga, _, ra⟩ := (open_cells hL a).1 _ _ _ _ h3 hy
        obtain ⟨vb, gb, rb⟩ := (open_cells hL b).2 (off + a.size) r n cs h4 (fun f hf => hx f (List.mem_cons_of_mem _ hf)) (by simp only [DT.size] at hl; omega)
        refine ⟨(va, vb), ⟨ga, gb⟩, ?_⟩
        have := ra.append rb
        rw [h1, h2, ← List.drop_drop, List.take_append_drop] at this
        exact this
    refine ⟨fun t fuel cs x ht h => ?_, hF⟩
    obtain ⟨fs, h1, h2, h3⟩ := ht
    obtain ⟨xs, n, _, _, hl, hxl, hx⟩ := DataW.trod_struct h1 h
    obtain ⟨v, gv, rv⟩ := hF 0 fs.toList n cs h3 (fun f hf => by
      obtain ⟨i, hi⟩ := List.getElem?_of_mem hf
      have hi' : fs[i]? = some f := by simpa using hi
      have hlt : i < xs.length := by rw [hxl]; exact (Array.getElem?_eq_some_iff.1 hi').1
      exact ⟨xs[i], by rw [hx i f hi', List.getElem?_eq_getElem hlt]⟩) (by rw [hl, h2]; simp [DT.size])
    exact ⟨v, gv, fun _ => trivial, by simpa using rv⟩
  | .sl e => ⟨fun t fuel cs x ht h => by
      obtain ⟨te, h1, h2, h3, h4⟩ := ht
      rcases open_slice h1 h with ⟨rfl, _⟩ | ⟨a, len, cap, m, n, D, Pl, rfl, _, hl, hm, hmm, hxe, hx⟩
      · exact ⟨[], ⟨by simp, fun x hx => by cases hx⟩, fun _ _ _ => ⟨by simp, fun x hx => by cases hx⟩, .one (.slE (by simp))⟩
      have hlm : len ≤ m := by rw [hmm]; split <;> omega
      obtain ⟨xs, e1, e2⟩ := list_of_lt (n := len) (p := fun i (v : Ty e) => (Good e v ∧ ((∀ n ∈ (D i).weights P te, n ≤ reachBytes) → Lens P e te v)) ∧ ∃ cs', w.cells? base (a.add (i * P.cellsOf te)) (P.cellsOf te) = some cs' ∧ RC L w (cellsD e v) cs') fun i hi => by
        obtain ⟨cs', hc, ht⟩ := hx i (by omega)
        obtain ⟨v, g, lv, r⟩ := (open_cells hL e).1 _ _ _ _ h4 ht
        exact ⟨v, ⟨g, lv⟩, cs', hc, r⟩
      refine ⟨xs, ⟨by rw [e1]; unfold maxLen at hm; omega, fun x hx => by obtain ⟨i, hi⟩ := List.getElem?_of_mem hx; exact (e2 i x hi).1.1⟩, fun hw te' hte => ?_, .one ?_⟩
      · have : te' = te := by rw [h1] at hte; cases hte; rfl
        subst this
        rw [hxe] at hw
        simp only [DataW.weights, h1] at hw
        refine ⟨?_, fun x hx => ?_⟩
        · have := hw _ (List.mem_cons_self ..)
          rw [List.length_map, List.length_range] at this
          rw [e1]
          exact Nat.le_trans (Nat.mul_le_mul_right _ (Nat.le_add_right _ _)) this
        · obtain ⟨i, hi⟩ := List.getElem?_of_mem hx
          have hil : i < len := by rw [← e1]; exact (List.getElem?_eq_some_iff.1 hi).1
          refine (e2 i x hi).1.2 fun n hn => hw n (List.mem_cons_of_mem _ (List.mem_append_left _ ?_))
          exact weightsAll_mem (List.mem_map.2 ⟨i, List.mem_range.2 hil, rfl⟩) hn
      cases hxs : xs with
      | nil => subst hxs; simp only [List.length_nil] at e1; subst e1; exact .slE (by simp)
      | cons x0 xr =>
        rw [← hxs]
        have hlen : 0 < xs.length := by rw [hxs]; simp
        obtain ⟨_, cs0, hc0, _⟩ := e2 0 xs[0] (List.getElem?_eq_getElem hlen)
        obtain ⟨_, hcl0, hcc0⟩ := World.cells?_some hc0
        have hcell0 := hcc0 0 (by rw [h2]; exact h3)
        rw [List.getElem?_eq_getElem (by rw [hcl0, h2]; exact h3)] at hcell0
        obtain ⟨b, off, spot⟩ := a
        have hspot : spot = none := by simpa [Addr.add] using World.cell?_spot hcell0
        subst hspot
        have hadd : ∀ o k, (⟨b, o, none⟩ : Addr).add k = ⟨b, o + k, none⟩ := fun o k => by unfold Addr.add; by_cases hk : k = 0 <;> simp [hk]
        have hb : b < w.heap.size := by
          simp only [hadd] at hcell0
          unfold World.cell? at hcell0
          rcases Nat.lt_or_ge b w.heap.size with h | h
          · exact h
          · rw [Array.getElem?_eq_none h] at hcell0
            simp at hcell0
        have key : ∀ (i j : Nat) (x : Ty e), xs[i]? = some x → j < e.size → ∃ v, w.cell? ⟨b, off + (i * e.size + j), none⟩ = some v ∧ ∀ y, (cellsD e x)[j]? = some y → Rep L w none y v := by
          intro i j x hx hj
          obtain ⟨_, cs', hc, hr⟩ := e2 i x hx
          obtain ⟨_, hcl, hcc⟩ := World.cells?_some hc
          have := hcc j (by rw [h2]; exact hj)
          simp only [hadd] at this
          rw [h2, List.getElem?_eq_getElem (by rw [hcl, h2]; exact hj), Nat.add_assoc] at this
          exact ⟨_, this, fun y hy => hr.2 j y _ hy (List.getElem?_eq_getElem _)⟩
        have hcs : ∀ x ∈ xs.map (fun x => pk e (cellsD e x)), x.cells.length = e.size := fun x hx => by
          obtain ⟨z, _, rfl⟩ := List.mem_map.1 hx
          show (one e z).cells.length = _
          rw [one_cells, cellsD_length]
        have hll : (xs.map (fun x => pk e (cellsD e x))).length = len := by rw [List.length_map, e1]
        rw [← hll]
        refine .slS (fun o => (w.cell? ⟨b, off + o, none⟩).getD undef) (by omega) (hL b) hb hcs (fun o ho => ?_) (fun o y hy => ?_)
        · have hi : o / e.size < xs.length := by
            rw [List.length_map] at ho
            exact (Nat.div_lt_iff_lt_mul h3).2 ho
          obtain ⟨v, hv, _⟩ := key (o / e.size) (o % e.size) _ (List.getElem?_eq_getElem hi) (Nat.mod_lt _ h3)
          rw [Nat.div_add_mod' o e.size] at hv
          rw [hv]; rfl
        · obtain ⟨i, j, z, hz1, hz2, rfl, hj⟩ := flat_split hcs hy
          rw [List.getElem?_map, Option.map_eq_some_iff] at hz1
          obtain ⟨x, hx, rfl⟩ := hz1
          obtain ⟨v, hv, hr⟩ := key i j x hx hj
          show Rep L w none y ((w.cell? _).getD undef)
          rw [hv]
          exact hr y (by rw [show pk e (cellsD e x) = one e x from rfl, one_cells] at hz2; exact hz2), fun _ _ _ _ h => False.elim h⟩
/-- An argument. -/
theorem open_arg (hL : ∀ b, L b = .sh) {r : Reach} {b0 : Nat} {d : DT} {t : TypeId} {v : Value} {x : DataW H} {ps : List MemPlace} (ht : (IsX P d).1 t) (hval : Value.okWide P w r b0 t v) (h : DataW.Trod enc P w base spare held t v x ps) : ∃ z : Ty d, Good d z ∧ ((∀ n ∈ x.weights P t, n ≤ reachBytes) → Lens P d t z) ∧ Rep L w none (one d z) v := by
  obtain ⟨fuel, hf⟩ := h
  obtain ⟨z, g, lz, hr⟩ := (open_cells hL d).1 _ _ _ _ ht hf
  refine ⟨z, g, lz, ?_⟩
  have single : ∀ (y : AV), [v] = v.cells.toList → cellsD d z = [y] → Rep L w none y v := fun y hv hc => by
    rw [← hv, hc] at hr
    exact hr.2 0 y v rfl rfl
  cases d with
  | int => obtain ⟨n, rfl⟩ := okWide_int ht hval; exact single _ rfl rfl
  | byte => obtain ⟨n, rfl⟩ := okWide_int ht hval; exact single _ rfl rfl
  | bool => obtain ⟨n, rfl⟩ := okWide_bool ht hval; exact single _ rfl rfl
  | str => obtain ⟨n, rfl⟩ := okWide_string ht hval; exact single _ rfl rfl
  | sl e => obtain ⟨te, h1, _⟩ := ht; obtain ⟨_, _, _, rfl⟩ := okWide_slice h1 hval; exact single _ rfl rfl
  | un => exact False.elim ht
  | ar2 =>
    obtain ⟨te, h1, _, _, h4⟩ := ht
    simp only [Value.okWide, h1] at hval
    obtain ⟨cs, rfl, _, _⟩ := hval
    have : Rep L w none (.agg (cellsD .ar2 z)) (.agg cs.toList.toArray) := .agg hr.1.symm fun i x v hx hv => hr.2 i x v hx hv
    show Rep L w none (.agg (cellsD .ar2 z)) (.agg cs)
    simpa using this
  | pr a b =>
    obtain ⟨fs, h1, _⟩ := ht
    obtain ⟨cs, rfl, _⟩ := okWide_struct h1 hval
    have : Rep L w none (.agg (cellsD (.pr a b) z)) (.agg cs.toList.toArray) := .agg hr.1.symm fun i x v hx hv => hr.2 i x v hx hv
    show Rep L w none (.agg (cellsD (.pr a b) z)) (.agg cs)
    simpa using this
@[reducible] def Tys : List DT → Type
  | [] => Unit
  | d :: ds => Ty d × Tys ds
def ones : (ds : List DT) → Tys ds → List AV
  | [], _ => []
  | d :: ds, x => one d x.1 :: ones ds x.2
def Goods : (ds : List DT) → Tys ds → Prop
  | [], _ => True
  | d :: ds, x => Good d x.1 ∧ Goods ds x.2
def Lenss (P : Program) : (ds : List DT) → List TypeId → Tys ds → Prop
  | d :: ds, t :: ts, z => Lens P d t z.1 ∧ Lenss P ds ts z.2
  | _, _, _ => True
def IsXs (P : Program) : List DT → List TypeId → Prop
  | [], [] => True
  | d :: ds, t :: ts => (IsX P d).1 t ∧ P.readableRec t = true ∧ t < P.types.size ∧ IsXs P ds ts
  | _, _ => False
theorem open_args (hL : ∀ b, L b = .sh) {r : Reach} {b0 : Nat} : ∀ (ds : List DT) (ts : List TypeId) (vs : List Value) (xs : List (DataW H)) (ps : List MemPlace), IsXs P ds ts → (∀ (j : Nat) t v, ts[j]? = some t → vs[j]? = some v → Value.okWide P w r b0 t v) →
    DataW.TrodAll enc P w base spare held ts vs xs ps → ∃ z : Tys ds, Goods ds z ∧ ((∀ n ∈ DataW.weightsEach P ts xs, n ≤ reachBytes) → Lenss P ds ts z) ∧ vs.length = (ones ds z).length ∧ ∀ (i : Nat) x v, (ones ds z)[i]? = some x → vs[i]? = some v → Rep L w none x v
  | [], [], vs, xs, ps, _, _, h => by
    obtain ⟨rfl, rfl, rfl⟩ := trodAll_nil h
    exact ⟨(), trivial, fun _ => trivial, rfl, fun i x v hx => by simp [ones] at hx⟩
  | d :: ds, t :: ts, vs, xs, ps, ht, hval, h => by
    obtain ⟨v, vs', x, xs', p, q, rfl, rfl, rfl, h0, h1⟩ := trodAll_cons h
    obtain ⟨z, g, lz, hr⟩ := open_arg hL ht.1 (hval 0 t v rfl rfl) h0
    obtain ⟨zs, gs, lzs, hl, hrs⟩ := open_args hL ds ts vs' xs' q ht.2.2.2 (fun j t v hj hv => hval (j + 1) t v (by simpa using hj) (by simpa using hv)) h1
    refine ⟨(z, zs), ⟨g, gs⟩, fun hw => ⟨lz fun n hn => hw n (by simp only [DataW.weightsEach, List.mem_append]; exact .inl hn), lzs fun n hn => hw n (by simp only [DataW.weightsEach, List.mem_append]; exact .inr hn)⟩, by simp [ones, hl], fun i y u hy hu => ?_⟩
    cases i with
    | zero => simp only [ones, List.getElem?_cons_zero, Option.some.injEq] at hy hu; subst hy; subst hu; exact hr
    | succ i => simp only [ones, List.getElem?_cons_succ] at hy hu; exact hrs i y u hy hu
  | [], _ :: _, _, _, _, h, _, _ => False.elim h
  | _ :: _, [], _, _, _, h, _, _ => False.elim h
theorem keep_args (hl : laidOutB P = true) {w' : World} (hb : Below w.heap.size w w') : ∀ (ds : List DT) (ts : List TypeId) (vs : List Value) (xs : List (DataW H)) (ps : List MemPlace), IsXs P ds ts →
    DataW.TrodAll enc P w 0 (fun _ => true) true ts vs xs ps → DataW.TrodAll enc P w' 0 (fun b => decide (b < w.heap.size)) true ts vs xs ps
  | [], [], vs, xs, ps, _, h => by
    obtain ⟨rfl, rfl, rfl⟩ := trodAll_nil h
    exact trodAll_mk0
  | d :: ds, t :: ts, vs, xs, ps, ht, h => by
    obtain ⟨v, vs', x, xs', p, q, rfl, rfl, rfl, h0, h1⟩ := trodAll_cons h
    have lt0 : ∀ x ∈ p, x.block < w.heap.size := by obtain ⟨m, hm⟩ := h0; exact DataW.trod_lt m _ _ _ hm
    exact trodAll_cons_mk (Below.trod hl ht.2.1 ht.2.2.1 h0 hb lt0) (keep_args hl hb ds ts vs' xs' q ht.2.2.2 h1)
  | [], _ :: _, _, _, _, h, _ => False.elim h
  | _ :: _, [], _, _, _, h, _ => False.elim h
/-- What the given statement asks of the call, lengths told. -/
theorem law_callsL {f : Nat} {ds : List DT} {ts : List TypeId} (hl : laidOutB P = true) (hX : IsXs P ds ts) (hs : ∀ z : Tys ds, Goods ds z → Lenss P ds ts z → FnSpec P f (ones ds z) (ones ds z) (.bool true)) {r : Reach} {b0 : Nat} {args : Array Value} {xs : List (DataW H)} {ps : List MemPlace}
    (hval : ∀ (j : Nat) t v, ts[j]? = some t → args[j]? = some v → Value.okWide P w r b0 t v) (hA : DataW.TrodAll enc P w 0 (fun _ => true) true ts args.toList xs ps) (hz : (DataW.weightsEach P ts xs).all (· ≤ reachBytes) = true) (hG : Glob (fun _ => .sh) w) :
    Calls P f args w fun e w' => e = .returned (.bool true) ∧ DataW.TrodAll enc P w' 0 (fun b => decide (b < w.heap.size)) true ts args.toList xs ps ∧ Below w.heap.size w w' := by
  obtain ⟨z, g, lz, hlen, hr⟩ := open_args (L := fun _ => .sh) (fun _ => rfl) ds ts args.toList xs ps hX (fun j t v hj hv => hval j t v hj (by simpa using hv)) hA
  have := (hs z g (lz fun n hn => by simpa using List.all_eq_true.1 hz n hn)).calls w (fun _ => .sh) args.toList hlen (pre_none (fun _ _ h => by cases h) (fun _ _ h => by cases h) hG) (fun i x v hx hv => (hr i x v hx hv).any _)
  rw [show args.toList.toArray = args from by simp] at this
  refine this.mono fun e w' ⟨v, L', he, hB⟩ => ?_
  have hv : v = .bool true := by have := hB.res; cases this; rfl
  subst hv; subst he
  have hk : Below w.heap.size w w' := ⟨hB.keep.os, hB.keep.tape, hB.keep.output, hB.keep.size, fun b hb => hB.keep.block b hb (fun p h => by cases h)⟩
  exact ⟨rfl, keep_args hl hk ds ts _ xs ps hX hA, hk⟩
end
end FM
