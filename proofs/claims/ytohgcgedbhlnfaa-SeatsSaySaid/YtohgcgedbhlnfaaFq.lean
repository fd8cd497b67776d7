/- Regions that draw their order: a head that only reads, then a tail of few operations in whatever order. No program in sight. -/
import Derived.Test.YtohgcgedbhlnfaaFi
import Derived.StillTail
namespace FM
open Go Go.RowKit

/-! ### what must come ahead of what -/
inductive Anc (ops : Array Oper) : Nat → Nat → Prop
  | on {t : Nat} {o : Oper} {e : Edge} (ho : ops[t]? = some o) (he : e ∈ o.after) (hb : Region.binds .any e = true) : Anc ops t e.on
  | up {t i : Nat} {o : Oper} {e : Edge} (ho : ops[t]? = some o) (he : e ∈ o.after) (hb : Region.binds .any e = true) (h : Anc ops e.on i) : Anc ops t i
def maskOf (ms : List Nat) (es : List Edge) : Nat := es.foldl (fun m e => bif Region.binds .any e then m ||| (1 <<< e.on) ||| ms.getD e.on 0 else m) 0
def masks : List Oper → List Nat → List Nat
  | [], ms => ms
  | o :: l, ms => masks l (ms ++ [maskOf ms o.after.toList])
theorem maskOf_spec {ops : Array Oper} {ms : List Nat} (hm : ∀ (t m : Nat), ms[t]? = some m → ∀ i, m.testBit i = true → Anc ops t i) {t : Nat} {o : Oper} (ho : ops[t]? = some o) : ∀ i, (maskOf ms o.after.toList).testBit i = true → Anc ops t i := by
  unfold maskOf
  suffices h : ∀ (es : List Edge) (m : Nat), (∀ e ∈ es, e ∈ o.after) → (∀ i, m.testBit i = true → Anc ops t i) → ∀ i, (es.foldl (fun m e => bif Region.binds .any e then m ||| (1 <<< e.on) ||| ms.getD e.on 0 else m) m).testBit i = true → Anc ops t i from
    h _ 0 (fun e he => by simpa using he) (fun i hi => by simp at hi)
  intro es
  induction es with
  | nil => exact fun m _ h i hi => h i hi
  | cons e es ih =>
    intro m hes hmm i hi
    refine ih _ (fun e' he' => hes e' (List.mem_cons_of_mem _ he')) (fun j hj => ?_) i hi
    cases hb : Region.binds .any e with
    | false => simp only [hb, cond_false] at hj; exact hmm j hj
    | true =>
      simp only [hb, cond_true, Nat.testBit_or, Bool.or_eq_true] at hj
      rcases hj with (hj | hj) | hj
      · exact hmm j hj
      · rw [Nat.shiftLeft_eq, Nat.one_mul, Nat.testBit_two_pow] at hj
        have : e.on = j := of_decide_eq_true hj
        subst this
        exact .on ho (hes e (List.mem_cons_self ..)) hb
      · rw [List.getD_eq_getElem?_getD] at hj
        cases hg : ms[e.on]? with
        | none => rw [hg] at hj; simp at hj
        | some mm => rw [hg] at hj; exact .up ho (hes e (List.mem_cons_self ..)) hb (hm e.on mm hg j hj)
theorem masks_spec {ops : Array Oper} : ∀ (l : List Oper) (ms : List Nat), (∀ (k : Nat) o, l[k]? = some o → ops[ms.length + k]? = some o) → (∀ (t m : Nat), ms[t]? = some m → ∀ i, m.testBit i = true → Anc ops t i) → ∀ (t m : Nat), (masks l ms)[t]? = some m → ∀ i, m.testBit i = true → Anc ops t i
  | [], ms, _, hm => hm
  | o :: l, ms, hl, hm => by
    refine masks_spec l _ (fun k o' hk => ?_) (fun t m ht => ?_)
    · have := hl (k + 1) o' (by simpa using hk)
      simpa [Nat.add_assoc, Nat.add_comm 1 k] using this
    · by_cases hlt : t < ms.length
      · rw [List.getElem?_append_left hlt] at ht; exact hm t m ht
      · rw [List.getElem?_append_right (by omega)] at ht
        have h0 : t - ms.length = 0 := by
          rcases Nat.eq_zero_or_pos (t - ms.length) with h | h
          · exact h
          · obtain ⟨k, hk⟩ : ∃ k, t - ms.length = k + 1 := ⟨t - ms.length - 1, by omega⟩
            rw [hk] at ht; simp at ht
        rw [h0] at ht
        simp only [List.getElem?_cons_zero, Option.some.injEq] at ht
        subst ht
        have hto : ops[t]? = some o := by
          have := hl 0 o rfl
          rwa [show ms.length + 0 = t by omega] at this
        exact maskOf_spec hm hto

structure Closed (ops : Array Oper) (n : Nat) (listed : Array Bool) : Prop where
  size : listed.size = ops.size
  closed : ∀ j oj, ops[j]? = some oj → listed.getD j false = true → ∀ e ∈ oj.after, Region.binds .any e = true → listed.getD e.on false = true
theorem Closed.anc {ops : Array Oper} {n : Nat} {listed : Array Bool} (h : Closed ops n listed) {t i : Nat} (ha : Anc ops t i) : (∀ o, ops[t]? = some o → ∀ e ∈ o.after, Region.binds .any e = true → listed.getD e.on false = true) → listed.getD i false = true := by
  induction ha with
  | on ho he hb => exact fun hr => hr _ ho _ he hb
  | up ho he hb _ ih => exact fun hr => ih fun o' ho' e' he' hb' => h.closed _ _ ho' (hr _ ho _ he hb) e' he' hb'
theorem Closed.set {ops : Array Oper} {n i : Nat} {listed : Array Bool} (inv : Closed ops n listed) (hi : i ∈ Region.ready .any ops listed) : Closed ops n (listed.setIfInBounds i true) := by
  obtain ⟨_, oi, hoi, hall⟩ := mem_ready.1 hi
  refine ⟨by simp [inv.size], fun j oj hj hl e he hb => ?_⟩
  by_cases hij : i = j
  · subst hij
    have : oj = oi := Option.some.inj (hj.symm.trans hoi)
    subst this
    exact getD_set_true (hall e he hb)
  · rw [getD_set_ne false hij] at hl
    exact getD_set_true (inv.closed j oj hj hl e he hb)
/-- Every operation from n on waits for all of the head. -/
def sinksB (l : List Oper) (n : Nat) : Bool := ((masks l []).drop n).all fun m => m &&& (2 ^ n - 1) == 2 ^ n - 1
theorem sinksB_spec {l : List Oper} {n : Nat} (h : sinksB l n = true) (hl : (masks l []).length = l.length) {t i : Nat} (ht : n ≤ t) (htl : t < l.length) (hi : i < n) : Anc l.toArray t i := by
  have hlt : t < (masks l []).length := by omega
  refine masks_spec (ops := l.toArray) l [] (fun k o hk => by simpa using hk) (fun t m h => by simp at h) t _ (List.getElem?_eq_getElem hlt) i ?_
  have hm := List.all_eq_true.1 h ((masks l [])[t]) (List.mem_iff_getElem?.2 ⟨t - n, by rw [List.getElem?_drop, show n + (t - n) = t by omega, List.getElem?_eq_getElem hlt]⟩)
  have hm' := eq_of_beq hm
  have : ((masks l [])[t] &&& (2 ^ n - 1)).testBit i = true := by rw [hm', Nat.testBit_two_pow_sub_one]; exact decide_eq_true hi
  rw [Nat.testBit_and, Bool.and_eq_true] at this
  exact this.1

section
variable {P : Program} {ops : Array Oper} {C : World → Prop}
def wpAnyH (P : Program) (ops : Array Oper) (C : World → Prop) (n : Nat) (L : Array Bool → Act → Prop) : Nat → Array Bool → Act → Prop
  | 0, listed, a => L listed a
  | f + 1, listed, a => Region.ready .any ops listed ≠ [] ∧ ∀ i ∈ Region.ready .any ops listed, i < n ∧ qOp P ops C i (wpAnyH P ops C n L f (listed.setIfInBounds i true)) a
theorem wpAny_of_H {n g : Nat} {L : Array Bool → Act → Prop} {Q' : Exit → Act → World → Prop} (hL : ∀ listed a w, C w → L listed a → wpAny P .any ops Q' g listed a w) :
    ∀ (f : Nat) (listed : Array Bool) (a : Act) (w : World), C w → wpAnyH P ops C n L f listed a → wpAny P .any ops Q' (f + g) listed a w
  | 0, listed, a, w, hw, h => by rw [Nat.zero_add]; exact hL _ _ w hw h
  | f + 1, listed, a, w, hw, h => by
    rw [show f + 1 + g = (f + g) + 1 by omega]
    exact ⟨fun h0 => absurd h0 h.1, fun i hi => wpOp_of_qOp hw (fun a' w' hw' h' => wpAny_of_H hL f _ a' w' hw' h') (h.2 i hi).2⟩
theorem wpAnyH_first {n i : Nat} {oi : Oper} {v : Value} {L : Array Bool → Act → Prop} (hi : ops[i]? = some oi) (hsel : ∀ (j : Nat) (o : Oper) cs b, ops[j]? = some o → o.op ≠ .select cs b)
    (hsink : ∀ t j, n ≤ t → t < ops.size → j < n → Anc ops t j) (hin : i < n) (hdone : ∀ listed a, L listed a → ∀ j ∈ Region.ready .any ops listed, n ≤ j) :
    ∀ (f : Nat) (listed : Array Bool) (a : Act), Closed ops n listed →
      (∀ j oj, ops[j]? = some oj → j ≠ i → listed.getD j true = false → (∀ e ∈ oj.after, Region.binds .any e = true → e.on ≠ i) → oi.apart ops oj = true) →
      i ∈ Region.ready .any ops listed → YieldsIn P ops C oi v a →
      wpAnyH P ops C n L f (listed.setIfInBounds i true) (a.put oi.dst v) → wpAnyH P ops C n L (f + 1) listed a := by
  have early : ∀ {listed : Array Bool}, Closed ops n listed → i ∈ Region.ready .any ops listed → ∀ j ∈ Region.ready .any ops listed, j < n := fun {listed} inv hr j hj => by
    rcases Nat.lt_or_ge j n with h | h
    · exact h
    · obtain ⟨_, oj, hoj, hall⟩ := mem_ready.1 hj
      have := inv.anc (hsink j i h (Array.getElem?_eq_some_iff.1 hoj).1 hin) (fun o ho e he hb => by
        have : o = oj := Option.some.inj (ho.symm.trans hoj)
        subst this
        exact hall e he hb)
      rw [getD_both (mem_ready.1 hr).1] at this
      cases this
  intro f
  induction f with
  | zero =>
    intro listed a inv _ hr hy H
    refine ⟨fun h => (by rw [h] at hr; cases hr), fun j hj => ⟨early inv hr j hj, ?_⟩⟩
    have hjn := early inv hr j hj
    by_cases hji : j = i
    · subst hji; exact hy.qOp hi H
    · have := hdone _ _ H j (ready_mono hj hji)
      omega
  | succ f ih =>
    intro listed a inv hfree hr hy H
    have hun := (mem_ready.1 hr).1
    refine ⟨fun h => (by rw [h] at hr; cases hr), fun j hj => ⟨early inv hr j hj, ?_⟩⟩
    by_cases hji : j = i
    · subst hji; exact hy.qOp hi H
    · have h1 := (H.2 j (ready_mono hj hji)).2
      obtain ⟨hjun, oj, hoj, hall⟩ := mem_ready.1 hj
      have hnot : ∀ e ∈ oj.after, Region.binds .any e = true → e.on ≠ i := fun e he hb heq => by
        have h1 := hall e he hb
        rw [heq, getD_both hun] at h1
        cases h1
      have h2 := qOp_put hoj (hfree j oj hoj hji hjun hnot) (fun cs b => hsel i oi cs b hi) (fun cs b => hsel j oj cs b hoj) hy h1
      have hfree' : ∀ k ok, ops[k]? = some ok → k ≠ i → (listed.setIfInBounds j true).getD k true = false →
          (∀ e ∈ ok.after, Region.binds .any e = true → e.on ≠ i) → oi.apart ops ok = true := fun k ok hk hki hun hno => by
        refine hfree k ok hk hki ?_ hno
        by_cases hjk : j = k
        · subst hjk; exact hjun
        · rw [getD_set_ne true hjk] at hun; exact hun
      refine qOp_mono (fun a' h3 => ih (listed.setIfInBounds j true) a' (inv.set hj) hfree' (ready_mono hr (Ne.symm hji)) h3.1 ?_) h2
      rw [Array.setIfInBounds_comm _ _ hji]
      exact h3.2
/-- The head in the text's order; then the listed places are these, and what may come up is of the tail. -/
def lexHeadB (ops : Array Oper) (n : Nat) (fin : List Bool) : Nat → Nat → Array Bool → Bool
  | 0, _, listed => decide (listed.toList = fin) && (Region.ready .any ops listed).all fun j => Nat.ble n j
  | f + 1, k, listed => (Region.ready .any ops listed).contains k && Region.free .any ops listed k && lexHeadB ops n fin f (k + 1) (listed.setIfInBounds k true)
def headB (l : List Oper) (n : Nat) (fin : List Bool) : Bool :=
  Region.noSelect l.toArray && Nat.ble n l.length && decide ((masks l []).length = l.length) && sinksB l n && lexHeadB l.toArray n fin n 0 (Array.replicate l.length false)
theorem wpAnyH_lex {n : Nat} {fin : List Bool} {Lq : Act → Prop} (hsel : Region.noSelect ops = true) (hsink : ∀ t j, n ≤ t → t < ops.size → j < n → Anc ops t j) :
    ∀ (l : List Oper) (k : Nat) (listed : Array Bool) (a : Act), (∀ j, j < l.length → l[j]? = ops[k + j]?) → k + l.length = n → Closed ops n listed →
    lexHeadB ops n fin l.length k listed = true → wpQuiet P ops C Lq l a →
    wpAnyH P ops C n (fun listed' a' => (listed'.toList = fin ∧ ∀ j ∈ Region.ready .any ops listed', n ≤ j) ∧ Lq a') l.length listed a
  | [], k, listed, a, _, hk, _, hB, h => by
    simp only [List.length_nil, lexHeadB, Bool.and_eq_true, decide_eq_true_eq, List.all_eq_true] at hB
    exact ⟨⟨hB.1, fun j hj => Nat.le_of_ble_eq_true (hB.2 j hj)⟩, h⟩
  | o :: l, k, listed, a, hl, hk, inv, hB, h => by
    have h0 : ops[k]? = some o := by simpa using (hl 0 (by simp)).symm
    simp only [List.length_cons, lexHeadB, Bool.and_eq_true] at hB
    obtain ⟨⟨hr, hf⟩, hB'⟩ := hB
    have hkn : k < n := by simp only [List.length_cons] at hk; omega
    have hr' : k ∈ Region.ready .any ops listed := by simpa using hr
    have hst : qOp P ops C k (wpQuiet P ops C Lq l) a := by unfold qOp; simp only [h0]; exact h
    obtain ⟨v, hy, hK⟩ := yieldsIn_of_qOp h0 hst
    exact wpAnyH_first h0 (Region.noSelect_spec hsel) hsink hkn (fun listed' a' hL => hL.1.2) l.length listed a inv (Region.free_spec h0 hf) hr' hy
      (wpAnyH_lex hsel hsink l (k + 1) _ _ (fun j hj => by have := hl (j + 1) (by simp; omega); simpa [Nat.add_assoc, Nat.add_comm 1 j] using this) (by simp only [List.length_cons] at hk; omega) (inv.set hr') hB' hK)
theorem wp_region_head {id : Nat} {Q : Exit → Act → World → Prop} {a : Act} {w : World} {l : List Oper} (n : Nat) (fin : List Bool) (hm : P.follows .mixedOrders = true) (hB : headB l n fin = true) (hC : C { w with drawn := w.drawn + 1 })
    (h : wpQuiet P l.toArray C (fun a' => ∀ w', C w' → wpAny P .any l.toArray Q (l.length - n) fin.toArray a' w') (l.take n) a) : (Code.region id l.toArray true).wp P Q a w := by
  simp only [headB, Bool.and_eq_true, decide_eq_true_eq] at hB
  obtain ⟨⟨⟨⟨hsel, hn⟩, hlen⟩, hs⟩, hlex⟩ := hB
  have hn' : n ≤ l.length := Nat.le_of_ble_eq_true hn
  have htl : (l.take n).length = n := by simp; omega
  have inv0 : Closed l.toArray n (Array.replicate l.length false) :=
    ⟨by simp, fun j oj _ hl => (by rw [getD_replicate_false] at hl; cases hl)⟩
  have H := wpAnyH_lex (C := C) (fin := fin) hsel (fun t j ht htl hj => sinksB_spec hs hlen ht (by simpa using htl) hj) (l.take n) 0 _ a (fun j hj => by
    have hj' : j < n := by rw [htl] at hj; exact hj
    simp [hj']) (by simpa using htl) inv0 (by rw [htl]; exact hlex) h
  refine wp_region_any hm ?_
  have := wpAny_of_H (Q' := Q) (g := l.length - n) (fun listed a' w' hw' hL => by
    have := hL.2 w' hw'
    rw [← hL.1.1] at this
    simpa using this) _ _ _ _ hC H
  rw [htl, show n + (l.length - n) = l.toArray.size by simp; omega] at this
  exact this
end

/-! ### whatever order, from here on -/
@[irreducible] def JA (S : Sys) (N : Nat) (ops : Array Oper) (fuel : Nat) (listed : List Bool) (K : St → Prop) (σ : St) : Prop :=
  dstOk S N ops.toList = true → ∀ (w0 : World) (L0 : Nat → Lab) (Q : Exit → Act → World → Prop) (a : Act) (w : World), (∀ c a w, ¬ Q (.panic c) a w) →
    (∀ σ' a' w', K σ' → Rel S w0 L0 N σ' a' w' → Q .normal a' w') → Rel S w0 L0 N σ a w → wpAny S.P .any ops Q fuel listed.toArray a w
def readyL (ops : List Oper) (listed : List Bool) : List Nat :=
  (List.range ops.length).filter fun i => !listed.getD i true && ((ops[i]?).map (·.after.toList.all fun e => !Region.binds .any e || listed.getD e.on false)).getD false
theorem readyL_eq (l : List Oper) (listed : List Bool) : Region.ready .any l.toArray listed.toArray = readyL l listed := by
  unfold Region.ready readyL
  simp

section
variable {S : Sys} {N : Nat} {σ : St} {K : St → Prop} {l : List Oper} {listed : List Bool} {fuel : Nat}
theorem JA.done (hr : (readyL l listed).isEmpty = true) (h : K σ) : JA S N l.toArray fuel listed K σ := by
  unfold JA
  intro _ w0 L0 Q a w _ hQ hR
  exact wpAny_done (by rw [readyL_eq]; simpa using hr) (hQ σ a w h hR) fuel
theorem dstOk_mem {o : Oper} (h : dstOk S N l = true) (ho : o ∈ l) : dstOk S N [o] = true := by
  simp only [dstOk, List.all_cons, List.all_nil, Bool.and_true]
  exact List.all_eq_true.1 h o ho
theorem JA.op {i : Nat} {o : Oper} (ho : l[i]? = some o) (h : J false S N l.toArray [o] (JA S N l.toArray fuel (listed.set i true) K) σ) (hd : dstOk S N l = true) {w0 : World} {L0 : Nat → Lab} {Q : Exit → Act → World → Prop} {a : Act} {w : World} (hp : ∀ c a w, ¬ Q (.panic c) a w)
    (hQ : ∀ σ' a' w', K σ' → Rel S w0 L0 N σ' a' w' → Q .normal a' w') (hR : Rel S w0 L0 N σ a w) : wpOp S.P l.toArray Q i (wpAny S.P .any l.toArray Q fuel (listed.toArray.setIfInBounds i true)) a w := by
  unfold J at h
  have h1 := h (dstOk_mem hd (List.mem_of_getElem? ho)) w0 L0 (fun e a w => match e with
    | .normal => wpAny S.P .any l.toArray Q fuel (listed.set i true).toArray a w
    | e => Q e a w) a w (fun σ' a' w' hK hR' => by
      unfold JA at hK
      exact hK hd w0 L0 Q a' w' hp hQ hR') hR
  unfold wpOp
  have ho' : l.toArray[i]? = some o := by simpa using ho
  simp only [ho']
  have e : listed.toArray.setIfInBounds i true = (listed.set i true).toArray := by simp
  rw [e]
  unfold wpList at h1
  exact h1
/-- Each that may come up comes up. -/
theorem JA.all (rs : List Nat) (hr : readyL l listed = rs) (hne : rs.isEmpty = false) (h : ∀ i ∈ rs, ∃ o, l[i]? = some o ∧ J false S N l.toArray [o] (JA S N l.toArray fuel (listed.set i true) K) σ) : JA S N l.toArray (fuel + 1) listed K σ := by
  unfold JA
  intro hd w0 L0 Q a w hp hQ hR
  have hd' : dstOk S N l = true := by simpa using hd
  refine wpAny_all (rs := rs) (by rw [readyL_eq]; exact hr) (fun e => by subst e; cases hne) fun i hi => ?_
  obtain ⟨o, ho, hj⟩ := h i hi
  exact JA.op ho hj hd' hp hQ hR
theorem JA.one {i : Nat} {o : Oper} (hr : readyL l listed = [i]) (ho : l[i]? = some o) (h : J false S N l.toArray [o] (JA S N l.toArray fuel (listed.set i true) K) σ) : JA S N l.toArray (fuel + 1) listed K σ :=
  .all [i] hr rfl fun j hj => by simp only [List.mem_singleton] at hj; subst hj; exact ⟨o, ho, h⟩
theorem JA.two {i j : Nat} {o o' : Oper} (hr : readyL l listed = [i, j]) (ho : l[i]? = some o) (ho' : l[j]? = some o') (h : J false S N l.toArray [o] (JA S N l.toArray fuel (listed.set i true) K) σ) (h' : J false S N l.toArray [o'] (JA S N l.toArray fuel (listed.set j true) K) σ) : JA S N l.toArray (fuel + 1) listed K σ :=
  .all [i, j] hr rfl fun k hk => by
    simp only [List.mem_cons, List.not_mem_nil, or_false] at hk
    rcases hk with rfl | rfl
    · exact ⟨o, ho, h⟩
    · exact ⟨o', ho', h'⟩
/-- A copy may be taken first. -/
theorem JA.take {σ' : St} {i : Nat} {o : Oper} {x : Operand} (ho : l[i]? = some o) (hx : o.op = .move x ∨ o.op = .assign x) (hg : o.guard = none) (hB : (Region.noSelect l.toArray && Region.free .any l.toArray listed.toArray i && (readyL l listed).contains i) = true) (hs : Step S o σ σ') (h : JA S N l.toArray fuel (listed.set i true) K σ') :
    JA S N l.toArray (fuel + 1) listed K σ := by
  unfold JA at h ⊢
  intro hdo w0 L0 Q a w hp hQ hR
  simp only [Bool.and_eq_true] at hB
  have hd1 := (dstOk_cons (dstOk_mem (by simpa using hdo) (List.mem_of_getElem? ho))).1
  obtain ⟨v, hv, hR'⟩ := hs w0 L0 N a w hd1 hR
  have hrun : ∀ w, (execOp a.eval o).run S.P w = .ok (.value (a.eval x)) w := fun w => by rcases hx with hx | hx <;> simp [execOp, hx]
  have hv' : a.eval x = v := by
    have := hv w (Ext.refl w)
    rw [hrun] at this
    cases this; rfl
  have h1 := h hdo w0 L0 Q _ w hp hQ hR'
  refine wpAny_take (by simpa using ho) hB.1.1 hB.1.2 (by rw [readyL_eq]; exact hB.2) (fun c a w h => absurd h (hp c _ w)) (.inl ⟨by unfold Region.wanted; rw [hg], fun w => by rw [hrun, hv']⟩) ?_
  have e : listed.toArray.setIfInBounds i true = (listed.set i true).toArray := by simp
  rw [e]
  exact h1
/-- A region that draws its order: a head of n operations that only read, then the rest in whatever order. -/
theorem CW.regT {id : Nat} {Q : Exit → St → Prop} (n : Nat) (fin : List Bool) (hB : headB l n fin = true) (hd : dstOk S N l = true) (h : J true S N l.toArray (l.take n) (JA S N l.toArray (l.length - n) fin (Q .normal)) σ) : CW S N (.region id l.toArray true) Q σ := by
  unfold CW
  unfold J at h
  intro w0 L0 Q' a w hQ hR
  refine Code.wp_mono (Q := fun e a w => match e with | .panic _ => False | e => Q' e a w) (fun e a w he => ?_) ?_
  · cases e <;> first | exact he | cases he
  refine wp_region_head (C := Ext w) n fin S.mixed hB ⟨rfl, rfl, rfl, Nat.le_refl _, fun _ _ => rfl⟩ ?_
  refine h (by unfold dstOk at *; rw [List.all_eq_true] at *; exact fun o ho => hd o (List.mem_of_mem_take ho)) w0 L0 _ a w (fun σ' a' hK hR' w' hw' => ?_) hR
  unfold JA at hK
  exact hK (by simpa using hd) w0 L0 _ a' w' (fun c a w h => h) (fun σ' a' w' hk hr => hQ _ _ _ _ hk hr) (hR'.ext hw')
theorem JA.seq {k : Nat} {g : Nat} (hg : (l.drop k).length = g) (hB : Region.seqB .any l.toArray g k listed.toArray = true) (h : J false S N l.toArray (l.drop k) K σ) : JA S N l.toArray g listed K σ := by
  unfold JA
  unfold J at h
  intro hd w0 L0 Q a w _ hQ hR
  subst hg
  refine wpAny_of_seq (md := .any) (l.drop k) k listed.toArray a w (fun j => by simp [List.getElem?_drop]) hB ?_
  exact h (by unfold dstOk at *; rw [List.all_eq_true] at *; exact fun o ho => hd o (by simpa using List.mem_of_mem_drop ho)) w0 L0 Q a w hQ hR
def finOf (l : List Oper) (n : Nat) : List Bool := List.replicate n true ++ List.replicate (l.length - n) false
/-- .. where the rest has one order. -/
theorem CW.regS {id : Nat} {Q : Exit → St → Prop} (m : Nat) (hB : (headB l (l.length - m) (finOf l (l.length - m)) && Region.seqB .any l.toArray (l.length - (l.length - m)) (l.length - m) (finOf l (l.length - m)).toArray) = true) (hd : dstOk S N l = true)
    (h : J true S N l.toArray (l.take (l.length - m)) (J false S N l.toArray (l.drop (l.length - m)) (Q .normal)) σ) : CW S N (.region id l.toArray true) Q σ := by
  rw [Bool.and_eq_true] at hB
  refine CW.regT (l.length - m) (finOf l (l.length - m)) hB.1 hd ?_
  have : ∀ σ', J false S N l.toArray (l.drop (l.length - m)) (Q .normal) σ' → JA S N l.toArray (l.length - (l.length - m)) (finOf l (l.length - m)) (Q .normal) σ' := fun σ' h' => JA.seq (by simp) hB.2 h'
  unfold J at h ⊢
  exact fun hd w0 L0 Q a w hQ hR => h hd w0 L0 Q a w (fun σ' a' hK hR' => hQ σ' a' (this σ' (by unfold J; exact hK)) hR') hR
/-- .. all of it in whatever order. -/
theorem CW.reg0 {id : Nat} {Q : Exit → St → Prop} (gg : Nat) (hg : l.length = gg) (fin : List Bool) (hB : headB l 0 fin = true) (hd : dstOk S N l = true) (h : JA S N l.toArray gg fin (Q .normal) σ) : CW S N (.region id l.toArray true) Q σ := by
  subst hg
  exact CW.regT 0 fin hB hd (J.nil h)
/-- What is known behind a piece of code, written down. -/
theorem CW.cut {Q : Exit → St → Prop} {c y : Code} (I : List (Nat × TV)) (h1 : CW S N c (fun e σ' => e = .normal ∧ Has σ' I) σ) (h2 : CW S N y Q (ofL I)) : CW S N c (thenQ (CW S N y Q) Q) σ :=
  h1.mono fun e σ' ⟨he, hI⟩ => by subst he; exact CW.has I hI h2
end
end FM
