/- Regions that draw their order: a head that only reads, then a tail of few operations in whatever order. No program in sight. -/
import Derived.Test.YtkkcnppgcnmikaaGreatDoorFenm
import Derived.StillTail
namespace FM
open Go Go.RowKit

/-! ### what must come ahead of what -/
inductive Anc (ops : Array Oper) : Nat → Nat → Prop
  | on {t : Nat} {o : Oper} {e : Edge} (ho : ops[t]? = some o) (he : e ∈ o.after) (hb : Region.binds .any e = true) : Anc ops t e.on
  | up {t i : Nat} {o : Oper} {e : Edge} (ho : ops[t]? = some o) (he : e ∈ o.after) (hb : Region.binds .any e = true) (h : Anc ops e.on i) : Anc ops t i
def maskOf (ms : List Nat) (es : List Edge) : Nat := es.foldl (fun m e => bif Region.binds .any e then m ||| (1 <<< e.on) ||| ms.getD e.on 0 else m) 0
def masks : List Oper → List Nat → List Nat
  | [], ms => ms
  | o :: l, ms => masks l (ms ++ [maskOf ms o.after.toList])
theorem maskOf_spec {ops : Array Oper} {ms : List Nat} (hm : ∀ (t m : Nat), ms[t]? = some m → ∀ i, m.testBit i = true → Anc ops t i) {t : Nat} {o : Oper} (ho : ops[t]? = some o) : ∀ i, (maskOf ms o.after.toList).testBit i = true → Anc ops t i := by
  unfold maskOf
  suffices h : ∀ (es : List Edge) (m : Nat), (∀ e ∈ es, e ∈ o.after) → (∀ i, m.testBit i = true → Anc ops t i) → ∀ i, (es.foldl (fun m e => bif Region.binds .any e then m ||| (1 <<< e.on) ||| ms.getD e.on 0 else m) m).testBit i = true → Anc ops t i from
    h _ 0 (fun e he => by simpa using he) (fun i hi => by simp at hi)
  intro es
  induction es with
  | nil => exact fun m _ h i hi => h i hi
  | cons e es ih =>
    intro m hes hmm i hi
    refine ih _ (fun e' he' => hes e' (List.mem_cons_of_mem _ he')) (fun j hj => ?_) i hi
    cases hb : Region.binds .any e with
    | false => simp only [hb, cond_false] at hj; exact hmm j hj
    | true =>
      simp only [hb, cond_true, Nat.testBit_or, Bool.or_eq_true] at hj
      rcases hj with (hj | hj) | hj
      · exact hmm j hj
      · rw [Nat.shiftLeft_eq, Nat.one_mul, Nat.testBit_two_pow] at hj
        have : e.on = j := of_decide_eq_true hj
        subst this
        exact .on ho (hes e (List.mem_cons_self ..)) hb
      · rw [List.getD_eq_getElem?_getD] at hj
        cases hg : ms[e.on]? with
        | none => rw [hg] at hj; simp at hj
        | some mm => rw [hg] at hj; exact .up ho (hes e (List.mem_cons_self ..)) hb (hm e.on mm hg j hj)
theorem masks_spec {ops : Array Oper} : ∀ (l : List Oper) (ms : List Nat), (∀ (k : Nat) o, l[k]? = some o → ops[ms.length + k]? = some o) → (∀ (t m : Nat), ms[t]? = some m → ∀ i, m.testBit i = true → Anc ops t i) → ∀ (t m : Nat), (masks l ms)[t]? = some m → ∀ i, m.testBit i = true → Anc ops t i
  | [], ms, _, hm => hm
  | o :: l, ms, hl, hm => by
    refine masks_spec l _ (fun k o' hk => ?_) (fun t m ht => ?_)
    · have := hl (k + 1) o' (by simpa using hk)
      simpa [Nat.add_assoc, Nat.add_comm 1 k] using this
    · by_cases hlt : t < ms.length
      · rw [List.getElem?_append_left hlt] at ht; exact hm t m ht
      · rw [List.getElem?_append_right (by omega)] at ht
        have h0 : t - ms.length = 0 := by
          rcases Nat.eq_zero_or_pos (t - ms.length) with h | h
          · exact h
          · obtain ⟨k, hk⟩ : ∃ k, t - ms.length = k + 1 := ⟨t - ms.length - 1, by omega⟩
            rw [hk] at ht; simp at ht
        rw [h0] at ht
        simp only [List.getElem?_cons_zero, Option.some.injEq] at ht
        subst ht
        have hto : ops[t]? = some o := by
          have := hl 0 o rfl
          rwa [show ms.length + 0 = t by omega] at this
        exact maskOf_spec hm hto

structure Closed (ops : Array Oper) (n : Nat) (listed : Array Bool) : Prop where
  size : listed.size = ops.size
  closed : ∀ j oj, ops[j]? = some oj → listed.getD j false = true → ∀ e ∈ oj.after, Region.binds .any e = true → listed.getD e.on false = true
theorem Closed.anc {ops : Array Oper} {n : Nat} {listed : Array Bool} (h : Closed ops n listed) {t i : Nat} (ha : Anc ops t i) : (∀ o, ops[t]? = some o → ∀ e ∈ o.after, Region.binds .any e = true → listed.getD e.on false = true) → listed.getD i false = true := by
  induction ha with
  | on ho he hb => exact fun hr => hr _ ho _ he hb
  | up ho he hb _ ih => exact fun hr => ih fun o' ho' e' he' hb' => h.closed _ _ ho' (hr _ ho _ he hb) e' he' hb'
theorem Closed.set {ops : Array Oper} {n i : Nat} {listed : Array Bool} (inv : Closed ops n listed) (hi : i ∈ Region.ready .any ops listed) : Closed ops n (listed.setIfInBounds i true) := by
  obtain ⟨_, oi, hoi, hall⟩ := mem_ready.1 hi
  refine ⟨by simp [inv.size], fun j oj hj hl e he hb => ?_⟩
  by_cases hij : i = j
  · subst hij
    have : oj = oi := Option.some.inj (hj.symm.trans hoi)
    subst this
    exact getD_set_true (hall e he hb)
  · rw [getD_set_ne false hij] at hl
    exact getD_set_true (inv.closed j oj hj hl e he hb)
/-- Every operation from n on waits for all of the head. -/
def sinksB (l : List Oper) (n : Nat) : Bool := ((masks l []).drop n).all fun m => m &&& (2 ^ n - 1) == 2 ^ n - 1
theorem sinksB_spec {l : List Oper} {n : Nat} (h : sinksB l n = true) (hl : (masks l []).length = l.length) {t i : Nat} (ht : n ≤ t) (htl : t < l.length) (hi : i < n) : Anc l.toArray t i := by
  have hlt : t < (masks l []).length := by omega
  refine masks_spec (ops := l.toArray) l [] (fun k o hk => by simpa using hk) (fun t m h => by simp at h) t _ (List.getElem?_eq_getElem hlt) i ?_
  have hm := List.all_eq_true.1 h ((masks l [])[t]) (List.mem_iff_getElem?.2 ⟨t - n, by rw [List.getElem?_drop, show n + (t - n) = t by omega, List.getElem?_eq_getElem hlt]⟩)
  have hm' := eq_of_beq hm
  have : ((masks l [])[t] &&& (2 ^ n - 1)).testBit i = true := by rw [hm', Nat.testBit_two_pow_sub_one]; exact decide_eq_true hi
  rw [Nat.testBit_and, Bool.and_eq_true] at this
  exact this.1

section
variable {P : Program} {ops : Array Oper} {C : World → Prop}
def wpAnyH (P : Program) (ops : Array Oper) (C : World → Prop) (n : Nat) (L : Array Bool → Act → Prop) : Nat → Array Bool → Act → Prop
  | 0, listed, a => L listed a
  | f + 1, listed, a => Region.ready .any ops listed ≠ [] ∧ ∀ i ∈ Region.ready .any ops listed, i < n ∧ qOp P ops C i (wpAnyH P ops C n L f (listed.setIfInBounds i true)) a
theorem wpAny_of_H {n g : Nat} {L : Array Bool → Act → Prop} {Q' : Exit → Act → World → Prop} (hL : ∀ listed a w, C w → L listed a → wpAny P .any ops Q' g listed a w) :
    ∀ (f : Nat) (listed : Array Bool) (a : Act) (w : World), C w → wpAnyH P ops C n L f listed a → wpAny P .any ops Q' (f + g) listed a w
  | 0, listed, a, w, hw, h => by rw [Nat.zero_add]; exact hL _ _ w hw h
  | f + 1, listed, a, w, hw, h => by
    rw [show f + 1 + g = (f + g) + 1 by omega]
    exact ⟨fun h0 => absurd h0 h.1, fun i hi => wpOp_of_qOp hw (fun a' w' hw' h' => wpAny_of_H hL f _ a' w' hw' h') (h.2 i hi).2⟩
theorem wpAnyH_first {n i : Nat} {oi : Oper} {v : Value} {L : Array Bool → Act → Prop} (hi : ops[i]? = some oi) (hsel : ∀ (j : Nat) (o : Oper) cs b, ops[j]? = some o → o.op ≠ .select cs b)
    (hsink : ∀ t j, n ≤ t → t < ops.size → j < n → Anc ops t j) (hin : i < n) (hdone : ∀ listed a, L listed a → ∀ j ∈ Region.ready .any ops listed, n ≤ j) :
    ∀ (f : Nat) (listed : Array Bool) (a : Act), Closed ops n listed →
      (∀ j oj, ops[j]? = some oj → j ≠ i → listed.getD j true = false → (∀ e ∈ oj.after, Region.binds .any e = true → e.on ≠ i) → oi.apart ops oj = true) →
      i ∈ Region.ready .any ops listed → YieldsIn P ops C oi v a →
      wpAnyH P ops C n L f (listed.setIfInBounds i true) (a.put oi.dst v) → wpAnyH P ops C n L (f + 1) listed a := by
  have early : ∀ {listed : Array Bool}, Closed ops n listed → i ∈ Region.ready .any ops listed → ∀ j ∈ Region.ready .any ops listed, j < n := fun {listed} inv hr j hj => by
    rcases Nat.lt_or_ge j n with h | h
    · exact h
    · obtain ⟨_, oj, hoj, hall⟩ := mem_ready.1 hj
      have := inv.anc (hsink j i h (Array.getElem?_eq_some_iff.1 hoj).1 hin) (fun o ho e he hb => by
        have : o = oj := Option.some.inj (ho.symm.trans hoj)
        subst this
        exact hall e he hb)
      rw [getD_both (mem_ready.1 hr).1] at this
      cases this
  intro f
  induction f with
  | zero =>
    intro listed a inv _ hr hy H
    refine ⟨fun h => (by rw [h] at hr; cases hr), fun j hj => ⟨early inv hr j hj, ?_⟩⟩
    have hjn := early inv hr j hj
    by_cases hji : j = i
    · subst hji; exact hy.qOp hi H
    · have := hdone _ _ H j (ready_mono hj hji)
      omega
  | succ f ih =>
    intro listed a inv hfree hr hy H
    have hun := (mem_ready.1 hr).1
    refine ⟨fun h => (by rw [h] at hr; cases hr), fun j hj => ⟨early inv hr j hj, ?_⟩⟩
    by_cases hji : j = i
    · subst hji; exact hy.qOp hi H
    · have h1 := (H.2 j (ready_mono hj hji)).2
      obtain ⟨hjun, oj, hoj, hall⟩ := mem_ready.1 hj
      have hnot : ∀ e ∈ oj.after, Region.binds .any e = true → e.on ≠ i := fun e he hb heq => by
        have h1 := hall e he hb
        rw [heq, getD_both hun] at h1
        cases h1
      have h2 := qOp_put hoj (hfree j oj hoj hji hjun hnot) (fun cs b => hsel i oi cs b hi) (fun cs b => hsel j oj cs b hoj) hy h1
      have hfree' : ∀ k ok, ops[k]? = some ok → k ≠ i → (listed.setIfInBounds j true).getD k true = false →
          (∀ e ∈ ok.after, Region.binds .any e = true → e.on ≠ i) → oi.apart ops ok = true := fun k ok hk hki hun hno => by
        refine hfree k ok hk hki ?_ hno
        by_cases hjk : j = k
        · subst hjk; exact hjun
        · rw [getD_set_ne true hjk] at hun; exact hun
      refine qOp_mono (fun a' h3 => ih (listed.setIfInBounds j true) a' (inv.set hj) hfree' (ready_mono hr (Ne.symm hji)) h3.1 ?_) h2
      rw [Array.setIfInBounds_comm _ _ hji]
      exact h3.2
/-- The head in the text's order; then the listed places are these, and what may come up is of the tail. -/
def lexHeadB (ops : Array Oper) (n : Nat) (fin : List Bool) : Nat → Nat → Array Bool → Bool
  | 0, _, listed => decide (listed.toList = fin) && (Region.ready .any ops listed).all fun j => Nat.ble n j
  | f + 1, k, listed => (Region.ready .any ops listed).contains k && Region.free .any ops listed k && lexHeadB ops n fin f (k + 1) (listed.setIfInBounds k true)
def headB (l : List Oper) (n : Nat) (fin : List Bool) : Bool :=
  Region.noSelect l.toArray && Nat.ble n l.length && decide ((masks l []).length = l.length) && sinksB l n && lexHeadB l.toArray n fin n 0 (Array.replicate l.length false)
theorem wpAnyH_lex {n : Nat} {fin : List Bool} {Lq : Act → Prop} (hsel : Region.noSelect ops = true) (hsink : ∀ t j, n ≤ t → t < ops.size → j < n → Anc ops t j) :
    ∀ (l : List Oper) (k : Nat) (listed : Array Bool) (a : Act), (∀ j, j < l.length → l[j]? = ops[k + j]?) → k + l.length = n → Closed ops n listed →
    lexHeadB ops n fin l.length k listed = true → wpQuiet P ops C Lq l a →
    wpAnyH P ops C n (fun listed' a' => (listed'.toList = fin ∧ ∀ j ∈ Region.ready .any ops listed', n ≤ j) ∧ Lq a') l.length listed a
  | [], k, listed, a, _, hk, _, hB, h => by
    simp only [List.length_nil, lexHeadB, Bool.and_eq_true, decide_eq_true_eq, List.all_eq_true] at hB
    exact ⟨⟨hB.1, fun j hj => Nat.le_of_ble_eq_true (hB.2 j hj)⟩, h⟩
  | o :: l, k, listed, a, hl, hk, inv, hB, h => by
    have h0 : ops[k]? = some o := by simpa using (hl 0 (by simp)).symm
    simp only [List.length_cons, lexHeadB, Bool.and_eq_true] at hB
    obtain ⟨⟨hr, hf⟩, hB'⟩ := hB
    have hkn : k < n := by simp only [List.length_cons] at hk; omega
    have hr' : k ∈ Region.ready .any ops listed := by simpa using hr
    have hst : qOp P ops C k (wpQuiet P ops C Lq l) a := by unfold qOp; simp only [h0]; exact h
    obtain ⟨v, hy, hK⟩ := yieldsIn_of_qOp h0 hst
    exact wpAnyH_first h0 (Region.noSelect_spec hsel) hsink hkn (fun listed' a' hL => hL.1.2) l.length listed a inv (Region.free_spec h0 hf) hr' hy
      (wpAnyH_lex hsel hsink l (k + 1) _ _ (fun j hj => by have := hl (j + 1) (by simp; omega); simpa [Nat.add_assoc, Nat.add_comm 1 j] using this) (by simp only [List.length_cons] at hk; omega) (inv.set hr') hB' hK)
theorem wp_region_head {id : Nat} {Q : Exit → Act → World → Prop} {a : Act} {w : World} {l : List Oper} (n : Nat) (fin : List Bool) (hm : P.follows .mixedOrders = true) (hB : headB l n fin = true) (hC : C { w with drawn := w.drawn + 1 })
    (h : wpQuiet P l.toArray C (fun a' => ∀ w', C w' → wpAny P .any l.toArray Q (l.length - n) fin.toArray a' w') (l.take n) a) : (Code.region id l.toArray true).wp P Q a w := by
  simp only [headB, Bool.and_eq_true, decide_eq_true_eq] at hB
  obtain ⟨⟨⟨⟨hsel, hn⟩, hlen⟩, hs⟩, hlex⟩ := hB
  have hn' : n ≤ l.length := Nat.le_of_ble_eq_true hn
  have htl : (l.take n).length = n := by simp; omega
  have inv0 : Closed l.toArray n (Array.replicate l.length false) :=
    ⟨by simp, fun j oj _ hl => (by rw [getD_replicate_false] at hl; cases hl)⟩
  have H := wpAnyH_lex (C := C) (fin := fin) hsel (fun t j ht htl hj => sinksB_spec hs hlen ht (by simpa using htl) hj) (l.take n) 0 _ a (fun j hj => by
    have hj' : j < n := by rw [htl] at hj; exact hj
    simp [hj']) (by simpa using htl) inv0 (by rw [htl]; exact hlex) h
  refine wp_region_any hm ?_
  have := wpAny_of_H (Q' := Q) (g := l.length - n) (fun listed a' w' hw' hL => by
    have := hL.2 w' hw'
    rw [← hL.1.1] at this
    simpa using this) _ _ _ _ hC H
  rw [htl, show n + (l.length - n) = l.toArray.size by simp; omega] at this
  exact this
end

/-! ### whatever order, from here on -/
@[irreducible] def JA (S : Sys) (N : Nat) (ops : Array Oper) (fuel : Nat) (listed : List Bool) (K : St → Prop) (σ : St) : Prop :=
  dstOk S N ops.toList = true → ∀ (w0 : World) (L0 : Nat → Lab) (Q : Exit → Act → World → Prop) (a : Act) (w : World), (∀ c a w, ¬ Q (.panic c) a w) →
    (∀ σ' a' w', K σ' → Rel S w0 L0 N σ' a' w' → Q .normal a' w') → Rel S w0 L0 N σ a w → wpAny S.P .any ops Q fuel listed.toArray a w
def readyL (ops : List Oper) (listed : List Bool) : List Nat :=
  (List.range ops.length).filter fun i => !listed.getD i true && ((ops[i]?).map (·.after.toList.all fun e => !Region.binds .any e || listed.getD e.on false)).getD false
theorem readyL_eq (l : List Oper) (listed : List Bool) : Region.ready .any l.toArray listed.toArray = readyL l listed := by
  unfold Region.ready readyL
  simp

section
variable {S : Sys} {N : Nat} {σ : St} {K : St → Prop} {l : List Oper} {listed : List Bool} {fuel : Nat}
theorem JA.done (hr : (readyL l listed).isEmpty = true) (h : K σ) : JA S N l.toArray fuel listed K σ := by
  unfold JA
  intro _ w0 L0 Q a w _ hQ hR
  exact wpAny_done (by rw [readyL_eq]; simpa using hr) (hQ σ a w h hR) fuel
theorem dstOk_mem {o : Oper} (h : dstOk S N l = true) (ho : o ∈ l) : dstOk S N [o] = true := by
  simp only [dstOk, List.all_cons, List.all_nil, Bool.and_true]
  exact List.all_eq_true.1 h o ho
theorem JA.op {i : Nat} {o : Oper} (ho : l[i]? = some o) (h : J false S N l.toArray [o] (JA S N l.toArray fuel (listed.set i true) K) σ) (hd : dstOk S N l = true) {w0 : World} {L0 : Nat → Lab} {Q : Exit → Act → World → Prop} {a : Act} {w : World} (hp : ∀ c a w, ¬ Q (.panic c) a w)
    (hQ : ∀ σ' a' w', K σ' → Rel S w0 L0 N σ' a' w' → Q .normal a' w') (hR : Rel S w0 L0 N σ a w) : wpOp S.P l.toArray Q i (wpAny S.P .any l.toArray Q fuel (listed.toArray.setIfInBounds i true)) a w := by
  unfold J at h
  have h1 := h (dstOk_mem hd (List.mem_of_getElem? ho)) w0 L0 (fun e a w => match e with
    | .normal => wpAny S.P .any l.toArray Q fuel (listed.set i true).toArray a w
    | e => Q e a w) a w (fun σ' a' w' hK hR' => by
      unfold JA at hK
      exact hK hd w0 L0 Q a' w' hp hQ hR') hR
  unfold wpOp
  have ho' : l.toArray[i]? = some o := by simpa using ho
  simp only [ho']
  have e : listed.toArray.setIfInBounds i true = (listed.set i true).toArray := by simp
  rw [e]
  unfold wpList at h1
  exact h1
/-- Each that may come up comes up. -/
theorem JA.all (rs : List Nat) (hr : readyL l listed = rs) (hne : rs.isEmpty = false) (h : ∀ i ∈ rs, ∃ o, l[i]? = some o ∧ J false S N l.toArray [o] (JA S N l.toArray fuel (listed.set i true) K) σ) : JA S N l.toArray (fuel + 1) listed K σ := by
  unfold JA
  intro hd w0 L0 Q a w hp hQ hR
  have hd' : dstOk S N l = true := by simpa using hd
  refine wpAny_all (rs := rs) (by rw [readyL_eq]; exact hr) (fun e => by subst e; cases hne) fun i hi => ?_
  obtain ⟨o, ho, hj⟩ := h i hi
  exact JA.op ho hj hd' hp hQ hR
theorem JA.one {i : Nat} {o : Oper} (hr : readyL l listed = [i]) (ho : l[i]? = some o) (h : J false S N l.toArray [o] (JA S N l.toArray fuel (listed.set i true) K) σ) : JA S N l.toArray (fuel + 1) listed K σ :=
  .all [i] hr rfl fun j hj => by simp only [List.mem_singleton] at hj; subst hj; exact ⟨o, ho, h⟩
theorem JA.two {i j : Nat} {o o' : Oper} (hr : readyL l listed = [i, j]) (ho : l[i]? = some o) (ho' : l[j]? = some o') (h : J false S N l.toArray [o] (JA S N l.toArray fuel (listed.set i true) K) σ) (h' : J false S N l.toArray [o'] (JA S N l.toArray fuel (listed.set j true) K) σ) : JA S N l.toArray (fuel + 1) listed K σ :=
  .all [i, j] hr rfl fun k hk => by
    simp only [List.mem_cons, List.not_mem_nil, or_false] at hk
    rcases hk with rfl | rfl
    · exact ⟨o, ho, h⟩
    · exact ⟨o', ho', h'⟩
/-- A copy may be taken first. -/
theorem JA.take {σ' : St} {i : Nat} {o : Oper} {x : Operand} (ho : l[i]? = some o) (hx : o.op = .move x ∨ o.op = .assign x) (hg : o.guard = none) (hB : (Region.noSelect l.toArray && Region.free .any l.toArray listed.toArray i && (readyL l listed).contains i) = true) (hs : Step S o σ σ') (h : JA S N l.toArray fuel (listed.set i true) K σ') :
    JA S N l.toArray (fuel + 1) listed K σ := by
  unfold JA at h ⊢
  intro hdo w0 L0 Q a w hp hQ hR
  simp only [Bool.and_eq_true] at hB
  have hd1 := (dstOk_cons (dstOk_mem (by simpa using hdo) (List.mem_of_getElem? ho))).1
  obtain ⟨v, hv, hR'⟩ := hs w0 L0 N a w hd1 hR
  have hrun : ∀ w, (execOp a.eval o).run S.P w = .ok (.value (a.eval x)) w := fun w => by rcases hx with hx | hx <;> simp [execOp, hx]
  have hv' : a.eval x = v := by
    have := hv w (Ext.refl w)
    rw [hrun] at this
    cases this; rfl
  have h1 := h hdo w0 L0 Q _ w hp hQ hR'
  refine wpAny_take (by simpa using ho) hB.1.1 hB.1.2 (by rw [readyL_eq]; exact hB.2) (fun c a w h => absurd h (hp c _ w)) (.inl ⟨by unfold Region.wanted; rw [hg], fun w => by rw [hrun, hv']⟩) ?_
  have e : listed.toArray.setIfInBounds i true = (listed.set i true).toArray := by simp
  rw [e]
  exact h1
/-- A region that draws its order: a head of n operations that only read, then the rest in whatever order. -/
theorem CW.regT {id : Nat} {Q : Exit → St → Prop} (n : Nat) (fin : List Bool) (hB : headB l n fin = true) (hd : dstOk S N l = true) (h : J true S N l.toArray (l.take n) (JA S N l.toArray (l.length - n) fin (Q .normal)) σ) : CW S N (.region id l.toArray true) Q σ := by
  unfold CW
  unfold J at h
  intro w0 L0 Q' a w hQ hR
  refine Code.wp_mono (Q := fun e a w => match e with | .panic _ => False | e => Q' e a w) (fun e a w he => ?_) ?_
  · cases e <;> first | exact he | cases he
  refine wp_region_head (C := Ext w) n fin S.mixed hB ⟨rfl, rfl, rfl, Nat.le_refl _, fun _ _ => rfl⟩ ?_
  refine h (by unfold dstOk at *; rw [List.all_eq_true] at *; exact fun o ho => hd o (List.mem_of_mem_take ho)) w0 L0 _ a w (fun σ' a' hK hR' w' hw' => ?_) hR
  unfold JA at hK
  exact hK (by simpa using hd) w0 L0 _ a' w' (fun c a w h => h) (fun σ' a' w' hk hr => hQ _ _ _ _ hk hr) (hR'.ext hw')
theorem JA.seq {k : Nat} {g : Nat} (hg : (l.drop k).length = g) (hB : Region.seqB .any l.toArray g k listed.toArray = true) (h : J false S N l.toArray (l.drop k) K σ) : JA S N l.toArray g listed K σ := by
  unfold JA
  unfold J at h
  intro hd w0 L0 Q a w _ hQ hR
  subst hg
  refine wpAny_of_seq (md := .any) (l.drop k) k listed.toArray a w (fun j => by simp [List.getElem?_drop]) hB ?_
  exact h (by unfold dstOk at *; rw [List.all_eq_true] at *; exact fun o ho => hd o (by simpa using List.mem_of_mem_drop ho)) w0 L0 Q a w hQ hR
def finOf (l : List Oper) (n : Nat) : List Bool := List.replicate n true ++ List.replicate (l.length - n) false
/-- .. where the rest has one order. -/
theorem CW.regS {id : Nat} {Q : Exit → St → Prop} (m : Nat) (hB : (headB l (l.length - m) (finOf l (l.length - m)) && Region.seqB .any l.toArray (l.length - (l.length - m)) (l.length - m) (finOf l (l.length - m)).toArray) = true) (hd : dstOk S N l = true)
    (h : J true S N l.toArray (l.take (l.length - m)) (J false S N l.toArray (l.drop (l.length - m)) (Q .normal)) σ) : CW S N (.region id l.toArray true) Q σ := by
  rw [Bool.and_eq_true] at hB
  refine CW.regT (l.length - m) (finOf l (l.length - m)) hB.1 hd ?_
  have : ∀ σ', J false S N l.toArray (l.drop (l.length - m)) (Q .normal) σ' → JA S N l.toArray (l.length - (l.length - m)) (finOf l (l.length - m)) (Q .normal) σ' := fun σ' h' => JA.seq (by simp) hB.2 h'
  unfold J at h ⊢
  exact fun hd w0 L0 Q a w hQ hR => h hd w0 L0 Q a w (fun σ' a' hK hR' => hQ σ' a' (this σ' (by unfold J; exact hK)) hR') hR
/-- .. all of it in whatever order. -/
theorem CW.reg0 {id : Nat} {Q : Exit → St → Prop} (gg : Nat) (hg : l.length = gg) (fin : List Bool) (hB : headB l 0 fin = true) (hd : dstOk S N l = true) (h : JA S N l.toArray gg fin (Q .normal) σ) : CW S N (.region id l.toArray true) Q σ := by
  subst hg
  exact CW.regT 0 fin hB hd (J.nil h)
/-- What is known behind a piece of code, written down. -/
theorem CW.cut {Q : Exit → St → Prop} {c y : Code} (I : List (Nat × TV)) (h1 : CW S N c (fun e σ' => e = .normal ∧ Has σ' I) σ) (h2 : CW S N y Q (ofL I)) : CW S N c (thenQ (CW S N y Q) Q) σ :=
  h1.mono fun e σ' ⟨he, hI⟩ => by subst he; exact CW.has I hI h2
end
end FM

/- Function values: what one does, calls of one, closures. No program in sight. -/
namespace FM
open Go Go.RowKit
set_option linter.unusedVariables false
/-- A later world, in which the blocks of B are as they were. -/
structure ExtB (B : Nat → Prop) (w w' : World) : Prop where
  os : w'.os = w.os
  tape : w'.tape = w.tape
  output : w'.output = w.output
  size : w.heap.size ≤ w'.heap.size
  block : ∀ b, b < w.heap.size → B b → w'.heap[b]? = w.heap[b]?
/-- Handed what reads as 'as' (of which 'dom' holds) the function value returns the plain value 'r as', and turns nothing. -/
def BehA (P : Program) (dom : List AV → Prop) (r : List AV → AV) : Beh := ⟨fun wE B v => ∃ f cap, v = .func (.func f) #[] cap ∧ FnOk P f ∧ ∀ (w : World) (xs9 : List AV) (vs : List Value), dom xs9 →
  ExtB B wE w → Glob (fun _ => .sh) w → vs.length = xs9.length →
  (∀ (i : Nat) x u, xs9[i]? = some x → vs[i]? = some u → Rep (fun _ => .sh) w none x u) → Calls P f (vs.toArray ++ cap) w fun e w' => e = .returned (r xs9).toV ∧ Ext w w'⟩

theorem beh_of_spec {P : Program} {dom : List AV → Prop} {r : List AV → AV} {f : Nat} (hf : FnOk P f) (hs : ∀ xs9, dom xs9 → FnSpec P f xs9 xs9 (r xs9)) (hr : ∀ xs9, dom xs9 → (r xs9).flatPlain = true) (w : World) (B : Nat → Prop) : (BehA P dom r).holds w B (.func (.func f) #[] #[]) := by
  refine ⟨f, #[], rfl, hf, fun w xs9 vs hd _ hgl hl hrep => ?_⟩
  have := (hs xs9 hd).calls w (fun _ => .sh) vs hl (pre_none (fun _ _ h => by cases h) (fun _ _ h => by cases h) hgl) (fun i x v hx hv => (hrep i x v hx hv).any _)
  simp only [Array.append_empty]
  refine this.mono fun e w' ⟨v, L', he, hB⟩ => ?_
  subst he
  have h1 := hr xs9 hd
  have hv : v = (r xs9).toV := by
    have h2 := hB.res
    generalize r xs9 = y at *
    cases h2 <;> first | rfl | (simp [AV.flatPlain] at h1)
  subst hv
  exact ⟨rfl, ⟨hB.keep.os, hB.keep.tape, hB.keep.output, hB.keep.size, fun b hb => hB.keep.block b hb (fun p h => by cases h)⟩⟩

section
variable {S : Sys} {N : Nat} {σ : St}
theorem run_callF {P : Program} {f : Nat} {cap : Array Value} (hf : FnOk P f) {ρ : Operand → Value} {t : Operand} {xs : List Operand} {ts : Array Nat} {o : Oper} (ho : o.op = .call ⟨.value t, xs.toArray, ts⟩) (hρ : ρ t = .func (.func f) #[] cap) (w : World) :
    (execOp ρ o).run P w = .ok (.enter f ((xs.map ρ).toArray ++ cap)) w := by
  obtain ⟨fn, h1, h2, h3⟩ := hf.out
  simp only [execOp, ho, resolve, hρ, Deferred.ofValue, Sem.run_bind, Sem.run_pure, Result.andThen_ok, invoke, callFunc, run_program, h1, h2, h3]
  simp

theorem callF_core {dom : List AV → Prop} {r : List AV → AV} {xs9 : List AV} {t : Operand} {xs : List Operand} {b : Bool} (ht : ov σ t = .av (.fn (BehA S.P dom r))) (hd : dom xs9) (ha : ArgsOk S N σ xs b xs9) {w0 : World} {L0 : Nat → Lab} {a : Act} {w : World} (hR : Rel S w0 L0 N σ a w) :
    ∃ f cap, a.eval t = .func (.func f) #[] cap ∧ FnOk S.P f ∧ Calls S.P f ((xs.map a.eval).toArray ++ cap) w fun e w' => e = .returned (r xs9).toV ∧ Ext w w' := by
  obtain ⟨L, hR⟩ := hR
  obtain ⟨n, hn⟩ := ev_av hR ht
  generalize a.eval t = v at hn
  cases hn with
  | @fn _ _ _ wE _ h hs ho ht' hu hb =>
    obtain ⟨f, cap, h1, h2, h3⟩ := h
    refine ⟨f, cap, h1, h2, h3 w xs9 _ hd ⟨ho, ht', hu, hs, fun b hb' hB => (hb b hb' hB).2⟩ hR.globNow.all (by rw [List.length_map, ha.length]) fun i x v hx hv => ?_⟩
    simp only [List.getElem?_map, Option.map_eq_some_iff] at hv
    obtain ⟨y, hy, rfl⟩ := hv
    obtain ⟨c, hc, _⟩ := ha.get i y x hy hx
    exact hc.readN hR

variable {dom : List AV → Prop} {r : List AV → AV} {xs9 : List AV} {t : Operand} {xs : List Operand} {b : Bool} {y : AV} {P : Program} {ops : Array Oper} {l : List Oper} {K : St → Prop} {d ty : Nat} {ts : Array Nat} {pos : String} {aft : Array Edge} {g : Option (Nat × Bool)}
theorem put_flat {w0 : World} {L0 : Nat → Lab} {a : Act} {w : World} (hR : Rel S w0 L0 N σ a w) (hd : DOk S N d) (hr : y.flatPlain = true) : Rel S w0 L0 N (σ.put d (.av y)) (a.put (some d) y.toV) w := by
  obtain ⟨L, hR⟩ := hR
  refine Rel.putPlain (n := d) hR hd ?_ rfl (toV_rep hr)
  cases y <;> first | rfl | (simp [AV.flatPlain] at hr)
/-- A call of a function value. -/
theorem J.callF (xs9 : List AV) (ht : ov σ t = .av (.fn (BehA P dom r))) (hP : P = S.P) (hg : live ops g σ = some true) (hd : dom xs9) (ha : ArgsOk S N σ xs b xs9) (hy : r xs9 = y) (hr : y.flatPlain = true) (h : J false S N ops l K (σ.put d (.av y))) :
    J false S N ops (⟨some d, .call ⟨.value t, xs.toArray, ts⟩, ty, pos, aft, g⟩ :: l) K σ := by
  subst hP; subst hy
  unfold J at *
  intro hdo w0 L0 Q a w hQ hR
  obtain ⟨h1, h2⟩ := dstOk_cons hdo
  have hw := live_wanted (o := ⟨some d, .call ⟨.value t, xs.toArray, ts⟩, ty, pos, aft, g⟩) hg hR
  simp only [wpList, hw, if_true]
  refine .inl ?_
  obtain ⟨f, cap, e1, hf, hc⟩ := callF_core ht hd ha hR
  unfold Oper.wp
  rw [run_callF hf rfl e1 w, Oper.upon_enter]
  refine hc.mono fun e w' ⟨he, hx⟩ => ?_
  subst he
  exact h h2 w0 L0 Q _ w' hQ (put_flat (hR.ext hx) (h1 d rfl) hr)
theorem J.callFQ (xs9 : List AV) (ht : ov σ t = .av (.fn (BehA P dom r))) (hP : P = S.P) (hg : live ops g σ = some true) (hd : dom xs9) (ha : ArgsOk S N σ xs b xs9) (hy : r xs9 = y) (hr : y.flatPlain = true) (h : J true S N ops l K (σ.put d (.av y))) :
    J true S N ops (⟨some d, .call ⟨.value t, xs.toArray, ts⟩, ty, pos, aft, g⟩ :: l) K σ := by
  subst hP; subst hy
  unfold J at *
  intro hdo w0 L0 Q a w hQ hR
  obtain ⟨h1, h2⟩ := dstOk_cons hdo
  have hw := live_wanted (o := ⟨some d, .call ⟨.value t, xs.toArray, ts⟩, ty, pos, aft, g⟩) hg hR
  simp only [wpQuiet, hw, if_true]
  refine ⟨(r xs9).toV, fun w' hw' => ?_, h h2 w0 L0 Q _ w hQ (put_flat hR (h1 d rfl) hr)⟩
  unfold Oper.quietAt
  obtain ⟨f, cap, e1, hf, hc⟩ := callF_core ht hd ha (hR.ext hw')
  rw [run_callF hf rfl e1 w']
  exact ⟨rfl, hc.mono fun e w'' ⟨he, hx⟩ => ⟨he, hw'.trans hx⟩⟩
/-- A function of the program, handed as a value. -/
theorem ArgOk.func {f : Nat} (hP : P = S.P) (hf : FnOk P f) (hs : ∀ xs9, dom xs9 → FnSpec P f xs9 xs9 (r xs9)) (hr : ∀ xs9, dom xs9 → (r xs9).flatPlain = true) : ArgOk S N σ (.func f) true (.fn (BehA P dom r)) := by
  subst hP
  exact .fn fun w0 L0 a w _ => beh_of_spec hf hs hr w _

/-! ### closures -/
theorem s_mkf {f : Nat} {caps : List Nat} (hc : caps.all (fun s => !Nat.beq s d) = true) (hg : caps.all (fun s => match get σ s with | .none => false | _ => true) = true) : Step S ⟨some d, .makeFunc (.func f) #[] (caps.map Operand.tmp).toArray, ty, pos, aft, g⟩ σ (σ.put d (.clo f caps)) := by
  intro w0 L0 N a w hN ⟨L, h⟩
  refine ⟨.func (.func f) #[] ((caps.map Operand.tmp).toArray.map a.eval), fun w' _ => by simp [execOp, Instr.makeFunc], _, h.put (hN d rfl) ?_⟩
  simp only [Hold]
  congr 1
  rw [List.map_toArray, List.map_map]
  congr 1
  refine List.map_congr_left fun s hs => ?_
  have := List.all_eq_true.1 hc s hs
  simp only [Bool.not_eq_true'] at this
  simp only [Function.comp, Act.eval]
  rw [getD_set_other (fun e => of_not_beq this e.symm)]
/-- What the closure captured, as a callee reads it. -/
inductive CapsOk (σ : St) : List Nat → List AV → Prop
  | nil : CapsOk σ [] []
  | cons {s ss x z zs} (h : get σ s = .av x) (hz : x.sh = z) (r : CapsOk σ ss zs) : CapsOk σ (s :: ss) (z :: zs)
theorem CapsOk.length {ss : List Nat} {zs : List AV} (h : CapsOk σ ss zs) : ss.length = zs.length := by induction h <;> simp_all
theorem CapsOk.rep {ss : List Nat} {zs : List AV} (h : CapsOk σ ss zs) {w0 : World} {L0 : Nat → Lab} {a : Act} {w : World} {L : Nat → Lab} (hR : RelL S w0 L0 N σ a w L) : ∀ (i : Nat) z v, zs[i]? = some z → (ss.map fun s => a.tmps.getD s undef)[i]? = some v → Rep (fun _ => .sh) w none z v := by
  induction h with
  | nil => intro i z v hz; simp at hz
  | @cons s ss x z zs h hz r ih =>
    intro i z' v hz' hv
    cases i with
    | zero =>
      simp only [List.getElem?_cons_zero, Option.some.injEq, List.map_cons] at hz' hv
      subst hz'; subst hv; subst hz
      have hh := hR.hold s (own_lt hR h (by simp))
      rw [h] at hh
      exact Rep.toSh (fun _ _ _ => rfl) hh (fun _ _ _ _ _ => rfl)
    | succ i => exact ih i z' v (by simpa using hz') (by simpa using hv)
theorem ArgOk.clo {f t : Nat} {caps : List Nat} {zs : List AV} (hP : P = S.P) (ht : get σ t = .clo f caps) (hc : CapsOk σ caps zs) (hf : FnOk P f) (hs : ∀ xs9, dom xs9 → FnSpec P f (xs9 ++ zs) (xs9 ++ zs) (r xs9)) (hr : ∀ xs9, dom xs9 → (r xs9).flatPlain = true) : ArgOk S N σ (.tmp t) true (.fn (BehA P dom r)) := by
  subst hP
  refine .fn fun w0 L0 a w ⟨L, hR⟩ => ?_
  have hh := hR.hold t (own_lt hR ht (by simp))
  rw [ht] at hh
  simp only [Hold] at hh
  refine ⟨f, _, hh, hf, fun w' xs9 vs hd hx hgl hl hrep => ?_⟩
  have hcl : (caps.map fun s => a.tmps.getD s undef).length = zs.length := by rw [List.length_map, hc.length]
  have := (hs xs9 hd).calls w' (fun _ => .sh) (vs ++ caps.map fun s => a.tmps.getD s undef) (by rw [List.length_append, List.length_append, hl, hcl]) (pre_none (fun _ _ h => by cases h) (fun _ _ h => by cases h) hgl) (fun i x v hx' hv => by
    refine Rep.any ?_ _
    by_cases hi : i < xs9.length
    · rw [List.getElem?_append_left hi] at hx'
      rw [List.getElem?_append_left (by omega)] at hv
      exact hrep i x v hx' hv
    · rw [List.getElem?_append_right (by omega)] at hx'
      rw [List.getElem?_append_right (by omega), hl] at hv
      exact (hc.rep hR _ x v hx' hv).frame hx.size hx.os hx.tape hx.output (fun b _ hb => ⟨rfl, hx.block b hb trivial⟩) none (fun p hp => by cases hp))
  have e : vs.toArray ++ (caps.map fun s => a.tmps.getD s undef).toArray = (vs ++ caps.map fun s => a.tmps.getD s undef).toArray := by simp
  rw [e]
  refine this.mono fun e w'' ⟨v, L', he, hB⟩ => ?_
  subst he
  have h1 := hr xs9 hd
  have hv : v = (r xs9).toV := by
    have h2 := hB.res
    generalize r xs9 = y at *
    cases h2 <;> first | rfl | (simp [AV.flatPlain] at h1)
  subst hv
  exact ⟨rfl, ⟨hB.keep.os, hB.keep.tape, hB.keep.output, hB.keep.size, fun b hb => hB.keep.block b hb (fun p h => by cases h)⟩⟩
end
end FM

/- More operations: parts of slices, bits, pointers to variables. No program in sight. -/
namespace FM
open Go Go.RowKit
set_option linter.unusedVariables false
set_option linter.unusedSimpArgs false
section
variable {S : Sys} {σ : St} {d ty : Nat} {pos : String} {aft : Array Edge} {g : Option (Nat × Bool)}
/-- The address of an element of a slice that the operand's own slot holds. -/
theorem s_ixaD {t e c sz by_ : Nat} {z : List AV} {ti : TI} {i : Operand} {s : Nat} {xs : List AV} {n : Int} {y : AV} (hs : get σ s = .av (.sl true c xs)) (hi : ov σ i = .av (.int n)) (hT : S.T t = some ⟨.slice e, sz, by_, z⟩) (hE : S.T e = some ti) (hc : ti.size = c)
    (h0 : 0 ≤ n) (hy : xs[n.toNat]? = some y) (hsd : Nat.beq s d = false) : Step S ⟨some d, .indexAddr t (.tmp s) i, ty, pos, aft, g⟩ σ (σ.put d (.ptr s n.toNat c y)) := by
  intro w0 L0 N a w hN ⟨L, hR⟩
  have hh := hR.hold s (own_lt hR hs (by simp))
  rw [hs] at hh
  obtain ⟨b, off, cap, hv, hb, hlt, ⟨h, _⟩ | ⟨_, rfl, p, hp, hL, hcs⟩⟩ := elem_cells hh hy
  · cases h
  · cases hp
    refine ⟨.pointer (some ⟨b, 0 + n.toNat * c, none⟩), fun w' _ => ?_, Rel.putPlain (n := d) hR (hN d rfl) rfl hsd ⟨b, hL, by rw [Nat.zero_add], fun _ j z hz => ?_⟩⟩
    · subst hc
      have hv' : a.eval (.tmp s) = .slice (some ⟨b, 0, none⟩) xs.length cap := hv
      simp only [execOp, hv', ev_int hR hi, Sem.run_bind, run_indexAt (S.ok t _ hT).slice (S.ok e _ hE).size h0 hlt]
      rfl
    · have := hcs j z hz
      rwa [Nat.zero_add] at this

/-! ### parts of slices -/
def bound (σ : St) (dflt : Nat) : Option Operand → Option Nat
  | none => some dflt
  | some x => match ov σ x with
    | .av (.int n) => bif decide (0 ≤ n) then some n.toNat else none
    | _ => none
theorem flat_take_drop {c : Nat} : ∀ {xs : List AV}, (∀ x ∈ xs, x.cells.length = c) → ∀ (l h : Nat), ∀ (o : Nat) y, (flat ((xs.take h).drop l))[o]? = some y → (flat xs)[l * c + o]? = some y := by
  intro xs hc l h o y hy
  have hc' : ∀ x ∈ (xs.take h).drop l, x.cells.length = c := fun x hx => hc x (List.mem_of_mem_take (List.mem_of_mem_drop hx))
  obtain ⟨i, j, x, h1, h2, h3, _⟩ := flat_split hc' hy
  rw [List.getElem?_drop, List.getElem?_take] at h1
  split at h1
  · have := flat_get hc h1 h2
    rw [h3, ← Nat.add_assoc, ← Nat.add_mul]; exact this
  · cases h1
theorem slice_core {P : Program} {t e c : Nat} (ht : P.underlying t = some (.slice e)) (hsz : ∃ f, P.info? e = some f ∧ f.size = c) {L : Nat → Lab} {w : World} {xs : List AV} {v : Value} (h : Rep L w none (.sl false c xs) v) {lo hi : Option Value} {l u : Nat}
    (hlo : (lo = none ∧ l = 0) ∨ lo = some (.int .i64 (l : Nat))) (hhi : (hi = none ∧ u = xs.length) ∨ hi = some (.int .i64 (u : Nat))) (hlu : l ≤ u) (hu : u ≤ xs.length) :
    ∃ v', (∀ w', (Instr.sliceAt t v lo hi none).run P w' = .ok v' w') ∧ Rep L w none (.sl false c ((xs.take u).drop l)) v' := by
  obtain ⟨f, hf, rfl⟩ := hsz
  have run : ∀ (a : Option Addr) (cap : Nat), xs.length ≤ cap → ∀ w', (Instr.sliceAt t (.slice a xs.length cap) lo hi none).run P w' = .ok (.slice (if cap = l then a else a.map (·.add (l * f.size))) (u - l) (cap - l)) w' := by
    intro a cap hcap w'
    have e1 : ∀ (x : Nat) (y : Nat) (code : BoundsCode), x ≤ y → (Instr.sliceBound (.int .i64 (x : Nat)) y code).run P w' = .ok x w' := fun x y code hxy => by
      have : (0 : Int) ≤ (x : Int) ∧ (x : Int) ≤ (y : Int) := by omega
      simp [Instr.sliceBound, asIntOf, this, hxy]
    have hb : (Instr.sliceBounds true xs.length cap lo hi none).run P w' = .ok (l, u, cap) w' := by
      rcases hlo with ⟨rfl, rfl⟩ | rfl <;> rcases hhi with ⟨rfl, rfl⟩ | rfl
      · simp [Instr.sliceBounds]
      · simp [Instr.sliceBounds, e1 u cap .sliceAcap (by omega)]
      · simp [Instr.sliceBounds, e1 l xs.length .sliceB hlu]
      · simp [Instr.sliceBounds, e1 u cap .sliceAcap (by omega), e1 l u .sliceB hlu]
    simp [Instr.sliceAt, Instr.slice, run_underlying ht, hb, Go.sizeOf, typeInfo, hf]
  have hlen : ((xs.take u).drop l).length = u - l := by rw [List.length_drop, List.length_take]; omega
  cases h with
  | @slE _ _ _ a cap _ =>
    have hl0 : l = 0 := by simp at hu; omega
    have hu0 : u = 0 := by simpa using hu
    refine ⟨_, run a cap (by simp), ?_⟩
    subst hl0; subst hu0
    simp only [List.take_nil, List.drop_nil]
    exact .slE (by simp)
  | @slS _ c xs b off cap uu hcap hL hb hc hcell hr =>
    refine ⟨_, run _ cap hcap, ?_⟩
    by_cases hul : u = l
    · subst hul
      have : (xs.take u).drop u = [] := List.drop_eq_nil_of_le (by rw [List.length_take]; omega)
      rw [this, Nat.sub_self]
      exact .slE (by simp)
    · have hcl : ¬ cap = l := by omega
      rw [if_neg hcl]
      simp only [Option.map_some, addr_add]
      rw [← hlen]
      refine .slS (fun o => uu (l * f.size + o)) (by omega) hL hb (fun x hx => hc x (List.mem_of_mem_take (List.mem_of_mem_drop hx))) (fun o ho => ?_) (fun o y hy => hr _ y (flat_take_drop hc l u o y hy))
      rw [Nat.add_assoc]
      refine hcell _ ?_
      rw [hlen] at ho
      have : (l + (u - l)) * f.size ≤ xs.length * f.size := Nat.mul_le_mul_right _ (by omega)
      rw [Nat.add_mul] at this
      omega
theorem bound_ev {N : Nat} {w0 : World} {L0 : Nat → Lab} {a : Act} {w : World} {L : Nat → Lab} (hR : RelL S w0 L0 N σ a w L) {dflt l : Nat} {o : Option Operand} (h : bound σ dflt o = some l) : (o.map a.eval = none ∧ l = dflt) ∨ o.map a.eval = some (.int .i64 (l : Nat)) := by
  cases o with
  | none => simp only [bound, Option.some.injEq] at h; exact .inl ⟨rfl, h.symm⟩
  | some x =>
    simp only [bound] at h
    split at h
    · rename_i n hx
      cases hn : decide (0 ≤ n) with
      | false => rw [hn] at h; cases h
      | true =>
        rw [hn, cond_true] at h
        injection h with h
        right
        have := of_decide_eq_true hn
        simp only [Option.map_some, ev_int hR hx]
        congr 2
        omega
    · cases h
theorem ovb {x : Operand} {n : Int} (hx : ov σ x = .av (.int n)) (h0 : 0 ≤ n) {k : Nat} : bound σ k (some x) = some n.toNat := by
  simp only [bound, hx, decide_eq_true h0, cond_true]
/-- s[lo:hi] of what is shared. -/
theorem s_slcS {t e c sz by_ : Nat} {z : List AV} {ti : TI} {x : Operand} {lo hi : Option Operand} {xs : List AV} {l u : Nat} (hx : ov σ x = .av (.sl false c xs)) (hT : S.T t = some ⟨.slice e, sz, by_, z⟩) (hE : S.T e = some ti) (hc : ti.size = c)
    (hl : bound σ 0 lo = some l) (hu : bound σ xs.length hi = some u) (h1 : l ≤ u) (h2 : u ≤ xs.length) : Step S ⟨some d, .slice t x lo hi none, ty, pos, aft, g⟩ σ (σ.put d (.av (.sl false c ((xs.take u).drop l)))) :=
  step_val rfl fun w0 L0 N a w L hR => by
    obtain ⟨m, hm⟩ := ev_av hR hx
    obtain ⟨v', hv, hr⟩ := slice_core (S.ok t _ hT).slice (by subst hc; exact (S.ok e _ hE).size) (Rep.replace (π' := none) hm rfl) (bound_ev hR hl) (bound_ev hR hu) h1 h2
    exact ⟨v', fun w' _ => by simp only [execOp, Option.map_none, Sem.run_bind, hv w', Result.andThen_ok, Sem.run_pure], hr⟩
theorem s_slcR {t e c sz by_ : Nat} {z : List AV} {ti : TI} {x : Operand} {lo hi : Option Operand} {s : Nat} {y : AV} {xs : List AV} {l u : Nat} (hx : ov σ x = .ref s) (hs : get σ s = .av y) (hy : y.sh = .sl false c xs) (hT : S.T t = some ⟨.slice e, sz, by_, z⟩) (hE : S.T e = some ti) (hc : ti.size = c)
    (hl : bound σ 0 lo = some l) (hu : bound σ xs.length hi = some u) (h1 : l ≤ u) (h2 : u ≤ xs.length) (hsd : Nat.beq s d = false) : Step S ⟨some d, .slice t x lo hi none, ty, pos, aft, g⟩ σ (σ.put d (.bor s (.sl false c ((xs.take u).drop l)))) := by
  intro w0 L0 N a w hN ⟨L, hR⟩
  obtain ⟨m, hm, _⟩ := hold_plain hR hx (by simp)
  simp only [Hold] at hm
  have hh := hR.hold s (own_lt hR hs (by simp))
  rw [hs, ← hm] at hh
  simp only [Hold] at hh
  have hsh := Rep.toSh (L' := fun b => (L b).without s) (fun b _ hb => without_sh hb) hh (fun p hp b q hb => by cases hp; rw [hb]; simp [Lab.without, Nat.beq_refl])
  rw [hy] at hsh
  obtain ⟨v', hv, hr⟩ := slice_core (S.ok t _ hT).slice (by subst hc; exact (S.ok e _ hE).size) hsh (bound_ev hR hl) (bound_ev hR hu) h1 h2
  exact ⟨v', fun w' _ => by simp only [execOp, Option.map_none, Sem.run_bind, hv w', Result.andThen_ok, Sem.run_pure], Rel.putPlain (n := d) hR (hN d rfl) rfl hsd hr⟩
/- the common shapes, of mapped lists -/
section
variable {α : Type} {f : α → AV} {l : List α} {t e c sz by_ : Nat} {z : List AV} {ti : TI} {x b : Operand} {n : Int}
theorem s_slcSlo (hx : ov σ x = .av (.sl false c (l.map f))) (hT : S.T t = some ⟨.slice e, sz, by_, z⟩) (hE : S.T e = some ti) (hc : ti.size = c) (hb : ov σ b = .av (.int n)) (h0 : 0 ≤ n) (h1 : n.toNat ≤ l.length) :
    Step S ⟨some d, .slice t x (some b) none none, ty, pos, aft, g⟩ σ (σ.put d (.av (.sl false c ((l.drop n.toNat).map f)))) := by
  have := s_slcS (d := d) (ty := ty) (pos := pos) (aft := aft) (g := g) hx hT hE hc (ovb hb h0) (show bound σ _ none = some _ from rfl) (by rw [List.length_map]; exact h1) (Nat.le_refl _)
  rwa [List.take_length, ← List.map_drop] at this
theorem s_slcShi (hx : ov σ x = .av (.sl false c (l.map f))) (hT : S.T t = some ⟨.slice e, sz, by_, z⟩) (hE : S.T e = some ti) (hc : ti.size = c) (hb : ov σ b = .av (.int n)) (h0 : 0 ≤ n) (h1 : n.toNat ≤ l.length) :
    Step S ⟨some d, .slice t x none (some b) none, ty, pos, aft, g⟩ σ (σ.put d (.av (.sl false c ((l.take n.toNat).map f)))) := by
  have := s_slcS (d := d) (ty := ty) (pos := pos) (aft := aft) (g := g) hx hT hE hc (show bound σ 0 none = some _ from rfl) (ovb hb h0) (Nat.zero_le _) (by rw [List.length_map]; exact h1)
  rwa [List.drop_zero, ← List.map_take] at this
theorem s_slcSlh {b2 : Operand} {n2 : Int} (hx : ov σ x = .av (.sl false c (l.map f))) (hT : S.T t = some ⟨.slice e, sz, by_, z⟩) (hE : S.T e = some ti) (hc : ti.size = c) (hb : ov σ b = .av (.int n)) (hb2 : ov σ b2 = .av (.int n2)) (h0 : 0 ≤ n) (h1 : n ≤ n2) (h2 : n2.toNat ≤ l.length) :
    Step S ⟨some d, .slice t x (some b) (some b2) none, ty, pos, aft, g⟩ σ (σ.put d (.av (.sl false c (((l.take n2.toNat).drop n.toNat).map f)))) := by
  have := s_slcS (d := d) (ty := ty) (pos := pos) (aft := aft) (g := g) hx hT hE hc (ovb hb h0) (ovb hb2 (by omega)) (by omega) (by rw [List.length_map]; exact h2)
  rwa [← List.map_take, ← List.map_drop] at this
theorem s_slcRlo {s : Nat} {y : AV} (hx : ov σ x = .ref s) (hs : get σ s = .av y) (hy : y.sh = .sl false c (l.map f)) (hT : S.T t = some ⟨.slice e, sz, by_, z⟩) (hE : S.T e = some ti) (hc : ti.size = c) (hb : ov σ b = .av (.int n)) (h0 : 0 ≤ n) (h1 : n.toNat ≤ l.length) (hsd : Nat.beq s d = false) :
    Step S ⟨some d, .slice t x (some b) none none, ty, pos, aft, g⟩ σ (σ.put d (.bor s (.sl false c ((l.drop n.toNat).map f)))) := by
  have := s_slcR (d := d) (ty := ty) (pos := pos) (aft := aft) (g := g) hx hs hy hT hE hc (ovb hb h0) (show bound σ _ none = some _ from rfl) (by rw [List.length_map]; exact h1) (Nat.le_refl _) hsd
  rwa [List.take_length, ← List.map_drop] at this
theorem s_slcRhi {s : Nat} {y : AV} (hx : ov σ x = .ref s) (hs : get σ s = .av y) (hy : y.sh = .sl false c (l.map f)) (hT : S.T t = some ⟨.slice e, sz, by_, z⟩) (hE : S.T e = some ti) (hc : ti.size = c) (hb : ov σ b = .av (.int n)) (h0 : 0 ≤ n) (h1 : n.toNat ≤ l.length) (hsd : Nat.beq s d = false) :
    Step S ⟨some d, .slice t x none (some b) none, ty, pos, aft, g⟩ σ (σ.put d (.bor s (.sl false c ((l.take n.toNat).map f)))) := by
  have := s_slcR (d := d) (ty := ty) (pos := pos) (aft := aft) (g := g) hx hs hy hT hE hc (show bound σ 0 none = some _ from rfl) (ovb hb h0) (Nat.zero_le _) (by rw [List.length_map]; exact h1) hsd
  rwa [List.drop_zero, ← List.map_take] at this
end

/-! ### bits -/
theorem toNat_ofInt64 (a : Nat) (ha : a < 9223372036854775808) : (BitVec.ofInt 64 (a : Int)).toNat = a := by simp; omega
theorem wrap_lt {n : Nat} (h : n < 9223372036854775808) : IntKind.i64.wrap (n : Int) = (n : Int) := IntWalk.i64_in _ (by omega)
theorem andNot_nat (a b : Nat) (ha : a < 9223372036854775808) (hb : b < 9223372036854775808) : ((BitVec.ofInt 64 (a : Int)) &&& ~~~(BitVec.ofInt 64 (b : Int))).toNat = a ^^^ (a &&& b) := by
  apply Nat.eq_of_testBit_eq
  intro i
  rw [BitVec.toNat_and, BitVec.toNat_not, toNat_ofInt64 a ha, toNat_ofInt64 b hb, Nat.testBit_and, Nat.testBit_xor, Nat.testBit_and]
  have h1 : (2 ^ 64 - 1 - b).testBit i = (decide (i < 64) && !b.testBit i) := by
    rw [show 2 ^ 64 - 1 - b = 2 ^ 64 - (b + 1) by omega]
    exact Nat.testBit_two_pow_sub_succ (by omega) i
  rw [h1]
  by_cases hi : i < 64
  · simp only [hi, decide_true, Bool.true_and]; cases a.testBit i <;> cases b.testBit i <;> rfl
  · have : a.testBit i = false := Nat.testBit_lt_two_pow (Nat.lt_of_lt_of_le ha (by
      calc 9223372036854775808 = 2 ^ 63 := by decide
        _ ≤ 2 ^ i := Nat.pow_le_pow_right (by decide) (by omega)))
    simp [this]
theorem s_andNot {t t2 : Nat} {x y : Operand} {a b : Int} (hx : ov σ x = .av (.int a)) (hy : ov σ y = .av (.int b)) (h0 : 0 ≤ a) (h1 : 0 ≤ b) (hr : InR a) (hr' : InR b) : Step S ⟨some d, .binOp .andNot t x y t2, ty, pos, aft, g⟩ σ (σ.put d (.av (.int ((a.toNat ^^^ (a.toNat &&& b.toNat) : Nat) : Int)))) :=
  s_bin2 hx hy rfl ⟨_, fun _ _ => .int, fun w => by
    obtain ⟨n, rfl⟩ := Int.eq_ofNat_of_zero_le h0
    obtain ⟨m, rfl⟩ := Int.eq_ofNat_of_zero_le h1
    have hn : n < 9223372036854775808 := by unfold InR at hr; omega
    have e := andNot_nat n m hn (by unfold InR at hr'; omega)
    have hlt : n ^^^ (n &&& m) < 9223372036854775808 := Nat.xor_lt_two_pow (n := 63) hn (Nat.lt_of_le_of_lt Nat.and_le_left hn)
    simp only [eqGuard, binOp, Op.intBits, Int.toNat_natCast]
    rw [← wrap_lt hlt, ← e]; rfl⟩
theorem xor_nat (a b : Nat) (ha : a < 9223372036854775808) (hb : b < 9223372036854775808) : ((BitVec.ofInt 64 (a : Int)) ^^^ (BitVec.ofInt 64 (b : Int))).toNat = a ^^^ b := by
  rw [BitVec.toNat_xor, toNat_ofInt64 a ha, toNat_ofInt64 b hb]
theorem s_xor {t t2 : Nat} {x y : Operand} {a b : Int} (hx : ov σ x = .av (.int a)) (hy : ov σ y = .av (.int b)) (h0 : 0 ≤ a) (h1 : 0 ≤ b) (hr : InR a) (hr' : InR b) : Step S ⟨some d, .binOp .xor t x y t2, ty, pos, aft, g⟩ σ (σ.put d (.av (.int ((a.toNat ^^^ b.toNat : Nat) : Int)))) :=
  s_bin2 hx hy rfl ⟨_, fun _ _ => .int, fun w => by
    obtain ⟨n, rfl⟩ := Int.eq_ofNat_of_zero_le h0
    obtain ⟨m, rfl⟩ := Int.eq_ofNat_of_zero_le h1
    have hn : n < 9223372036854775808 := by unfold InR at hr; omega
    have hm : m < 9223372036854775808 := by unfold InR at hr'; omega
    have e := xor_nat n m hn hm
    have hlt : n ^^^ m < 9223372036854775808 := Nat.xor_lt_two_pow (n := 63) hn hm
    simp only [eqGuard, binOp, Op.intBits, Int.toNat_natCast]
    rw [← wrap_lt hlt, ← e]; rfl⟩
end

theorem hold_bool {S : Sys} {N : Nat} {σ : St} {w0 : World} {L0 : Nat → Lab} {a : Act} {w : World} {L : Nat → Lab} (hR : RelL S w0 L0 N σ a w L) {x : Operand} {b : Bool} (hx : ov σ x = .av (.bool b)) : a.eval x = .bool b := eval_bool hx ⟨L, hR⟩
/-! ### a slice against nil -/
section
variable {S : Sys} {N : Nat} {σ : St}
/-- One of several frames comes of it. -/
theorem J.stepX {ι : Type} {q : Bool} {ops : Array Oper} {l : List Oper} {K : St → Prop} {o : Oper} (σ' : ι → St) (p : ι → Prop) (hg : live ops o.guard σ = some true)
    (hs : ∀ (w0 : World) (L0 : Nat → Lab) (N : Nat) (a : Act) (w : World), (∀ d : Nat, o.dst = some d → DOk S N d) → Rel S w0 L0 N σ a w → ∃ i, p i ∧ ∃ v, (∀ w', Ext w w' → (execOp a.eval o).run S.P w' = .ok (.value v) w') ∧ Rel S w0 L0 N (σ' i) (a.put o.dst v) w)
    (h : ∀ i, p i → J q S N ops l K (σ' i)) : J q S N ops (o :: l) K σ := by
  unfold J at *
  cases q with
  | true =>
    intro hd w0 L0 Q a w hQ hR
    obtain ⟨h1, h2⟩ := dstOk_cons hd
    obtain ⟨i, hi, v, hv, hR'⟩ := hs w0 L0 N a w h1 hR
    have := h i hi h2 w0 L0 Q (a.put o.dst v) w hQ hR'
    simp only [wpQuiet, live_wanted hg hR, if_true]
    refine ⟨v, fun w' hw' => ?_, this⟩
    unfold Oper.quietAt
    rw [hv w' hw']
    exact ⟨rfl, rfl⟩
  | false =>
    intro hd w0 L0 Q a w hQ hR
    obtain ⟨h1, h2⟩ := dstOk_cons hd
    obtain ⟨i, hi, v, hv, hR'⟩ := hs w0 L0 N a w h1 hR
    have := h i hi h2 w0 L0 Q (a.put o.dst v) w hQ hR'
    simp only [wpList, live_wanted hg hR, if_true]
    refine .inl ?_
    unfold Oper.wp
    rw [hv w (Ext.refl w)]
    exact this
theorem run_eqNil {P : Program} {t e : Nat} (ht : P.underlying t = some (.slice e)) (a : Option Addr) (len cap : Nat) (w : World) : (binOp .eql t (.slice a len cap) (.slice none 0 0)).run P w = .ok (.bool a.isNone) w := by
  have e : (Op.equal t (.slice a len cap) (.slice none 0 0)).run P w = .ok a.isNone w := by
    show (Op.equalIn (9999 + 1) t (.slice a len cap) (.slice none 0 0)).run P w = _
    unfold Op.equalIn
    rw [Sem.run_bind, run_underlying ht, Result.andThen_ok]
    cases a <;> rfl
  show (do pure (.bool (← Op.equal t (.slice a len cap) (.slice none 0 0))) : Sem Value).run P w = _
  rw [Sem.run_bind, e]; rfl
theorem J.eqNil {q : Bool} {ops : Array Oper} {l : List Oper} {K : St → Prop} {d ty : Nat} {pos : String} {aft : Array Edge} {g : Option (Nat × Bool)} {t t2 e sz by_ c : Nat} {z : List AV} {x y : Operand} {o : Bool} {xs : List AV} (hg : live ops g σ = some true) (hx : rd σ (ov σ x) = .sl o c xs) (hy : ov σ y = .av .nil)
    (hT : S.T t = some ⟨.slice e, sz, by_, z⟩) (h : ∀ b : Bool, (xs ≠ [] → b = false) → J q S N ops l K (σ.put d (.av (.bool b)))) : J q S N ops (⟨some d, .binOp .eql t x y t2, ty, pos, aft, g⟩ :: l) K σ := by
  refine J.stepX (fun b : Bool => σ.put d (.av (.bool b))) (fun b => xs ≠ [] → b = false) hg ?_ h
  intro w0 L0 N a w hN ⟨L, hR⟩
  obtain ⟨L', π, _, _, hrep⟩ := rd_ok hR hx (by simp)
  obtain ⟨aa, cap, hv⟩ := sl_inv hrep
  refine ⟨aa.isNone, fun hne => ?_, .bool aa.isNone, fun w' _ => ?_, Rel.putPlain (n := d) hR (hN d rfl) rfl rfl (by exact Rep.bool)⟩
  · cases hxs : xs with
    | nil => exact absurd hxs hne
    | cons y0 r =>
      obtain ⟨b, off, cap', hv', _⟩ := elem_cells hrep (i := 0) (y := y0) (by rw [hxs]; rfl)
      rw [hv] at hv'
      injection hv' with h1
      rw [h1]; rfl
  · have hb := run_eqNil (S.ok t _ hT).slice aa xs.length cap w'
    simp only [execOp, hv, ev_nil hR hy, eqGuard, Sem.run_bind]
    simp [hb]
end

theorem s_eqlB {S : Sys} {σ : St} {d ty : Nat} {pos : String} {aft : Array Edge} {g : Option (Nat × Bool)} {t t2 : Nat} {x y : Operand} {a b : Bool} (hT : S.P.underlying t = some .bool) (hx : ov σ x = .av (.bool a)) (hy : ov σ y = .av (.bool b)) : Step S ⟨some d, .binOp .eql t x y t2, ty, pos, aft, g⟩ σ (σ.put d (.av (.bool (decide (a = b))))) :=
  step_val rfl fun w0 L0 N c w L hR => ⟨.bool (decide (a = b)), fun w' _ => by
    have e : (Op.equal t (.bool a) (.bool b)).run S.P w' = .ok (a == b) w' := by
      show (Op.equalIn (9999 + 1) t (.bool a) (.bool b)).run S.P w' = _
      unfold Op.equalIn
      rw [Sem.run_bind, run_underlying hT, Result.andThen_ok]
      rfl
    have e2 : (binOp .eql t (.bool a) (.bool b)).run S.P w' = .ok (.bool (a == b)) w' := by
      show (do pure (.bool (← Op.equal t (.bool a) (.bool b))) : Sem Value).run S.P w' = _
      rw [Sem.run_bind, e]; rfl
    have e3 : (a == b) = decide (a = b) := by cases a <;> cases b <;> rfl
    have hx' := hold_bool hR hx
    have hy' := hold_bool hR hy
    simp only [execOp, hx', hy', eqGuard, Sem.run_bind]
    simp [e2, e3], .bool⟩

/-! ### on natural numbers -/
def shr (a b : Nat) : Nat := a / 2 ^ b
theorem shr_le (a b : Nat) : shr a b ≤ a := Nat.div_le_self _ _
section
variable {S : Sys} {σ : St} {d ty : Nat} {pos : String} {aft : Array Edge} {g : Option (Nat × Bool)} {t t2 : Nat} {x y : Operand} {a b : Nat}
theorem Step.cast {o : Oper} {n m : Int} (h : Step S o σ (σ.put d (.av (.int n)))) (e : n = m) : Step S o σ (σ.put d (.av (.int m))) := by subst e; exact h
theorem s_shrN (hx : ov σ x = .av (.int (a : Int))) (hy : ov σ y = .av (.int (b : Int))) (h1 : b ≤ 62) : Step S ⟨some d, .binOp .shr t x y t2, ty, pos, aft, g⟩ σ (σ.put d (.av (.int ((shr a b : Nat) : Int)))) :=
  (s_shr hx hy (by omega) (by omega)).cast (by
    rw [Int.toNat_natCast, Int.fdiv_eq_ediv_of_nonneg _ (by exact_mod_cast Nat.zero_le _)]
    unfold shr
    norm_cast)
theorem s_and1 (hx : ov σ x = .av (.int (a : Int))) (hy : ov σ y = .av (.int 1)) (hr : InR a) : Step S ⟨some d, .binOp .and t x y t2, ty, pos, aft, g⟩ σ (σ.put d (.av (.int ((a % 2 : Nat) : Int)))) :=
  (s_and hx hy (by omega) (by omega) hr).cast (by rw [Int.toNat_natCast, show Int.toNat 1 = 1 from rfl, Nat.and_one_is_mod])
theorem s_shl1 (hx : ov σ x = .av (.int 1)) (hy : ov σ y = .av (.int (b : Int))) (h1 : b ≤ 62) : Step S ⟨some d, .binOp .shl t x y t2, ty, pos, aft, g⟩ σ (σ.put d (.av (.int ((2 ^ b : Nat) : Int)))) :=
  have e : (1 : Int) * 2 ^ ((b : Int)).toNat = ((2 ^ b : Nat) : Int) := by rw [Int.toNat_natCast]; simp
  have h2 : 2 ^ b ≤ 2 ^ 62 := Nat.pow_le_pow_right (by decide) h1
  (s_shl hx hy (by omega) (by omega) (by rw [e]; unfold InR; generalize 2 ^ b = m at h2 ⊢; omega)).cast e
theorem s_andNotN (hx : ov σ x = .av (.int (a : Int))) (hy : ov σ y = .av (.int (b : Int))) (hr : InR a) (hr' : InR b) : Step S ⟨some d, .binOp .andNot t x y t2, ty, pos, aft, g⟩ σ (σ.put d (.av (.int ((a ^^^ (a &&& b) : Nat) : Int)))) :=
  (s_andNot hx hy (by omega) (by omega) hr hr').cast (by rw [Int.toNat_natCast, Int.toNat_natCast])
theorem s_andN (hx : ov σ x = .av (.int (a : Int))) (hy : ov σ y = .av (.int (b : Int))) (hr : InR a) : Step S ⟨some d, .binOp .and t x y t2, ty, pos, aft, g⟩ σ (σ.put d (.av (.int ((a &&& b : Nat) : Int)))) :=
  (s_and hx hy (by omega) (by omega) hr).cast (by rw [Int.toNat_natCast, Int.toNat_natCast])
theorem s_xorN (hx : ov σ x = .av (.int (a : Int))) (hy : ov σ y = .av (.int (b : Int))) (hr : InR a) (hr' : InR b) : Step S ⟨some d, .binOp .xor t x y t2, ty, pos, aft, g⟩ σ (σ.put d (.av (.int ((a ^^^ b : Nat) : Int)))) :=
  (s_xor hx hy (by omega) (by omega) hr hr').cast (by rw [Int.toNat_natCast, Int.toNat_natCast])
theorem s_rem2 (hx : ov σ x = .av (.int (a : Int))) (hy : ov σ y = .av (.int 2)) : Step S ⟨some d, .binOp .rem t x y t2, ty, pos, aft, g⟩ σ (σ.put d (.av (.int ((a % 2 : Nat) : Int)))) :=
  (s_rem hx hy (by omega)).cast (by rw [Int.tmod_eq_emod_of_nonneg (by omega)]; norm_cast)
theorem s_quo2 (hx : ov σ x = .av (.int (a : Int))) (hy : ov σ y = .av (.int 2)) (hr : InR a) : Step S ⟨some d, .binOp .quo t x y t2, ty, pos, aft, g⟩ σ (σ.put d (.av (.int ((a / 2 : Nat) : Int)))) :=
  have e : ((a : Int)).tdiv 2 = ((a / 2 : Nat) : Int) := by rw [Int.tdiv_eq_ediv_of_nonneg (by omega)]; norm_cast
  (s_quo hx hy (by omega) (by rw [e]; unfold InR at *; omega)).cast e
end

/-! ### ghost steps -/
section
variable {S : Sys} {N : Nat} {σ : St}
theorem J.freezeO {q : Bool} {ops : Array Oper} {l : List Oper} {K : St → Prop} (s : Nat) {x z : AV} (hs : get σ s = .av x) (hx : x.isOwn = true) (hz : x.sh = z) (ho : z.isOwn = false) (h : J q S N ops l K (σ.put s (.av z))) : J q S N ops l K σ := .freeze s hs hz ho h
end
end FM

/- Stores of rows, stores in rows, rows taken out of a table. No program in sight. -/
namespace FM
open Go Go.RowKit
set_option linter.unusedVariables false
section
variable {S : Sys} {N : Nat} {σ : St}

/-- One element of an owned slice is stored. -/
theorem set_core {t : Nat} {ti : TI} (hT : S.T t = some ti) {L : Nat → Lab} {w : World} {p : List Nat} {c i b : Nat} {xs : List AV} {z : AV} {v zv : Value} (hL : L b = .my p) (hinj : ∀ b b' p, L b = .my p → L b' = .my p → b = b')
    (hh : Rep L w (some p) (.sl true c xs) v) (hi : i < xs.length) (hzc : z.cells.length = c) (hc3 : ti.size = c)
    (v1 : zv.cells.size = z.cells.length) (v2 : ∀ u ∈ zv.cells.toList, u.oneCell' = true) (v3 : ∀ (j : Nat) y, z.cells[j]? = some y → ∃ u, zv.cells[j]? = some u ∧ (Rep L w none y u ∨ y = .dead)) :
    ∃ W : World, (Instr.storeAt t (.pointer (some ⟨b, i * c, none⟩)) zv).run S.P w = .ok () W ∧ W.heap.size = w.heap.size ∧ W.os = w.os ∧ W.tape = w.tape ∧ W.output = w.output ∧ (∀ k, k ≠ b → W.heap[k]? = w.heap[k]?) ∧
      (∀ (j : Nat) u, zv.cells[j]? = some u → W.cell? ⟨b, i * c + j, none⟩ = some u) ∧ Rep L W (some p) (.sl true c (xs.set i z)) v := by
  cases hh with
  | slE h => simp at hi
  | @slO p c xs b' cap arr e u hL' hb hcap hsz hcx hcell hr =>
    have := hinj _ _ _ hL hL'
    subst this
    have hmul : (i + 1) * c ≤ cap * c := Nat.mul_le_mul_right _ (by omega)
    rw [Nat.add_mul, Nat.one_mul] at hmul
    have hvs : zv.cells.size = c := by omega
    obtain ⟨A, hrun, hAsz, harr⟩ : ∃ A : Array Value, (Instr.storeAt t (.pointer (some ⟨b, i * c, none⟩)) zv).run S.P w = .ok () (w.setRow b A) ∧ A.size = arr.size ∧ ∀ j, A[j]? = if i * c ≤ j ∧ j < i * c + zv.cells.size then zv.cells[j - i * c]? else arr[j]? :=
      ⟨_, run_store_at (S := S) hT (off := i * c) (v := zv) hb (by omega) v2 (by omega), by simp; omega, fun j => by
        have := getElem?_splice arr.toList zv.cells.toList (i * c) j (by simp; omega)
        simpa using this⟩
    have hother : ∀ k, k ≠ b → (w.setRow b A).heap[k]? = w.heap[k]? := fun k hk => setRow_other w b k A hk
    have hnew := setRow_heap w b arr A e (0, 0) hb
    have hsz' : (w.setRow b A).heap.size = w.heap.size := by simp
    have ho : (w.setRow b A).os = w.os := rfl
    have ht : (w.setRow b A).tape = w.tape := rfl
    have hu : (w.setRow b A).output = w.output := rfl
    generalize w.setRow b A = W at hrun hother hnew hsz' ho ht hu
    refine ⟨W, hrun, hsz', ho, ht, hu, hother, fun j u' hj => ?_, ?_⟩
    · rw [cell_of_row W b _ A e (0, 0) hnew, harr]
      have : j < zv.cells.size := (Array.getElem?_eq_some_iff.1 hj).1
      rw [if_pos (by omega), show i * c + j - i * c = j by omega]; exact hj
    have hlen : (xs.set i z).length = xs.length := by simp
    have hslots : ∀ π (y : AV) (u : Value), Rep L w π y u → (∀ p', π = some p' → ∃ o q, p' = p ++ o :: q) → Rep L W π y u := fun π y u h hπ =>
      h.frame (by omega) ho ht hu (fun k hk _ => ⟨hk, hother k (fun e => by subst e; rw [hL] at hk; cases hk)⟩) π fun p' hp' => ⟨p', hp', fun k q hk => ⟨hk, hother k (fun e => by
        subst e
        obtain ⟨o, q', rfl⟩ := hπ p' hp'
        rw [hL] at hk; injection hk with hk
        have := congrArg List.length hk
        simp at this)⟩⟩
    rw [← hlen]
    refine .slO (fun o => (A[o]?).getD undef) hL hnew (by rw [hlen]; exact hcap) (by rw [hAsz]; exact hsz) (fun y hy => ?_) (fun o ho => ?_) (fun o y hy => ?_)
    · rcases List.mem_or_eq_of_mem_set hy with h | h
      · exact hcx y h
      · rw [h]; omega
    · have hlt : o < A.size := by
        rw [hAsz, hsz]
        rw [hlen] at ho
        exact Nat.lt_of_lt_of_le ho (Nat.mul_le_mul_right _ hcap)
      simp [hlt]
    · rw [harr]
      rcases flat_set hcx (by omega) o y hy with ⟨h1, h2, h3, h4⟩ | ⟨h1, h2⟩
      · rw [if_pos (by omega)]
        obtain ⟨u', hu', hr'⟩ := v3 _ y h4
        rw [hu']
        rcases hr' with hr' | rfl
        · exact (hslots none y u' hr' (fun p hp => by cases hp)).any _
        · exact .dead
      · rw [if_neg (by rw [hvs]; exact h1)]
        have ho : o < xs.length * c := by rw [← flat_length hcx]; exact (List.getElem?_eq_some_iff.1 h2).1
        rw [hcell o ho]
        exact hslots _ y _ (hr o y h2) (fun p hp => by cases hp; exact ⟨o, [], rfl⟩)

/-- What lies at element i of an owned slice of single cells. -/
theorem row_at {L : Nat → Lab} {w : World} {p : List Nat} {i : Nat} {xs : List AV} {y : AV} {v : Value} (hh : Rep L w (some p) (.sl true 1 xs) v) (hi : xs[i]? = some y) (h1 : y.cells = [y]) :
    ∃ b arr e u cap, L b = .my p ∧ w.heap[b]? = some (.cells arr e (0, 0)) ∧ v = .slice (some ⟨b, 0, none⟩) xs.length cap ∧ arr[i]? = some u ∧ Rep L w (some (p ++ [i])) y u := by
  have hlt : i < xs.length := (List.getElem?_eq_some_iff.1 hi).1
  cases hh with
  | slE h => simp at hi
  | @slO p c xs b' cap arr e u hL' hb hcap hsz hcx hcell hr =>
    refine ⟨b', arr, e, u i, cap, hL', hb, rfl, hcell i (by omega), hr i y ?_⟩
    have := flat_get hcx hi (j := 0) (y := y) (by rw [h1]; rfl)
    simpa using this

/-- s[i][j] = v: a row of a slice that slot s owns. -/
theorem e_stR {t : Nat} {ti : TI} {x v : Operand} {s i j : Nat} {y0 z : AV} {xs ys : List AV} {ty : Nat} {pos : String} {aft : Array Edge} {g : Option (Nat × Bool)} (hx : ov σ x = .rptr s i j y0) (hs : get σ s = .av (.sl true 1 xs)) (hxi : xs[i]? = some (.sl true 1 ys)) (hT : S.T t = some ti) (hv : ov σ v = .av z) (hz : z.isOwn = false) (hok : z.varOk = true) (hc : Nat.beq z.cells.length 1 = true) (hc2 : Nat.beq ti.size 1 = true) (hj : j < ys.length) :
    EStep S ⟨none, .store t x v, ty, pos, aft, g⟩ σ (σ.upd true s (.av (.sl true 1 (xs.set i (.sl true 1 (ys.set j z)))))) := by
  intro w0 L0 N a w _ ⟨L, hR⟩
  have hc1 := Nat.eq_of_beq_eq_true hc
  have hc3 := Nat.eq_of_beq_eq_true hc2
  obtain ⟨_, ⟨b, hL, hp, _⟩, _⟩ := hold_plain hR hx (by simp)
  have hsN := own_lt hR hs (by simp)
  have hh := hR.hold s hsN
  rw [hs] at hh
  simp only [Hold] at hh
  obtain ⟨v1, v2, v3⟩ := val_cells hR hv hz hok
  obtain ⟨b1, arr1, e1, u1, cap1, hb1, hheap1, hsv, harr1, hrow⟩ := row_at hh hxi rfl
  obtain ⟨W, hrun, hsz, ho, ht, hu, hother, _, hrow'⟩ := set_core hT (L := L) (p := [s] ++ [i]) hL hR.lok.inj hrow hj hc1 hc3 v1 v2 (fun j y hy => by obtain ⟨u, h1, h2⟩ := v3 j y hy; exact ⟨u, h1, .inl h2⟩)
  rw [Nat.mul_one] at hrun
  have hbb : b1 ≠ b := fun e => by subst e; rw [hL] at hb1; simp at hb1
  refine ⟨undef, W, .inr ⟨by simp only [execOp, hp, Sem.run_bind, hrun]; rfl, rfl⟩, L, hR.write (b := b) (q0 := [i]) hsN hL hsz ho ht hu hother ?_ true (fun _ => by simp)⟩
  generalize a.tmps.getD s undef = sv at hh hsv
  cases hh with
  | slE h => simp at hxi
  | @slO p c xs b' cap arr e u hL' hb hcap hsz' hcx hcell hr =>
    have := hR.lok.inj _ _ _ hL' hb1
    subst this
    rw [hheap1] at hb
    injection hb with hb; injection hb with hb he _; subst hb; subst he
    have hlen : (xs.set i (.sl true 1 (ys.set j z))).length = xs.length := by simp
    have hi : i < xs.length := (List.getElem?_eq_some_iff.1 hxi).1
    rw [← hlen]
    refine .slO u hL' (by rw [hother _ hbb]; exact hheap1) (by rw [hlen]; exact hcap) hsz' (fun y hy => ?_) (fun o ho => by rw [hlen] at ho; exact hcell o ho) (fun o y hy => ?_)
    · rcases List.mem_or_eq_of_mem_set hy with h | h
      · exact hcx y h
      · rw [h]; rfl
    · rcases flat_set hcx (by rfl) o y hy with ⟨h1, h2, h3, h4⟩ | ⟨h1, h2⟩
      · have ho : o = i := by omega
        subst ho
        simp only [Nat.mul_one, Nat.sub_self, AV.cells, List.getElem?_cons_zero, Option.some.injEq] at h4
        subst h4
        have : u o = u1 := by have := hcell o (by omega); rw [harr1] at this; exact (Option.some.inj this).symm
        rw [this]; exact hrow'
      · refine Rep.frame (by omega) ho ht hu (fun k hk _ => ⟨hk, hother k (fun e => by subst e; rw [hL] at hk; cases hk)⟩) (hr o y h2) _ fun p' hp' => ⟨p', hp', fun k q hk => ⟨hk, hother k (fun e => ?_)⟩⟩
        cases hp'
        subst e
        rw [hL] at hk
        injection hk with hk
        simp at hk
        omega

/-! ### what slot t0 owns becomes element i of slot s -/
def φinto (s i t0 : Nat) (p : List Nat) : Option (List Nat) :=
  match strip [t0] p with
  | some q => some (s :: i :: q)
  | none => match strip [s, i] p with
    | some _ => none
    | none => match p with
      | [] => none
      | a :: q => some (a :: q)
theorem φinto_cases {s i t0 : Nat} {p r : List Nat} (h : φinto s i t0 p = some r) : (∃ q, p = t0 :: q ∧ r = s :: i :: q) ∨ (p = r ∧ r ≠ [] ∧ strip [t0] p = none ∧ strip [s, i] p = none) := by
  unfold φinto at h
  cases h1 : strip [t0] p with
  | some q => rw [h1] at h; injection h with h; exact .inl ⟨q, strip_spec.1 h1, h.symm⟩
  | none =>
    rw [h1] at h
    simp only at h
    cases h2 : strip [s, i] p with
    | some q => rw [h2] at h; cases h
    | none =>
      rw [h2] at h
      cases p with
      | nil => cases h
      | cons a q => injection h with h; subst h; exact .inr ⟨rfl, by simp, rfl, rfl⟩
theorem φinto_inj {s i t0 : Nat} : Inj (φinto s i t0) := by
  refine ⟨fun p p' r h h' => ?_, fun p h => ?_⟩
  · rcases φinto_cases h with ⟨q, e1, e2⟩ | ⟨e1, e2, e3, e4⟩ <;> rcases φinto_cases h' with ⟨q', e1', e2'⟩ | ⟨e1', e2', e3', e4'⟩
    · rw [e2] at e2'; cases e2'; rw [e1, e1']
    · subst e1'; rw [e2] at e4'
      have : strip [s, i] (s :: i :: q) = some q := strip_spec.2 rfl
      rw [this] at e4'; cases e4'
    · subst e1; rw [e2'] at e4
      have : strip [s, i] (s :: i :: q') = some q' := strip_spec.2 rfl
      rw [this] at e4; cases e4
    · rw [e1, e1']
  · rcases φinto_cases h with ⟨q, e1, e2⟩ | ⟨e1, e2, _⟩
    · cases e2
    · exact e2 rfl
theorem φinto_keep {s i t0 a : Nat} {q : List Nat} (h1 : t0 ≠ a) (h2 : strip [s, i] (a :: q) = none) : φinto s i t0 (a :: q) = some (a :: q) := by
  unfold φinto
  have : strip [t0] (a :: q) = none := by simp only [strip, not_beq h1, cond_false]
  rw [this, h2]
theorem LOk.remap {L0 L : Nat → Lab} {w0 w : World} (h : LOk L0 w0 L w) {φ : List Nat → Option (List Nat)} (hφ : Inj φ) : LOk L0 w0 (FM.remap φ L) w where
  lt b p hb := by obtain ⟨p', h1, _⟩ := remap_my hb; exact h.lt b _ h1
  inj b b' p hb hb' := by
    obtain ⟨p1, h1, h2⟩ := remap_my hb
    obtain ⟨p2, h1', h2'⟩ := remap_my hb'
    have := hφ.inj _ _ _ h2 h2'
    subst this
    exact h.inj _ _ _ h1 h1'
  head b p hb := by obtain ⟨p', _, h2⟩ := remap_my hb; intro e; subst e; exact hφ.ne _ h2
  old b p hlt hb := by obtain ⟨p', h1, _⟩ := remap_my hb; exact h.old b _ hlt h1
  fo b hb := remap_fo.trans (h.fo b hb)
  new b hb hf := h.new b hb (remap_fo.1 hf)

theorem RelL.into {w0 : World} {L0 : Nat → Lab} {a : Act} {w : World} {L : Nat → Lab} (hR : RelL S w0 L0 N σ a w L) {s i t0 : Nat} {r : AV} {xs : List AV} (hs : get σ s = .av (.sl true 1 xs)) (ht0 : get σ t0 = .av r) (hr1 : r.cells = [r]) (hst : t0 ≠ s) (hi : i < xs.length)
    (hcell : ∀ b, L b = .my [s] → w.cell? ⟨b, i, none⟩ = some (a.tmps.getD t0 undef)) : RelL S w0 L0 N ((σ.put t0 .none).upd false s (.av (.sl true 1 (xs.set i r)))) a w (remap (φinto s i t0) L) := by
  have hsN := own_lt hR hs (by simp)
  have htN := own_lt hR ht0 (by simp)
  have hks : ∀ b, L b = .my [s] → remap (φinto s i t0) L b = .my [s] := fun b hb => remap_to hb (φinto_keep hst (by simp [strip]))
  refine ⟨hR.defers, hR.size, hR.keep, hR.lok.remap φinto_inj, fun n hn => ?_, fun n hn => ?_, hR.fix, hR.glob⟩
  · simp only [get, kill_eq]
    by_cases hsn : s = n
    · subst hsn
      rw [Nat.beq_refl, cond_true]
      have hh := hR.hold s hn
      rw [hs] at hh
      have ht := hR.hold t0 htN
      rw [ht0] at ht
      simp only [Hold] at hh ht ⊢
      generalize a.tmps.getD s undef = sv at hh
      cases hh with
      | slE h => simp at hi
      | @slO p c xs b cap arr e u hL hb hcap hsz hcx hcl hr =>
        have hlen : (xs.set i r).length = xs.length := by simp
        have hci := hcell b hL
        rw [cell_of_row w b i arr e (0, 0) hb] at hci
        rw [← hlen]
        refine .slO (fun o => if o = i then a.tmps.getD t0 undef else u o) (hks b hL) hb (by rw [hlen]; exact hcap) hsz (fun y hy => ?_) (fun o ho => ?_) (fun o y hy => ?_)
        · rcases List.mem_or_eq_of_mem_set hy with h | h
          · exact hcx y h
          · rw [h, hr1]; rfl
        · split
          · rename_i e; subst e; exact hci
          · rw [hlen] at ho; exact hcl o ho
        · rcases flat_set hcx (by rw [hr1]; rfl) o y hy with ⟨h1, h2, h3, h4⟩ | ⟨h1, h2⟩
          · have ho : o = i := by omega
            subst ho
            rw [hr1] at h4
            simp only [Nat.mul_one, Nat.sub_self, List.getElem?_cons_zero, Option.some.injEq] at h4
            subst h4
            simp only [if_pos]
            refine Rep.frame (Nat.le_refl _) rfl rfl rfl (fun k h1 _ => ⟨remap_sh h1, rfl⟩) ht _ fun p hp => ?_
            cases hp
            refine ⟨_, rfl, fun k q hk => ⟨remap_to hk ?_, rfl⟩⟩
            unfold φinto
            rw [strip_spec.2 rfl]; rfl
          · have hne : o ≠ i := by omega
            simp only [if_neg hne]
            refine Rep.frame (Nat.le_refl _) rfl rfl rfl (fun k h1 _ => ⟨remap_sh h1, rfl⟩) (hr o y h2) _ fun p hp => ?_
            cases hp
            refine ⟨_, rfl, fun k q hk => ⟨remap_to hk ?_, rfl⟩⟩
            refine φinto_keep hst ?_
            simp [strip, not_beq (Ne.symm hne), Nat.beq_refl]
    · rw [not_beq hsn, cond_false]
      by_cases htn : t0 = n
      · subst htn; rw [Nat.beq_refl, cond_true]; trivial
      · rw [not_beq htn, cond_false]
        cases hd : (get σ n).dep t0 with
        | true => trivial
        | false =>
          rw [cond_false]
          have hh := hR.hold n hn
          have key : ∀ tv : TV, tv.dep s = false → tv.dep t0 = false → Hold L w a.tmps n tv (a.tmps.getD n undef) → Hold (remap (φinto s i t0) L) w a.tmps n tv (a.tmps.getD n undef) := fun tv hds hdt hh =>
            Hold.relab (good := fun m => m ≠ s ∧ m ≠ t0) (Nat.le_refl _) rfl rfl rfl (fun k h1 _ => ⟨remap_sh h1, rfl⟩) (fun k m q h1 h2 => ⟨remap_to h1 (φinto_keep (fun e => h2.2 e.symm) (by simp only [strip, not_beq (fun e => h2.1 e.symm : s ≠ m), cond_false])), rfl⟩)
              (fun _ _ => rfl) ⟨fun e => hsn e.symm, fun e => htn e.symm⟩ (fun m hm => ⟨fun e => (by subst e; rw [hds] at hm; cases hm), fun e => (by subst e; rw [hdt] at hm; cases hm)⟩) hh
          generalize get σ n = tv at hh hd
          cases tv with
          | none => trivial
          | av x => exact key _ rfl rfl hh
          | ref s' => exact hh
          | rref s' q y =>
            simp only [TV.stale]
            cases hb' : Nat.beq s' s with
            | false => exact key _ hb' hd hh
            | true => trivial
          | ptr s' q c y =>
            simp only [TV.stale]
            cases hb' : Nat.beq s' s with
            | false => exact key _ hb' hd hh
            | true =>
              have := Nat.eq_of_beq_eq_true hb'; subst this
              obtain ⟨k, h1, h2, _⟩ := hh; exact ⟨k, hks k h1, h2, fun h => absurd rfl h⟩
          | fpt s' o y =>
            simp only [TV.stale]
            cases hb' : Nat.beq s' s with
            | false => exact key _ hb' hd hh
            | true =>
              have := Nat.eq_of_beq_eq_true hb'; subst this
              obtain ⟨k, h1, h2, _⟩ := hh; exact ⟨k, hks k h1, h2, fun h => absurd rfl h⟩
          | rptr s' q j y =>
            simp only [TV.stale]
            cases hb' : Nat.beq s' s with
            | false => exact key _ hb' hd hh
            | true => trivial
          | dptr x => exact key _ rfl rfl hh
          | bdp s' x =>
            simp only [TV.stale]
            cases hb' : Nat.beq s' s with
            | false => exact key _ hb' hd hh
            | true => trivial
          | bor s' x =>
            simp only [TV.stale]
            cases hb' : Nat.beq s' s with
            | false => exact key _ hb' hd hh
            | true => trivial
          | clo f caps => exact hh
  · simp only [get, kill_eq]
    rw [not_beq (show s ≠ n by omega), cond_false, not_beq (show t0 ≠ n by omega), cond_false, hR.out n hn]; rfl

/-- s[i] = what slot t0 owns. -/
theorem e_stO {t : Nat} {ti : TI} {x : Operand} {s i t0 : Nat} {y0 r : AV} {xs : List AV} {ty : Nat} {pos : String} {aft : Array Edge} {g : Option (Nat × Bool)} (hx : ov σ x = .ptr s i 1 y0) (hs : get σ s = .av (.sl true 1 xs)) (ht0 : get σ t0 = .av r) (hok : r.cellOk = true) (hst : Nat.beq t0 s = false) (hT : S.T t = some ti) (hc2 : Nat.beq ti.size 1 = true) (hi : i < xs.length) :
    EStep S ⟨none, .store t x (.tmp t0), ty, pos, aft, g⟩ σ (((σ.upd false s (.av (.sl true 1 (xs.set i .dead)))).put t0 .none).upd false s (.av (.sl true 1 ((xs.set i .dead).set i r)))) := by
  intro w0 L0 N a w _ ⟨L, hR⟩
  have hc3 := Nat.eq_of_beq_eq_true hc2
  obtain ⟨_, ⟨b, hL, hp, _⟩, _⟩ := hold_plain hR hx (by simp)
  have hsN := own_lt hR hs (by simp)
  have htN := own_lt hR ht0 (by simp)
  have hh := hR.hold s hsN
  have ht := hR.hold t0 htN
  rw [hs] at hh
  rw [ht0] at ht
  simp only [Hold] at hh ht
  obtain ⟨c1, c2, c3⟩ := cellOk_spec ht hok
  obtain ⟨W, hrun, hsz, ho, htp, hu, hother, hcell, hrep⟩ := set_core hT (L := L) (p := [s]) (z := .dead) (zv := a.tmps.getD t0 undef) hL hR.lok.inj hh hi rfl hc3 (by rw [c1]; rfl) (fun u hu => by rw [c1] at hu; rw [List.mem_singleton.1 hu]; exact c2) (fun j y hy => by
    rw [c1]
    cases j with
    | zero => simp only [AV.cells, List.getElem?_cons_zero, Option.some.injEq] at hy; subst hy; exact ⟨_, rfl, .inr rfl⟩
    | succ j => simp [AV.cells] at hy)
  have hW := hR.write (b := b) (q0 := []) hsN hL hsz ho htp hu hother hrep false (fun h => by cases h)
  have hst' : t0 ≠ s := of_not_beq hst
  have hev : a.eval (.tmp t0) = a.tmps.getD t0 undef := rfl
  refine ⟨undef, W, .inr ⟨by simp only [execOp, hp, Sem.run_bind, hev, hrun]; rfl, rfl⟩, _, hW.into (s := s) (i := i) (t0 := t0) (r := r) (xs := xs.set i .dead) ?_ ?_ c3 hst' (by simpa using hi) fun b' hb' => ?_⟩
  · simp only [get, Nat.beq_refl, cond_true]
  · simp only [get, not_beq hst'.symm, cond_false, ht0]; rfl
  · have := hR.lok.inj _ _ _ hb' hL
    subst this
    have := hcell 0 (a.tmps.getD t0 undef) (by rw [c1]; rfl)
    simpa using this
theorem set_map_set {α : Type} {f : α → AV} {l : List α} {i : Nat} {z : AV} {r : α} : ((l.map f).set i z).set i (f r) = (l.set i r).map f := by
  rw [List.set_set, List.map_set]
theorem e_stOM {α : Type} {f : α → AV} {l : List α} {q : α} {t : Nat} {ti : TI} {x : Operand} {s i t0 : Nat} {y0 : AV} {ty : Nat} {pos : String} {aft : Array Edge} {g : Option (Nat × Bool)} (hx : ov σ x = .ptr s i 1 y0) (hs : get σ s = .av (.sl true 1 (l.map f))) (ht0 : get σ t0 = .av (f q)) (hok : (f q).cellOk = true) (hst : Nat.beq t0 s = false) (hT : S.T t = some ti) (hc2 : Nat.beq ti.size 1 = true) (hi : i < l.length) :
    EStep S ⟨none, .store t x (.tmp t0), ty, pos, aft, g⟩ σ (((σ.upd false s (.av (.sl true 1 ((l.map f).set i .dead)))).put t0 .none).upd false s (.av (.sl true 1 ((l.set i q).map f)))) := by
  rw [← set_map_set (z := .dead)]
  exact e_stO hx hs ht0 hok hst hT hc2 (by simpa using hi)
/-- .. where element i was taken out before. -/
theorem e_stOD {α : Type} {f : α → AV} {l : List α} {q : α} {t : Nat} {ti : TI} {x : Operand} {s i t0 : Nat} {y0 : AV} {ty : Nat} {pos : String} {aft : Array Edge} {g : Option (Nat × Bool)} (hx : ov σ x = .ptr s i 1 y0) (hs : get σ s = .av (.sl true 1 ((l.map f).set i .dead))) (ht0 : get σ t0 = .av (f q)) (hok : (f q).cellOk = true) (hst : Nat.beq t0 s = false) (hT : S.T t = some ti) (hc2 : Nat.beq ti.size 1 = true) (hi : i < l.length) :
    EStep S ⟨none, .store t x (.tmp t0), ty, pos, aft, g⟩ σ (((σ.upd false s (.av (.sl true 1 ((l.map f).set i .dead)))).put t0 .none).upd false s (.av (.sl true 1 ((l.set i q).map f)))) := by
  have := e_stO (ty := ty) (pos := pos) (aft := aft) (g := g) hx hs ht0 hok hst hT hc2 (by simpa using hi)
  have e1 : (((l.map f).set i AV.dead).set i .dead) = (l.map f).set i .dead := List.set_set ..
  rw [e1, set_map_set] at this
  exact this
theorem e_stRM {f : List Int → AV} (hf : ∀ r, f r = .sl true 1 (r.map .int)) {l : List (List Int)} {ys : List Int} {t : Nat} {ti : TI} {x v : Operand} {s i j : Nat} {y0 : AV} {n : Int} {ty : Nat} {pos : String} {aft : Array Edge} {g : Option (Nat × Bool)} (hx : ov σ x = .rptr s i j y0) (hs : get σ s = .av (.sl true 1 (l.map f))) (hxi : l[i]? = some ys) (hT : S.T t = some ti) (hv : ov σ v = .av (.int n)) (hc2 : Nat.beq ti.size 1 = true) (hj : j < ys.length) :
    EStep S ⟨none, .store t x v, ty, pos, aft, g⟩ σ (σ.upd true s (.av (.sl true 1 ((l.set i (ys.set j n)).map f)))) := by
  rw [List.map_set, hf, List.map_set]
  exact e_stR hx hs (by rw [List.getElem?_map, hxi, Option.map_some, hf]) hT hv rfl rfl rfl hc2 (by simpa using hj)

/-! ### a row taken out of a table -/
theorem RelL.takeRow {w0 : World} {L0 : Nat → Lab} {a : Act} {w : World} {L : Nat → Lab} (hR : RelL S w0 L0 N σ a w L) {s i d : Nat} {y : AV} {xs : List AV} (hs : get σ s = .av (.sl true 1 xs)) (hd : get σ d = .rref s i y) (hy : y ≠ .dead) (hsd : s ≠ d) (hi : i < xs.length) :
    RelL S w0 L0 N ((σ.upd false s (.av (.sl true 1 (xs.set i .dead)))).put d (.av y)) a w (mvl [s, i] d L) := by
  have hsN := own_lt hR hs (by simp)
  have hdN := own_lt hR hd (by simp)
  have hks : ∀ b, L b = .my [s] → mvl [s, i] d L b = .my [s] := fun b hb => mvl_keep hb hsd (by simp [strip])
  refine ⟨hR.defers, hR.size, hR.keep, hR.lok.mvl _ _, fun n hn => ?_, fun n hn => ?_, hR.fix, hR.glob⟩
  · simp only [get, kill_eq]
    by_cases hnd : d = n
    · subst hnd
      rw [Nat.beq_refl, cond_true]
      have := hR.hold d hdN
      rw [hd] at this
      obtain ⟨b, h1, h2, h3⟩ := this
      refine Rep.frame (Nat.le_refl _) rfl rfl rfl (fun b h1 _ => ⟨mvl_sh h1, rfl⟩) (h3 hy) _ fun p hp => ?_
      cases hp
      exact ⟨[d], rfl, fun b q hb => ⟨mvl_to hb, rfl⟩⟩
    · rw [not_beq hnd, cond_false]
      by_cases hns : s = n
      · subst hns
        rw [Nat.beq_refl, cond_true]
        simp only [TV.dep, cond_false]
        have hh := hR.hold s hn
        rw [hs] at hh
        simp only [Hold] at hh ⊢
        generalize a.tmps.getD s undef = sv at hh
        cases hh with
        | slE h => simp at hi
        | @slO p c xs b cap arr e u hL hb hcap hsz hcx hcl hr =>
          have hlen : (xs.set i .dead).length = xs.length := by simp
          rw [← hlen]
          refine .slO u (hks b hL) hb (by rw [hlen]; exact hcap) hsz (fun z hz => ?_) (fun o ho => by rw [hlen] at ho; exact hcl o ho) (fun o z hz => ?_)
          · rcases List.mem_or_eq_of_mem_set hz with h | h
            · exact hcx z h
            · rw [h]; rfl
          · rcases flat_set (z := .dead) hcx rfl o z hz with ⟨h1, h2, h3, h4⟩ | ⟨h1, h2⟩
            · have ho : o - i * 1 = 0 := by omega
              rw [ho] at h4
              simp only [AV.cells, List.getElem?_cons_zero, Option.some.injEq] at h4
              subst h4; exact .dead
            · have hne : o ≠ i := by omega
              refine Rep.frame (Nat.le_refl _) rfl rfl rfl (fun k h1 _ => ⟨mvl_sh h1, rfl⟩) (hr o z h2) _ fun p hp => ?_
              cases hp
              refine ⟨_, rfl, fun k q hk => ⟨?_, rfl⟩⟩
              exact mvl_keep (t := s) (q := o :: q) hk hsd (by simp [strip, not_beq (Ne.symm hne), Nat.beq_refl])
      · rw [not_beq hns, cond_false]
        have hh := hR.hold n hn
        have key : ∀ tv : TV, tv.dep s = false → tv.dep d = false → Hold L w a.tmps n tv (a.tmps.getD n undef) → Hold (mvl [s, i] d L) w a.tmps n tv (a.tmps.getD n undef) := fun tv hds hdt hh =>
          Hold.relab (good := fun m => m ≠ s ∧ m ≠ d) (Nat.le_refl _) rfl rfl rfl (fun k h1 _ => ⟨mvl_sh h1, rfl⟩) (fun k m q h1 h2 => ⟨mvl_keep h1 h2.2 (by simp only [strip, not_beq (fun e => h2.1 e.symm : s ≠ m), cond_false]), rfl⟩)
            (fun _ _ => rfl) ⟨fun e => hns e.symm, fun e => hnd e.symm⟩ (fun m hm => ⟨fun e => (by subst e; rw [hds] at hm; cases hm), fun e => (by subst e; rw [hdt] at hm; cases hm)⟩) hh
        generalize get σ n = tv at hh
        cases tv with
        | none => trivial
        | av x => exact key _ rfl rfl hh
        | ref s' =>
          simp only [TV.stale, TV.dep]
          cases Nat.beq s' d <;> first | exact hh | trivial
        | rref s' q y =>
          simp only [TV.stale]
          cases hb' : Nat.beq s' s with
          | true => trivial
          | false =>
            simp only [cond_false, TV.dep]
            cases hd' : Nat.beq s' d with
            | true => trivial
            | false => exact key _ hb' hd' hh
        | ptr s' q c y =>
          simp only [TV.stale]
          cases hb' : Nat.beq s' s with
          | true =>
            have := Nat.eq_of_beq_eq_true hb'; subst this
            simp only [cond_true, TV.dep, not_beq hsd, cond_false]
            obtain ⟨k, h1, h2, _⟩ := hh; exact ⟨k, hks k h1, h2, fun h => absurd rfl h⟩
          | false =>
            simp only [cond_false, TV.dep]
            cases hd' : Nat.beq s' d with
            | true => trivial
            | false => exact key _ hb' hd' hh
        | fpt s' o y =>
          simp only [TV.stale]
          cases hb' : Nat.beq s' s with
          | true =>
            have := Nat.eq_of_beq_eq_true hb'; subst this
            simp only [cond_true, TV.dep, not_beq hsd, cond_false]
            obtain ⟨k, h1, h2, _⟩ := hh; exact ⟨k, hks k h1, h2, fun h => absurd rfl h⟩
          | false =>
            simp only [cond_false, TV.dep]
            cases hd' : Nat.beq s' d with
            | true => trivial
            | false => exact key _ hb' hd' hh
        | rptr s' q j y =>
          simp only [TV.stale]
          cases hb' : Nat.beq s' s with
          | true => trivial
          | false =>
            simp only [cond_false, TV.dep]
            cases hd' : Nat.beq s' d with
            | true => trivial
            | false => exact key _ hb' hd' hh
        | dptr x => exact key _ rfl rfl hh
        | bdp s' x =>
          simp only [TV.stale]
          cases hb' : Nat.beq s' s with
          | true => trivial
          | false =>
            simp only [cond_false, TV.dep]
            cases hd' : Nat.beq s' d with
            | true => trivial
            | false => exact key _ hb' hd' hh
        | bor s' x =>
          simp only [TV.stale]
          cases hb' : Nat.beq s' s with
          | true => trivial
          | false =>
            simp only [cond_false, TV.dep]
            cases hd' : Nat.beq s' d with
            | true => trivial
            | false => exact key _ hb' hd' hh
        | clo f caps =>
          simp only [TV.stale, TV.dep]
          cases caps.any fun s => Nat.beq s d <;> first | exact hh | trivial
  · simp only [get, kill_eq]
    rw [not_beq (show d ≠ n by omega), cond_false, not_beq (show s ≠ n by omega), cond_false, hR.out n hn]; rfl
/-- append to a row that still stands in its table: it is taken out first. -/
theorem J.takeRow {q : Bool} {ops : Array Oper} {l : List Oper} {K : St → Prop} {dd t s i : Nat} {y : AV} {xs : List AV} {x2 : Operand} {ts : Array Nat} {ty : Nat} {pos : String} {aft : Array Edge} {g : Option (Nat × Bool)} (ht : get σ t = .rref s i y) (hs : get σ s = .av (.sl true 1 xs)) (hy : y ≠ .dead) (hst : Nat.beq s t = false) (hi : i < xs.length)
    (h : J q S N ops (⟨some dd, .call ⟨.builtin .append, #[.tmp t, x2], ts⟩, ty, pos, aft, g⟩ :: l) K ((σ.upd false s (.av (.sl true 1 (xs.set i .dead)))).put t (.av y))) : J q S N ops (⟨some dd, .call ⟨.builtin .append, #[.tmp t, x2], ts⟩, ty, pos, aft, g⟩ :: l) K σ := by
  unfold J at *
  cases q with
  | true => exact fun hd w0 L0 Q a w hQ ⟨L, hR⟩ => h hd w0 L0 Q a w hQ ⟨_, hR.takeRow hs ht hy (of_not_beq hst) hi⟩
  | false => exact fun hd w0 L0 Q a w hQ ⟨L, hR⟩ => h hd w0 L0 Q a w hQ ⟨_, hR.takeRow hs ht hy (of_not_beq hst) hi⟩

/-- What slot s holds may be read as something more common. -/
theorem CW.leS {c : Code} {Q : Exit → St → Prop} (s : Nat) {x y : AV} (hs : get σ s = .av x) (hle : AV.le x y) (h : CW S N c Q (σ.upd false s (.av y))) : CW S N c Q σ := by
  unfold CW at *
  refine fun w0 L0 Q' a w hQ ⟨L, hR⟩ => h w0 L0 Q' a w hQ ⟨L, hR.defers, hR.size, hR.keep, hR.lok, fun n hn => ?_, fun n hn => ?_, hR.fix, hR.glob⟩
  · simp only [get]
    by_cases hsn : s = n
    · subst hsn
      rw [Nat.beq_refl, cond_true]
      have := hR.hold s hn
      rw [hs] at this
      exact Rep.le hle this
    · rw [not_beq hsn, cond_false]
      have hh := hR.hold n hn
      generalize get σ n = tv at hh
      cases tv with
      | rref s' q y => simp only [TV.stale]; cases Nat.beq s' s <;> first | exact hh | trivial
      | ptr s' q c y => simp only [TV.stale]; cases Nat.beq s' s <;> first | exact hh | (obtain ⟨k, h1, h2, _⟩ := hh; exact ⟨k, h1, h2, fun h => absurd rfl h⟩)
      | fpt s' q y => simp only [TV.stale]; cases Nat.beq s' s <;> first | exact hh | (obtain ⟨k, h1, h2, _⟩ := hh; exact ⟨k, h1, h2, fun h => absurd rfl h⟩)
      | rptr s' q j y => simp only [TV.stale]; cases Nat.beq s' s <;> first | exact hh | trivial
      | bdp s' x => simp only [TV.stale]; cases Nat.beq s' s <;> first | exact hh | trivial
      | bor s' x => simp only [TV.stale]; cases Nat.beq s' s <;> first | exact hh | trivial
      | _ => exact hh
  · simp only [get]
    have := own_lt hR hs (by simp)
    rw [not_beq (show s ≠ n by omega), cond_false, hR.out n hn]; rfl
theorem sh_rowsO {m : List (List Int)} : (AV.sl true 1 (m.map fun r => .sl true 1 (r.map .int))).sh = .sl false 1 (m.map fun r => .sl false 1 (r.map .int)) := sh_rows
end
theorem or_nat (a b : Nat) (ha : a < 9223372036854775808) (hb : b < 9223372036854775808) : ((BitVec.ofInt 64 (a : Int)) ||| (BitVec.ofInt 64 (b : Int))).toNat = a ||| b := by
  rw [BitVec.toNat_or, toNat_ofInt64 a ha, toNat_ofInt64 b hb]
theorem s_orN {S : Sys} {σ : St} {d ty t t2 : Nat} {pos : String} {aft : Array Edge} {g : Option (Nat × Bool)} {x y : Operand} {a b : Nat} (hx : ov σ x = .av (.int (a : Int))) (hy : ov σ y = .av (.int (b : Int))) (hn : a < 9223372036854775808) (hm : b < 9223372036854775808) : Step S ⟨some d, .binOp .or t x y t2, ty, pos, aft, g⟩ σ (σ.put d (.av (.int ((a ||| b : Nat) : Int)))) :=
  s_bin2 hx hy rfl ⟨_, fun _ _ => .int, fun w => by
    have e := or_nat a b hn hm
    have hlt : a ||| b < 9223372036854775808 := Nat.or_lt_two_pow (n := 63) hn hm
    simp only [eqGuard, binOp, Op.intBits]
    rw [← wrap_lt hlt, ← e]; rfl⟩
theorem s_eqNN {S : Sys} {σ : St} {d ty : Nat} {pos : String} {aft : Array Edge} {g : Option (Nat × Bool)} {t t2 e sz by_ : Nat} {z : List AV} {x y : Operand} (hT : S.T t = some ⟨.slice e, sz, by_, z⟩) (hx : ov σ x = .av .nil) (hy : ov σ y = .av .nil) : Step S ⟨some d, .binOp .eql t x y t2, ty, pos, aft, g⟩ σ (σ.put d (.av (.bool true))) :=
  step_val rfl fun w0 L0 N c w L hR => ⟨.bool true, fun w' _ => by
    have hb := run_eqNil (S.ok t _ hT).slice none 0 0 w'
    simp only [execOp, ev_nil hR hx, ev_nil hR hy, eqGuard, Sem.run_bind]
    simp [hb], .bool⟩
theorem s_eqNilF {α : Type} {f : α → AV} {l : List α} {S : Sys} {σ : St} {d ty : Nat} {pos : String} {aft : Array Edge} {g : Option (Nat × Bool)} {t t2 e sz by_ c : Nat} {o : Bool} {z : List AV} {x y : Operand} (hx : rd σ (ov σ x) = .sl o c (l.map f)) (hy : ov σ y = .av .nil) (hT : S.T t = some ⟨.slice e, sz, by_, z⟩) (hl : l ≠ []) : Step S ⟨some d, .binOp .eql t x y t2, ty, pos, aft, g⟩ σ (σ.put d (.av (.bool false))) :=
  step_val rfl fun w0 L0 N a w L hR => by
    obtain ⟨L', π, _, _, hrep⟩ := rd_ok hR hx (by simp)
    obtain ⟨aa, cap, hv⟩ := sl_inv hrep
    have hne : aa.isNone = false := by
      cases l with
      | nil => exact absurd rfl hl
      | cons y0 r =>
        obtain ⟨b, off, cap', hv', _⟩ := elem_cells hrep (i := 0) (y := f y0) rfl
        rw [hv] at hv'
        injection hv' with h1
        rw [h1]; rfl
    refine ⟨.bool false, fun w' _ => ?_, .bool⟩
    have hb := run_eqNil (S.ok t _ hT).slice aa l.length cap w'
    simp only [execOp, hv, ev_nil hR hy, eqGuard, Sem.run_bind]
    simp [hb, hne]
section
variable {S : Sys} {N : Nat} {σ : St} {q : Bool} {ops : Array Oper} {l : List Oper} {K : St → Prop} {o : Oper}
/-- What isn't carried out leaves the word 'undef'. -/
theorem J.skipU {d : Nat} (hg : live ops o.guard σ = some false) (hd : o.dst = some d) (h : J q S N ops l K (σ.put d (.av (.val undef)))) : J q S N ops (o :: l) K σ := by
  unfold J at *
  have put : ∀ {w0 : World} {L0 : Nat → Lab} {a : Act} {w : World}, DOk S N d → Rel S w0 L0 N σ a w → Rel S w0 L0 N (σ.put d (.av (.val undef))) (a.put o.dst undef) w := fun hlt ⟨L, hR⟩ => ⟨_, by rw [hd]; exact hR.put hlt .val⟩
  cases q with
  | true =>
    intro hdo w0 L0 Q a w hQ hR
    obtain ⟨h1, h2⟩ := dstOk_cons hdo
    simp only [wpQuiet, live_wanted hg hR, Bool.false_eq_true, if_false]
    exact h h2 w0 L0 Q _ w hQ (put (h1 d hd) hR)
  | false =>
    intro hdo w0 L0 Q a w hQ hR
    obtain ⟨h1, h2⟩ := dstOk_cons hdo
    simp only [wpList, live_wanted hg hR, Bool.false_eq_true, if_false]
    exact h h2 w0 L0 Q _ w hQ (put (h1 d hd) hR)
def gsl (ops : Array Oper) : Option (Nat × Bool) → Option Nat
  | none => none
  | some (j, _) => (ops[j]?).bind (·.dst)
/-- .. nor is what waits for such a word. -/
theorem J.skipV {d t : Nat} (hg : gsl ops o.guard = some t) (ht : get σ t = .av (.val undef)) (hd : o.dst = some d) (h : J q S N ops l K (σ.put d (.av (.val undef)))) : J q S N ops (o :: l) K σ := by
  have hw : ∀ {w0 : World} {L0 : Nat → Lab} {a : Act} {w : World}, Rel S w0 L0 N σ a w → Region.wanted o (yielded ops a.tmps) = false := fun {w0 L0 a w} ⟨L, hR⟩ => by
    have hh := hR.hold t (own_lt hR ht (by simp))
    rw [ht] at hh
    unfold Region.wanted
    cases hgd : o.guard with
    | none => rw [hgd] at hg; cases hg
    | some jb =>
      obtain ⟨j, c⟩ := jb
      rw [hgd] at hg
      simp only [gsl] at hg
      have hv : a.tmps.getD t undef = undef := by generalize a.tmps.getD t undef = v at hh; cases hh; rfl
      simp only [yielded, hg, Option.bind_some]
      rw [Array.getD_eq_getD_getElem?] at hv
      cases ht' : a.tmps[t]? with
      | none => rfl
      | some v => rw [ht'] at hv; simp only [Option.getD_some] at hv; subst hv; rfl
  unfold J at *
  have put : ∀ {w0 : World} {L0 : Nat → Lab} {a : Act} {w : World}, DOk S N d → Rel S w0 L0 N σ a w → Rel S w0 L0 N (σ.put d (.av (.val undef))) (a.put o.dst undef) w := fun hlt ⟨L, hR⟩ => ⟨_, by rw [hd]; exact hR.put hlt .val⟩
  cases q with
  | true =>
    intro hdo w0 L0 Q a w hQ hR
    obtain ⟨h1, h2⟩ := dstOk_cons hdo
    simp only [wpQuiet, hw hR, Bool.false_eq_true, if_false]
    exact h h2 w0 L0 Q _ w hQ (put (h1 d hd) hR)
  | false =>
    intro hdo w0 L0 Q a w hQ hR
    obtain ⟨h1, h2⟩ := dstOk_cons hdo
    simp only [wpList, hw hR, Bool.false_eq_true, if_false]
    exact h h2 w0 L0 Q _ w hQ (put (h1 d hd) hR)
end
/-! ### rows and tables -/
abbrev rwO (r : List Int) : AV := .sl true 1 (r.map .int)
theorem e_stRI {S : Sys} {σ : St} {l : List (List Int)} {ys : List Int} {t : Nat} {ti : TI} {x v : Operand} {s i j : Nat} {y0 : AV} {n : Int} {ty : Nat} {pos : String} {aft : Array Edge} {g : Option (Nat × Bool)} (hx : ov σ x = .rptr s i j y0) (hs : get σ s = .av (.sl true 1 (l.map rwO))) (hxi : l[i]? = some ys) (hT : S.T t = some ti) (hv : ov σ v = .av (.int n)) (hc2 : Nat.beq ti.size 1 = true) (hj : j < ys.length) :
    EStep S ⟨none, .store t x v, ty, pos, aft, g⟩ σ (σ.upd true s (.av (.sl true 1 ((l.set i (ys.set j n)).map rwO)))) := e_stRM (fun _ => rfl) hx hs hxi hT hv hc2 hj
theorem noSh_tup2 {a b : AV} (ha : NoSh a) (hb : NoSh b) : NoSh (.tup [a, b]) := .tup fun x hx => by
  rcases List.mem_cons.1 hx with rfl | hx
  · exact ha
  · rw [List.mem_singleton.1 hx]; exact hb
def tb {α : Type} (n : Nat) (g : Nat → α) : List α := (List.range n).map g
@[simp] theorem tb_length {α : Type} {n : Nat} {g : Nat → α} : (tb n g).length = n := by simp [tb]
theorem tb_get {α : Type} {n x : Nat} {g : Nat → α} (h : x < n) : (tb n g)[x]? = some (g x) := by simp [tb, h]
theorem tb_congr {α : Type} {n : Nat} {g h : Nat → α} (e : ∀ a, a < n → g a = h a) : tb n g = tb n h := List.map_congr_left fun a ha => e a (List.mem_range.1 ha)
theorem tb_set {α : Type} {n x : Nat} {g : Nat → α} {v : α} : (tb n g).set x v = tb n fun a => if a = x then v else g a := by
  apply List.ext_getElem?
  intro j
  by_cases hj : j < n
  · rw [tb_get hj, List.getElem?_set, tb_length, tb_get hj]
    by_cases hx : x = j
    · subst hx; rw [if_pos rfl, if_pos hj, if_pos rfl]
    · rw [if_neg hx, if_neg (fun e => hx e.symm)]
  · rw [List.getElem?_eq_none (by simp; omega), List.getElem?_eq_none (by simp; omega)]
theorem tb_replicate {α : Type} {n : Nat} {v : α} : List.replicate n v = tb n fun _ => v := by
  apply List.ext_getElem?
  intro j
  by_cases hj : j < n
  · rw [tb_get hj]; simp [hj]
  · rw [List.getElem?_eq_none (by simp; omega), List.getElem?_eq_none (by simp; omega)]
/-- A test of ints, as a function value. -/
def fnI (P : Program) (D : Int → Prop) (p : Int → Bool) : AV := .fn (BehA P (fun xs9 => ∃ x, xs9 = [.int x] ∧ D x) (fun xs9 => match xs9 with | [.int n] => .bool (p n) | _ => .bool false))
theorem ArgOk.funI {S : Sys} {N : Nat} {σ : St} {f : Nat} {D : Int → Prop} {p : Int → Bool} (hf : FnOk S.P f) (hs : ∀ x, D x → FnSpec S.P f [.int x] [.int x] (.bool (p x))) : ArgOk S N σ (.func f) true (fnI S.P D p) :=
  .func rfl hf (fun xs9 hd => by obtain ⟨x, rfl, hx⟩ := hd; exact hs x hx) (fun xs9 hd => by obtain ⟨x, rfl, hx⟩ := hd; rfl)
end FM

/- Variables in memory: boxes, fields, arrays. No program in sight. -/
namespace FM
open Go Go.RowKit
set_option linter.unusedVariables false
section
variable {S : Sys} {N : Nat} {σ : St} {d : Nat} {ty : Nat} {pos : String} {aft : Array Edge} {g : Option (Nat × Bool)}
/-- A new variable of a type. -/
theorem e_alloc {t : Nat} {ti : TI} (hT : S.T t = some ti) : EStep S ⟨some d, .alloc t, ty, pos, aft, g⟩ σ (σ.put d (.av (.pt true ti.zero))) := by
  intro w0 L0 N a w hN ⟨L, hR⟩
  obtain ⟨f, zv, hf1, hf2, hf3, hf4, hf5, hf6, hf7⟩ := (S.ok t ti hT).info
  refine ⟨.pointer (some ⟨w.heap.size, 0, none⟩), w.alloc (.cells zv.cells t), .inl ?_, hR.alloc (hN d rfl) ?_⟩
  · simp [execOp, Instr.alloc, zeroValue, typeInfo, hf1, hf4, newVar, newRow]
  have hlen : zv.cells.size = ti.zero.length := by rw [← Array.length_toList, hf5, List.length_map]
  refine .ptO (fun o => (zv.cells[o]?).getD undef) (by simp [setL]) (heap_alloc_new w _) hlen (fun o ho => ?_) (fun o y hy => ?_)
  · have : o < zv.cells.size := by omega
    simp [this]
  · have e1 : zv.cells.toList[o]? = some y.toV := by rw [hf5, List.getElem?_map, hy]; rfl
    rw [Array.getElem?_toList] at e1
    rw [e1]
    exact toV_rep ((List.all_eq_true.1 hf6) y (List.mem_of_getElem? hy))

/-- A new variable that holds a value. -/
theorem e_box {t : Nat} {v : Operand} {z : AV} (hv : ov σ v = .av z) (hz : z.isOwn = false) (hok : z.varOk = true) : EStep S ⟨some d, .box t v, ty, pos, aft, g⟩ σ (σ.put d (.av (.pt true z.cells))) := by
  intro w0 L0 N a w hN ⟨L, hR⟩
  obtain ⟨v1, v2, v3⟩ := val_cells hR hv hz hok
  refine ⟨.pointer (some ⟨w.heap.size, 0, none⟩), w.alloc (.cells (a.eval v).cells t), .inl ?_, hR.alloc (hN d rfl) ?_⟩
  · simp [execOp, Instr.box, newVar, newRow]
  refine .ptO (fun o => ((a.eval v).cells[o]?).getD undef) (by simp [setL]) (heap_alloc_new w _) v1 (fun o ho => ?_) (fun o y hy => ?_)
  · have : o < (a.eval v).cells.size := by omega
    simp [this]
  · obtain ⟨u, h1, h2⟩ := v3 o y hy
    rw [h1]
    exact (Rep.inNew hR h2).any _
theorem pt_core {t : Nat} {ti : TI} (hT : S.T t = some ti) {L : Nat → Lab} {w : World} {p : List Nat} {off b : Nat} {cs cs' zs : List AV} {v zv : Value} (hL : L b = .my p) (hinj : ∀ b b' p, L b = .my p → L b' = .my p → b = b')
    (hh : Rep L w (some p) (.pt true cs) v) (hfit : off + zs.length ≤ cs.length) (hz : zs.length = ti.size) (v1 : zv.cells.size = zs.length) (v2 : ∀ u ∈ zv.cells.toList, u.oneCell' = true) (v3 : ∀ (j : Nat) y, zs[j]? = some y → ∃ u, zv.cells[j]? = some u ∧ Rep L w none y u)
    (hl : cs'.length = cs.length) (hcs : ∀ (j : Nat) y, cs'[j]? = some y → (off ≤ j ∧ j < off + zs.length ∧ zs[j - off]? = some y) ∨ (¬ (off ≤ j ∧ j < off + zs.length) ∧ cs[j]? = some y)) :
    ∃ W : World, (Instr.storeAt t (.pointer (some ⟨b, off, none⟩)) zv).run S.P w = .ok () W ∧ W.heap.size = w.heap.size ∧ W.os = w.os ∧ W.tape = w.tape ∧ W.output = w.output ∧ (∀ k, k ≠ b → W.heap[k]? = w.heap[k]?) ∧ Rep L W (some p) (.pt true cs') v := by
  cases hh with
  | @ptO p cs b' arr e u hL' hb hsz hcell hr =>
    have := hinj _ _ _ hL hL'
    subst this
    obtain ⟨A, hrun, hAsz, harr⟩ : ∃ A : Array Value, (Instr.storeAt t (.pointer (some ⟨b, off, none⟩)) zv).run S.P w = .ok () (w.setRow b A) ∧ A.size = arr.size ∧ ∀ j, A[j]? = if off ≤ j ∧ j < off + zv.cells.size then zv.cells[j - off]? else arr[j]? :=
      ⟨_, run_store_at (S := S) hT (off := off) (v := zv) hb (by omega) v2 (by omega), by simp; omega, fun j => by
        have := getElem?_splice arr.toList zv.cells.toList off j (by simp; omega)
        simpa using this⟩
    have hother : ∀ k, k ≠ b → (w.setRow b A).heap[k]? = w.heap[k]? := fun k hk => setRow_other w b k A hk
    have hnew := setRow_heap w b arr A e (0, 0) hb
    have hsz' : (w.setRow b A).heap.size = w.heap.size := by simp
    have ho : (w.setRow b A).os = w.os := rfl
    have ht : (w.setRow b A).tape = w.tape := rfl
    have hu : (w.setRow b A).output = w.output := rfl
    generalize w.setRow b A = W at hrun hother hnew hsz' ho ht hu
    refine ⟨W, hrun, hsz', ho, ht, hu, hother, ?_⟩
    have hslots : ∀ π (y : AV) (u : Value), Rep L w π y u → (∀ p', π = some p' → ∃ o q, p' = p ++ o :: q) → Rep L W π y u := fun π y u h hπ =>
      h.frame (by omega) ho ht hu (fun k hk _ => ⟨hk, hother k (fun e => by subst e; rw [hL] at hk; cases hk)⟩) π fun p' hp' => ⟨p', hp', fun k q hk => ⟨hk, hother k (fun e => by
        subst e
        obtain ⟨o, q', rfl⟩ := hπ p' hp'
        rw [hL] at hk; injection hk with hk
        have := congrArg List.length hk
        simp at this)⟩⟩
    refine .ptO (fun o => (A[o]?).getD undef) hL hnew (by omega) (fun o ho => ?_) (fun o y hy => ?_)
    · have : o < A.size := by omega
      simp [this]
    · rw [harr]
      rcases hcs o y hy with ⟨h1, h2, h3⟩ | ⟨h1, h2⟩
      · rw [if_pos (by omega)]
        obtain ⟨u', hu', hr'⟩ := v3 _ y h3
        rw [hu']
        exact (hslots none y u' hr' (fun p hp => by cases hp)).any _
      · rw [if_neg (by omega)]
        have ho : o < cs.length := (List.getElem?_eq_some_iff.1 h2).1
        rw [hcell o ho]
        exact hslots _ y _ (hr o y h2) (fun p hp => by cases hp; exact ⟨o, [], rfl⟩)
/-- A slot that holds a pointer to what this call owns. -/
theorem pt_at {L : Nat → Lab} {w : World} {p : List Nat} {cs : List AV} {v : Value} (h : Rep L w (some p) (.pt true cs) v) : ∃ b, L b = .my p ∧ v = .pointer (some ⟨b, 0, none⟩) ∧ b < w.heap.size ∧ ∀ (j : Nat) z, cs[j]? = some z → ∃ u, w.cell? ⟨b, j, none⟩ = some u ∧ Rep L w (some (p ++ [j])) z u := by
  cases h with
  | @ptO p cs b arr e u hL hb hsz hcell hr =>
    exact ⟨b, hL, rfl, (Array.getElem?_eq_some_iff.1 hb).1, fun j z hz => ⟨u j, by rw [cell_of_row w b j arr e (0, 0) hb]; exact hcell j (List.getElem?_eq_some_iff.1 hz).1, hr j z hz⟩⟩
/-- The whole variable is stored. -/
theorem e_stPt {t s : Nat} {ti : TI} {v : Operand} {cs : List AV} {z : AV} (hs : get σ s = .av (.pt true cs)) (hT : S.T t = some ti) (hv : ov σ v = .av z) (hz : z.isOwn = false) (hok : z.varOk = true) (hc : Nat.beq z.cells.length ti.size = true) (hc2 : Nat.beq cs.length ti.size = true) :
    EStep S ⟨none, .store t (.tmp s) v, ty, pos, aft, g⟩ σ (σ.upd false s (.av (.pt true z.cells))) := by
  intro w0 L0 N a w _ ⟨L, hR⟩
  have hc1 := Nat.eq_of_beq_eq_true hc
  have hc3 := Nat.eq_of_beq_eq_true hc2
  have hsN := own_lt hR hs (by simp)
  have hh := hR.hold s hsN
  rw [hs] at hh
  simp only [Hold] at hh
  obtain ⟨v1, v2, v3⟩ := val_cells hR hv hz hok
  obtain ⟨b, hL, hp, _, _⟩ := pt_at hh
  obtain ⟨W, hrun, hsz, ho, ht, hu, hother, hrep⟩ := pt_core hT (off := 0) (zs := z.cells) (cs' := z.cells) hL hR.lok.inj hh (by omega) hc1 v1 v2 v3 (by omega) (fun j y hy => .inl ⟨Nat.zero_le _, by have := (List.getElem?_eq_some_iff.1 hy).1; omega, by simpa using hy⟩)
  have hev : a.eval (.tmp s) = .pointer (some ⟨b, 0, none⟩) := hp
  exact ⟨undef, W, .inr ⟨by simp only [execOp, hev, Sem.run_bind, hrun]; rfl, rfl⟩, L, hR.write (b := b) (q0 := []) hsN hL hsz ho ht hu hother hrep false (fun h => by cases h)⟩
/-- One cell of a variable is stored: a field, an element of an array. -/
theorem e_stF {t s o : Nat} {ti : TI} {x v : Operand} {cs : List AV} {y0 z : AV} (hx : ov σ x = .fpt s o y0) (hs : get σ s = .av (.pt true cs)) (hT : S.T t = some ti) (hv : ov σ v = .av z) (hz : z.isOwn = false) (hok : z.varOk = true) (h1 : z.cells = [z]) (hc2 : Nat.beq ti.size 1 = true) (ho : o < cs.length) :
    EStep S ⟨none, .store t x v, ty, pos, aft, g⟩ σ (σ.upd false s (.av (.pt true (cs.set o z)))) := by
  intro w0 L0 N a w _ ⟨L, hR⟩
  have hc3 := Nat.eq_of_beq_eq_true hc2
  obtain ⟨_, ⟨b, hL, hp, _⟩, _⟩ := hold_plain hR hx (by simp)
  have hsN := own_lt hR hs (by simp)
  have hh := hR.hold s hsN
  rw [hs] at hh
  simp only [Hold] at hh
  obtain ⟨v1, v2, v3⟩ := val_cells hR hv hz hok
  obtain ⟨W, hrun, hsz, ho', ht, hu, hother, hrep⟩ := pt_core hT (off := o) (zs := z.cells) (cs' := cs.set o z) hL hR.lok.inj hh (by rw [h1]; simp; omega) (by rw [h1, hc3]; rfl) v1 v2 v3 (by simp) (fun j y hy => by
    rw [List.getElem?_set] at hy
    rw [h1]
    by_cases hoj : o = j
    · subst hoj
      rw [if_pos rfl, if_pos ho] at hy
      exact .inl ⟨Nat.le_refl _, by simp, by simpa using hy⟩
    · rw [if_neg hoj] at hy
      exact .inr ⟨by simp; omega, hy⟩)
  exact ⟨undef, W, .inr ⟨by simp only [execOp, hp, Sem.run_bind, hrun]; rfl, rfl⟩, L, hR.write (b := b) (q0 := []) hsN hL hsz ho' ht hu hother hrep false (fun h => by cases h)⟩
theorem e_stFM {α : Type} {f : α → AV} {l : List α} {n : α} {t s o : Nat} {ti : TI} {x v : Operand} {y0 : AV} (hx : ov σ x = .fpt s o y0) (hs : get σ s = .av (.pt true (l.map f))) (hT : S.T t = some ti) (hv : ov σ v = .av (f n)) (hz : (f n).isOwn = false) (hok : (f n).varOk = true) (h1 : (f n).cells = [f n]) (hc2 : Nat.beq ti.size 1 = true) (ho : o < l.length) :
    EStep S ⟨none, .store t x v, ty, pos, aft, g⟩ σ (σ.upd false s (.av (.pt true ((l.set o n).map f)))) := by
  rw [List.map_set]
  exact e_stF hx hs hT hv hz hok h1 hc2 (by simpa using ho)

theorem run_fieldAt {P : Program} {t i c : Nat} {fields : Array Field} {f : Field} (hu : P.underlying t = some (.struct fields)) (hf : fields[i]? = some f) (hs : ∃ fi, P.info? f.type = some fi ∧ fi.size = c) (hc : c ≠ 0) (b off : Nat) (w : World) :
    (Instr.fieldAt t (.pointer (some ⟨b, off, none⟩)) i).run P w = .ok (.pointer (some ⟨b, off + f.offset, none⟩)) w := by
  obtain ⟨fi, h1, h2⟩ := hs
  subst h2
  simp [Instr.fieldAt, run_underlying hu, hf, Instr.sureAddr, fieldPlace, Go.sizeOf, typeInfo, h1, hc, addr_add]
theorem TOk.fld {P : Program} {t sz by_ i off fty : Nat} {fs : List (Nat × Nat)} {z : List AV} (h : TOk P t ⟨.struct fs, sz, by_, z⟩) (hf : fs[i]? = some (off, fty)) : ∃ fields f, P.underlying t = some (.struct fields) ∧ fields[i]? = some f ∧ f.offset = off ∧ f.type = fty := by
  obtain ⟨d, hd, fields, he, hl⟩ := h.desc
  subst he
  rw [← hl, List.getElem?_map, Option.map_eq_some_iff] at hf
  obtain ⟨f, h1, h2⟩ := hf
  injection h2 with h3 h4
  exact ⟨fields, f, hd, by simpa using h1, h3, h4⟩
/-- x.f of a variable that slot s points to. -/
theorem s_fadO {t sz by_ i off fty s : Nat} {fs : List (Nat × Nat)} {zz cs : List AV} {tif : TI} {y : AV} (hs : get σ s = .av (.pt true cs)) (hT : S.T t = some ⟨.struct fs, sz, by_, zz⟩) (hf : fs[i]? = some (off, fty)) (hF : S.T fty = some tif) (hc : Nat.beq tif.size 0 = false) (hy : cs[off]? = some y) (h1 : y.cells = [y]) (hsd : Nat.beq s d = false) :
    Step S ⟨some d, .fieldAddr t (.tmp s) i, ty, pos, aft, g⟩ σ (σ.put d (.fpt s off y)) := by
  intro w0 L0 N a w hN ⟨L, hR⟩
  have hh := hR.hold s (own_lt hR hs (by simp))
  rw [hs] at hh
  simp only [Hold] at hh
  obtain ⟨b, hL, hp, _, hcs⟩ := pt_at hh
  obtain ⟨fields, f, hu, hfi, h2, h3⟩ := (S.ok t _ hT).fld hf
  have hev : a.eval (.tmp s) = .pointer (some ⟨b, 0, none⟩) := hp
  have hsz := (S.ok fty _ hF).size
  rw [← h3] at hsz
  refine ⟨.pointer (some ⟨b, 0 + f.offset, none⟩), fun w' _ => ?_, Rel.putPlain (n := d) hR (hN d rfl) rfl hsd ⟨b, hL, by rw [h2]; simp, fun _ j z hz => ?_⟩⟩
  · simp only [execOp, hev, Sem.run_bind, run_fieldAt hu hfi hsz (of_not_beq hc)]; rfl
  · rw [h1] at hz
    cases j with
    | zero => simp only [List.getElem?_cons_zero, Option.some.injEq] at hz; subst hz; simpa using hcs off _ hy
    | succ j => simp at hz
theorem s_fadR {t sz by_ i off fty s q : Nat} {fs : List (Nat × Nat)} {zz cs : List AV} {tif : TI} {y : AV} (hq : get σ q = .ref s) (hs : get σ s = .av (.pt true cs)) (hT : S.T t = some ⟨.struct fs, sz, by_, zz⟩) (hf : fs[i]? = some (off, fty)) (hF : S.T fty = some tif) (hc : Nat.beq tif.size 0 = false) (hy : cs[off]? = some y) (h1 : y.cells = [y]) (hsd : Nat.beq s d = false) :
    Step S ⟨some d, .fieldAddr t (.tmp q) i, ty, pos, aft, g⟩ σ (σ.put d (.fpt s off y)) := by
  intro w0 L0 N a w hN ⟨L, hR⟩
  have hh := hR.hold s (own_lt hR hs (by simp))
  have hh2 := hR.hold q (own_lt hR hq (by simp))
  rw [hs] at hh
  rw [hq] at hh2
  simp only [Hold] at hh hh2
  obtain ⟨b, hL, hp, _, hcs⟩ := pt_at hh
  obtain ⟨fields, f, hu, hfi, h2, h3⟩ := (S.ok t _ hT).fld hf
  have hev : a.eval (.tmp q) = .pointer (some ⟨b, 0, none⟩) := hh2.trans hp
  have hsz := (S.ok fty _ hF).size
  rw [← h3] at hsz
  refine ⟨.pointer (some ⟨b, 0 + f.offset, none⟩), fun w' _ => ?_, Rel.putPlain (n := d) hR (hN d rfl) rfl hsd ⟨b, hL, by rw [h2]; simp, fun _ j z hz => ?_⟩⟩
  · simp only [execOp, hev, Sem.run_bind, run_fieldAt hu hfi hsz (of_not_beq hc)]; rfl
  · rw [h1] at hz
    cases j with
    | zero => simp only [List.getElem?_cons_zero, Option.some.injEq] at hz; subst hz; simpa using hcs off _ hy
    | succ j => simp at hz
/-- .. of a variable that is shared. -/
theorem s_fadD {t sz by_ i off fty : Nat} {fs : List (Nat × Nat)} {zz cs : List AV} {tif : TI} {y : AV} {x : Operand} (hx : ov σ x = .dptr (.agg cs)) (hT : S.T t = some ⟨.struct fs, sz, by_, zz⟩) (hf : fs[i]? = some (off, fty)) (hF : S.T fty = some tif) (hc : Nat.beq tif.size 0 = false) (hy : cs[off]? = some y) (h1 : y.cells = [y]) :
    Step S ⟨some d, .fieldAddr t x i, ty, pos, aft, g⟩ σ (σ.put d (.dptr y)) := by
  intro w0 L0 N a w hN ⟨L, hR⟩
  obtain ⟨_, ⟨b, o, hv, hb, hlt, hcs⟩, _⟩ := hold_plain hR hx (by simp)
  obtain ⟨fields, f, hu, hfi, h2, h3⟩ := (S.ok t _ hT).fld hf
  have hsz := (S.ok fty _ hF).size
  rw [← h3] at hsz
  refine ⟨.pointer (some ⟨b, o + f.offset, none⟩), fun w' _ => ?_, Rel.putPlain (n := d) hR (hN d rfl) rfl rfl ⟨b, o + f.offset, rfl, hb, hlt, fun j z hz => ?_⟩⟩
  · simp only [execOp, hv, Sem.run_bind, run_fieldAt hu hfi hsz (of_not_beq hc)]; rfl
  · rw [h1] at hz
    cases j with
    | zero => simp only [List.getElem?_cons_zero, Option.some.injEq] at hz; subst hz; rw [h2]; exact hcs off _ hy
    | succ j => simp at hz
theorem s_fadS {t sz by_ i off fty : Nat} {fs : List (Nat × Nat)} {zz cs : List AV} {tif : TI} {y : AV} {x : Operand} (hx : ov σ x = .av (.pt false cs)) (hT : S.T t = some ⟨.struct fs, sz, by_, zz⟩) (hf : fs[i]? = some (off, fty)) (hF : S.T fty = some tif) (hc : Nat.beq tif.size 0 = false) (hy : cs[off]? = some y) (h1 : y.cells = [y]) :
    Step S ⟨some d, .fieldAddr t x i, ty, pos, aft, g⟩ σ (σ.put d (.dptr y)) := by
  intro w0 L0 N a w hN ⟨L, hR⟩
  obtain ⟨n, hn⟩ := ev_av hR hx
  generalize hev : a.eval x = v at hn
  cases hn with
  | @ptS _ _ b o u hb hlt hcell hr =>
    obtain ⟨fields, f, hu, hfi, h2, h3⟩ := (S.ok t _ hT).fld hf
    have hsz := (S.ok fty _ hF).size
    rw [← h3] at hsz
    refine ⟨.pointer (some ⟨b, o + f.offset, none⟩), fun w' _ => ?_, Rel.putPlain (n := d) hR (hN d rfl) rfl rfl ⟨b, o + f.offset, rfl, hb, hlt, fun j z hz => ?_⟩⟩
    · simp only [execOp, hev, Sem.run_bind, run_fieldAt hu hfi hsz (of_not_beq hc)]; rfl
    · rw [h1] at hz
      cases j with
      | zero => simp only [List.getElem?_cons_zero, Option.some.injEq] at hz; subst hz; rw [h2]; exact ⟨_, hcell off (List.getElem?_eq_some_iff.1 hy).1, hr off _ hy⟩
      | succ j => simp at hz
/-- .. of an element of a slice that this call owns. -/
theorem s_fadP {t sz by_ i off fty s e c : Nat} {fs : List (Nat × Nat)} {zz cs : List AV} {tif : TI} {y : AV} {x : Operand} (hx : ov σ x = .ptr s e c (.agg cs)) (hT : S.T t = some ⟨.struct fs, sz, by_, zz⟩) (hf : fs[i]? = some (off, fty)) (hF : S.T fty = some tif) (hc : Nat.beq tif.size 0 = false) (hy : cs[off]? = some y) (h1 : y.cells = [y]) (hsd : Nat.beq s d = false) :
    Step S ⟨some d, .fieldAddr t x i, ty, pos, aft, g⟩ σ (σ.put d (.fpt s (e * c + off) y)) := by
  intro w0 L0 N a w hN ⟨L, hR⟩
  obtain ⟨_, ⟨b, hL, hv, hcs⟩, _⟩ := hold_plain hR hx (by simp)
  obtain ⟨fields, f, hu, hfi, h2, h3⟩ := (S.ok t _ hT).fld hf
  have hsz := (S.ok fty _ hF).size
  rw [← h3] at hsz
  refine ⟨.pointer (some ⟨b, e * c + f.offset, none⟩), fun w' _ => ?_, Rel.putPlain (n := d) hR (hN d rfl) rfl hsd ⟨b, hL, by rw [h2], fun _ j z hz => ?_⟩⟩
  · simp only [execOp, hv, Sem.run_bind, run_fieldAt hu hfi hsz (of_not_beq hc)]; rfl
  · rw [h1] at hz
    cases j with
    | zero => simp only [List.getElem?_cons_zero, Option.some.injEq] at hz; subst hz; simpa using hcs AV.noConfusion off _ hy
    | succ j => simp at hz

/-- The whole variable is loaded. -/
theorem s_ldO {t s : Nat} {ti : TI} {cs : List AV} {y : AV} (hs : get σ s = .av (.pt true cs)) (hT : S.T t = some ti) (hy : y.cells = cs) (hf : y.fits ti = true) (hp : y.isOwn = false) (hn : y.noOwn = true) : Step S ⟨some d, .load t (.tmp s), ty, pos, aft, g⟩ σ (σ.put d (.av y)) :=
  step_val hp fun w0 L0 N a w L hR => by
    have hh := hR.hold s (own_lt hR hs (by simp))
    rw [hs] at hh
    simp only [Hold] at hh
    obtain ⟨b, hL, hpv, hlt, hcs⟩ := pt_at hh
    obtain ⟨v, h1, h2, _⟩ := load_core (S.ok t ti hT) hf (off := 0) hlt (noOwn_spec hn) (π := fun j => some ([s] ++ [j])) (fun j z hz => by rw [hy] at hz; rw [Nat.zero_add]; exact hcs j z hz)
    have hev : a.eval (.tmp s) = .pointer (some ⟨b, 0, none⟩) := hpv
    exact ⟨v, fun w' e => by simp only [execOp, hev, Instr.loadAt, Instr.sureAddr]; simp [h1 w' e], Rep.replace h2 hp⟩
theorem s_ldS {t : Nat} {ti : TI} {cs : List AV} {y : AV} {x : Operand} (hx : ov σ x = .av (.pt false cs)) (hT : S.T t = some ti) (hy : y.cells = cs) (hf : y.fits ti = true) (hp : y.isOwn = false) (hn : y.noOwn = true) : Step S ⟨some d, .load t x, ty, pos, aft, g⟩ σ (σ.put d (.av y)) :=
  step_val hp fun w0 L0 N a w L hR => by
    obtain ⟨n, hn'⟩ := ev_av hR hx
    generalize hev : a.eval x = v at hn'
    cases hn' with
    | @ptS _ _ b o u hb hlt hcell hr =>
      obtain ⟨v, h1, h2, _⟩ := load_core (S.ok t ti hT) hf (off := o) hlt (noOwn_spec hn) (π := fun _ => none) (fun j z hz => by rw [hy] at hz; exact ⟨u j, hcell j (List.getElem?_eq_some_iff.1 hz).1, hr j z hz⟩)
      exact ⟨v, fun w' e => by simp only [execOp, hev, Instr.loadAt, Instr.sureAddr]; simp [h1 w' e], h2⟩
/-- Single cells. -/
theorem s_ldO1 {t s : Nat} {ti : TI} {y : AV} (hs : get σ s = .av (.pt true [y])) (hT : S.T t = some ti) (hy : y.cells = [y]) (hf : y.fits ti = true) (hp : y.isOwn = false) (hn : y.noOwn = true) : Step S ⟨some d, .load t (.tmp s), ty, pos, aft, g⟩ σ (σ.put d (.av y)) := s_ldO hs hT hy hf hp hn
theorem s_ldS1 {t : Nat} {ti : TI} {y : AV} {x : Operand} (hx : ov σ x = .av (.pt false [y])) (hT : S.T t = some ti) (hy : y.cells = [y]) (hf : y.fits ti = true) (hp : y.isOwn = false) (hn : y.noOwn = true) : Step S ⟨some d, .load t x, ty, pos, aft, g⟩ σ (σ.put d (.av y)) := s_ldS hx hT hy hf hp hn
theorem s_ldOA {t s : Nat} {ti : TI} {cs : List AV} (hs : get σ s = .av (.pt true cs)) (hT : S.T t = some ti) (hf : (AV.agg cs).fits ti = true) (hn : (AV.agg cs).noOwn = true) : Step S ⟨some d, .load t (.tmp s), ty, pos, aft, g⟩ σ (σ.put d (.av (.agg cs))) := s_ldO hs hT rfl hf rfl hn

/-- a[i] of an array that slot s points to. -/
theorem run_indexArr {P : Program} {t e c m : Nat} {b off : Nat} {i : Int} (ht : P.underlying t = some (.array m e)) (hs : ∃ f, P.info? e = some f ∧ f.size = c) (h0 : 0 ≤ i) (h1 : i.toNat < m) (w : World) :
    (Instr.indexAt t (.pointer (some ⟨b, off, none⟩)) (.int .i64 i)).run P w = .ok (.pointer (some ⟨b, off + i.toNat * c, none⟩)) w := by
  obtain ⟨f, hf, hc⟩ := hs
  have : i < (m : Int) := by omega
  simp [Instr.indexAt, asIntOf, run_underlying ht, h0, this, Go.sizeOf, typeInfo, hf, hc, addr_add, Instr.sureAddr]
theorem TOk.arr {P : Program} {t n e sz by_ : Nat} {z : List AV} (h : TOk P t ⟨.arr n e, sz, by_, z⟩) : P.underlying t = some (.array n e) := by
  obtain ⟨d, hd, he⟩ := h.desc
  simp only [TK.ofDesc] at he
  rw [hd, he]
theorem s_ixaA {α : Type} {f : α → AV} {l : List α} {r : α} {t e m sz by_ s : Nat} {z : List AV} {ti : TI} {i : Operand} {n : Int} (hs : get σ s = .av (.pt true (l.map f))) (hi : ov σ i = .av (.int n)) (hT : S.T t = some ⟨.arr m e, sz, by_, z⟩) (hE : S.T e = some ti) (hc : Nat.beq ti.size 1 = true) (h0 : 0 ≤ n) (hr : l[n.toNat]? = some r) (h1 : (f r).cells = [f r]) (hm : n.toNat < m) (hsd : Nat.beq s d = false) :
    Step S ⟨some d, .indexAddr t (.tmp s) i, ty, pos, aft, g⟩ σ (σ.put d (.fpt s n.toNat (f r))) := by
  intro w0 L0 N a w hN ⟨L, hR⟩
  have hh := hR.hold s (own_lt hR hs (by simp))
  rw [hs] at hh
  simp only [Hold] at hh
  obtain ⟨b, hL, hp, _, hcs⟩ := pt_at hh
  have hev : a.eval (.tmp s) = .pointer (some ⟨b, 0, none⟩) := hp
  have hsz := (S.ok e _ hE).size
  rw [Nat.eq_of_beq_eq_true hc] at hsz
  refine ⟨.pointer (some ⟨b, 0 + n.toNat * 1, none⟩), fun w' _ => ?_, Rel.putPlain (n := d) hR (hN d rfl) rfl hsd ⟨b, hL, by simp, fun _ j z hz => ?_⟩⟩
  · simp only [execOp, hev, ev_int hR hi, Sem.run_bind, run_indexArr (S.ok t _ hT).arr hsz h0 hm]; rfl
  · rw [h1] at hz
    cases j with
    | zero =>
      simp only [List.getElem?_cons_zero, Option.some.injEq] at hz; subst hz
      simpa using hcs n.toNat (f r) (by rw [List.getElem?_map, hr]; rfl)
    | succ j => simp at hz
end
end FM
