/- The reference's counts. -/
import Derived.Test.YtioodlkigdklhaaPw5
namespace Go.Proofs.Ytioodlkigdklhaa
open Go FM
set_option maxRecDepth 10000
set_option linter.all false
/-- One player more walks in. -/
def stepP (w : List Int) (q : Int) (st : List Int × Int) (x : Int) : List Int × Int :=
  (if st.2 < q ∧ q ≤ st.2 + w.getD x.toNat 0 then st.1.set x.toNat (st.1.getD x.toNat 0 + 1) else st.1, st.2 + w.getD x.toNat 0)
def runP (w : List Int) (q : Int) (b : List Int) (p : List Int) : List Int := (p.foldl (stepP w q) (b, 0)).1
def pivL (w : List Int) (q : Int) : List Int := (allOrders w.length (iota w.length)).foldl (runP w q) (List.replicate w.length 0)
theorem foldl_take_succ {α β : Type} (f : β → α → β) (b : β) (l : List α) (k : Nat) (h : k < l.length) : (l.take (k+1)).foldl f b = f ((l.take k).foldl f b) l[k] := by
  rw [List.take_succ_eq_append_getElem h, List.foldl_append]; rfl
def inB (n m : Nat) (b : List Int) : Prop := b.length = n ∧ ∀ v ∈ b, 0 ≤ v ∧ v ≤ m
theorem stepP_inB {w : List Int} {q : Int} {n m : Nat} {st : List Int × Int} {x : Int} (h : inB n m st.1) : inB n (m + 1) (stepP w q st x).1 := by
  unfold stepP
  refine ⟨?_, fun v hv => ?_⟩
  · simp only; split
    · rw [List.length_set]; exact h.1
    · exact h.1
  · simp only at hv
    split at hv
    · rcases List.mem_or_eq_of_mem_set hv with hv | rfl
      · have := h.2 v hv; omega
      · rw [List.getD_eq_getElem?_getD]
        cases hx : st.1[x.toNat]? with
        | none => simp; omega
        | some u => have := h.2 u (List.mem_of_getElem? hx); simp; omega
    · have := h.2 v hv; omega
theorem foldP_inB {w : List Int} {q : Int} {n : Nat} : ∀ (p : List Int) (m : Nat) (st : List Int × Int), inB n m st.1 → inB n (m + p.length) (p.foldl (stepP w q) st).1
  | [], m, st, h => h
  | x :: p, m, st, h => by
    have := foldP_inB (w := w) (q := q) p (m + 1) (stepP w q st x) (stepP_inB h)
    simp only [List.foldl_cons, List.length_cons]
    rw [show m + (p.length + 1) = m + 1 + p.length by omega]; exact this
theorem foldP_sum {w : List Int} {q : Int} (hw : okW w) : ∀ (p : List Int) (st : List Int × Int), st.2 ≤ (p.foldl (stepP w q) st).2 ∧ (p.foldl (stepP w q) st).2 ≤ st.2 + 1000 * p.length
  | [], st => by simp
  | x :: p, st => by
    have := foldP_sum (q := q) hw p (stepP w q st x)
    have hx : 0 ≤ w.getD x.toNat 0 ∧ w.getD x.toNat 0 ≤ 1000 := by
      rw [List.getD_eq_getElem?_getD]
      cases h : w[x.toNat]? with
      | none => simp
      | some u => simpa using hw.2 u (List.mem_of_getElem? h)
    simp only [List.foldl_cons, List.length_cons]
    have h2 : (stepP w q st x).2 = st.2 + w.getD x.toNat 0 := rfl
    omega
theorem foldR_inB {w : List Int} {q : Int} {n m : Nat} : ∀ (R : List (List Int)) (k : Nat) (b : List Int), (∀ r ∈ R, r.length = m) → inB n k b → inB n (k + R.length * m) (R.foldl (runP w q) b)
  | [], k, b, _, h => by simpa using h
  | r :: R, k, b, hR, h => by
    have h1 := foldP_inB (w := w) (q := q) r k (b, 0) h
    rw [hR r (List.mem_cons_self ..)] at h1
    have := foldR_inB (w := w) (q := q) R (k + m) (runP w q b r) (fun r hr => hR r (List.mem_cons_of_mem _ hr)) h1
    simp only [List.foldl_cons, List.length_cons, Nat.add_mul, Nat.one_mul]
    rw [show k + (R.length * m + m) = k + m + R.length * m by omega]; exact this
theorem allOrders_mem : ∀ (n : Nat) (l : List Int), ∀ r ∈ allOrders n l, ∀ x ∈ r, x ∈ l
  | 0, l, r, hr, x, hx => by simp [allOrders] at hr; subst hr; cases hx
  | n + 1, l, r, hr, x, hx => by
    simp only [allOrders, List.mem_flatMap, List.mem_map, List.mem_range] at hr
    obtain ⟨i, hi, r', hr', rfl⟩ := hr
    rcases List.mem_cons.1 hx with rfl | hx
    · simp [hi]
    · have := allOrders_mem n _ r' hr' x hx
      rcases List.mem_append.1 this with h | h
      · exact List.mem_of_mem_take h
      · exact List.mem_of_mem_drop h
theorem iota_mem {n : Nat} {x : Int} (h : x ∈ iota n) : 0 ≤ x ∧ x < n := by
  simp only [iota, List.mem_map, List.mem_range] at h
  obtain ⟨k, hk, rfl⟩ := h
  omega
/-- Without a player that it holds a set weighs less by his weight. -/
theorem hv_off : ∀ (w : List Int) (s i : Nat) (h : i < w.length), shr s i % 2 = 1 → hv w (off s i) = hv w s - w[i]
  | [], s, i, h, _ => by simp at h
  | x :: r, s, 0, _, hb => by
    have hb' : s % 2 = 1 := by simpa [shr] using hb
    have e1 : off s 0 % 2 = 0 := by
      have : (s ^^^ (s &&& 2 ^ 0)).testBit 0 = false := by
        rw [Nat.testBit_xor, Nat.testBit_and, Nat.testBit_two_pow]; simp [hb']
      rw [Nat.testBit_zero] at this
      have := of_decide_eq_false this
      show (s ^^^ (s &&& 2 ^ 0)) % 2 = 0
      omega
    have e2 : off s 0 / 2 = s / 2 := by
      apply Nat.eq_of_testBit_eq
      intro j
      rw [Nat.testBit_div_two, Nat.testBit_div_two]
      show (s ^^^ (s &&& 2 ^ 0)).testBit (j + 1) = _
      rw [Nat.testBit_xor, Nat.testBit_and, Nat.testBit_two_pow]
      simp
    simp only [hv, e1, e2, hb', List.getElem_cons_zero]
    omega
  | x :: r, s, i + 1, h, hb => by
    have hb' : shr (s / 2) i % 2 = 1 := by
      unfold shr at *
      rw [Nat.div_div_eq_div_mul, show 2 * 2 ^ i = 2 ^ (i + 1) by rw [Nat.pow_succ]; omega]; exact hb
    have ih := hv_off r (s / 2) i (by simpa using h) hb'
    have e1 : off s (i + 1) % 2 = s % 2 := by
      have : (s ^^^ (s &&& 2 ^ (i + 1))).testBit 0 = s.testBit 0 := by
        rw [Nat.testBit_xor, Nat.testBit_and, Nat.testBit_two_pow]; simp
      rw [Nat.testBit_zero, Nat.testBit_zero] at this
      have := decide_eq_decide.1 this
      show (s ^^^ (s &&& 2 ^ (i + 1))) % 2 = s % 2
      omega
    have e2 : off s (i + 1) / 2 = off (s / 2) i := by
      apply Nat.eq_of_testBit_eq
      intro j
      rw [Nat.testBit_div_two]
      show (s ^^^ (s &&& 2 ^ (i + 1))).testBit (j + 1) = (s / 2 ^^^ (s / 2 &&& 2 ^ i)).testBit j
      rw [Nat.testBit_xor, Nat.testBit_and, Nat.testBit_two_pow, Nat.testBit_xor, Nat.testBit_and, Nat.testBit_two_pow, Nat.testBit_div_two]
      simp
    simp only [hv, e1, e2, ih, List.getElem_cons_succ]
    omega
end Go.Proofs.Ytioodlkigdklhaa
