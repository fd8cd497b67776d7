/- Calls that turn what the caller owns. No program in sight. -/
import Derived.Test.YtkkcnppgcnmikaaGreatDoorFrnm
import Derived.Test.YtkkcnppgcnmikaaGreatDoorFqnm
import Derived.Lib.SliceRun
import Derived.OrdersHeld
namespace FM
open Go Go.RowKit
set_option linter.all false
/-! ### which slots are handed over, as which arguments -/
def idxM : List (Nat × Nat) → Nat → Option Nat
  | [], _ => none
  | (s, i) :: r, t => bif Nat.beq s t then some i else idxM r t
def slotM : List (Nat × Nat) → Nat → Option Nat
  | [], _ => none
  | (s, i) :: r, k => bif Nat.beq i k then some s else slotM r k
structure MOk (d n : Nat) (ms : List (Nat × Nat)) : Prop where
  inv : ∀ s i, idxM ms s = some i → slotM ms i = some s
  inv' : ∀ i s, slotM ms i = some s → idxM ms s = some i
  lt : ∀ s i, idxM ms s = some i → i < n
  nd : idxM ms d = none
theorem MOk.one {d n s i : Nat} (h1 : Nat.beq s d = false) (h2 : Nat.blt i n = true) : MOk d n [(s, i)] := by
  have e1 : ∀ t j, idxM [(s, i)] t = some j → t = s ∧ j = i := fun t j h => by
    simp only [idxM] at h
    cases hb : Nat.beq s t with
    | true => rw [hb, cond_true] at h; exact ⟨(Nat.eq_of_beq_eq_true hb).symm, (Option.some.inj h).symm⟩
    | false => rw [hb, cond_false] at h; cases h
  have e2 : ∀ j t, slotM [(s, i)] j = some t → t = s ∧ j = i := fun j t h => by
    simp only [slotM] at h
    cases hb : Nat.beq i j with
    | true => rw [hb, cond_true] at h; exact ⟨(Option.some.inj h).symm, (Nat.eq_of_beq_eq_true hb).symm⟩
    | false => rw [hb, cond_false] at h; cases h
  refine ⟨fun t j h => ?_, fun j t h => ?_, fun t j h => ?_, ?_⟩
  · obtain ⟨rfl, rfl⟩ := e1 t j h; simp [slotM, Nat.beq_refl]
  · obtain ⟨rfl, rfl⟩ := e2 j t h; simp [idxM, Nat.beq_refl]
  · obtain ⟨rfl, rfl⟩ := e1 t j h; simp [Nat.blt] at h2; omega
  · simp only [idxM, h1, cond_false]

def inM (ms : List (Nat × Nat)) (L : Nat → Lab) : Nat → Lab := fun b => match L b with
  | .my (t :: q) => match idxM ms t with
    | some i => .my (i :: q)
    | none => .sh
  | .my [] => .sh
  | l => l
theorem inM_my {ms : List (Nat × Nat)} {L : Nat → Lab} {b : Nat} {p : List Nat} (h : inM ms L b = .my p) : ∃ t i q, L b = .my (t :: q) ∧ idxM ms t = some i ∧ p = i :: q := by
  unfold inM at h
  cases hL : L b with
  | my p' =>
    rw [hL] at h
    cases p' with
    | nil => cases h
    | cons t q =>
      simp only at h
      cases hi : idxM ms t with
      | some i => rw [hi] at h; injection h with h; exact ⟨t, i, q, rfl, hi, h.symm⟩
      | none => rw [hi] at h; cases h
  | sh => rw [hL] at h; cases h
  | fo => rw [hL] at h; cases h
theorem inM_to {ms : List (Nat × Nat)} {L : Nat → Lab} {b t i : Nat} {q : List Nat} (h : L b = .my (t :: q)) (hi : idxM ms t = some i) : inM ms L b = .my (i :: q) := by simp only [inM, h, hi]
theorem inM_no {ms : List (Nat × Nat)} {L : Nat → Lab} {b t : Nat} {q : List Nat} (h : L b = .my (t :: q)) (hi : idxM ms t = none) : inM ms L b = .sh := by simp only [inM, h, hi]
theorem inM_sh {ms : List (Nat × Nat)} {L : Nat → Lab} {b : Nat} (h : L b = .sh) : inM ms L b = .sh := by simp only [inM, h]
theorem inM_fo {ms : List (Nat × Nat)} {L : Nat → Lab} {b : Nat} : inM ms L b = .fo ↔ L b = .fo := by
  unfold inM
  cases hL : L b with
  | my p => cases p with
    | nil => simp
    | cons t q => simp only; cases idxM ms t <;> simp
  | _ => simp
def outM (n d : Nat) (ms : List (Nat × Nat)) (sz : Nat) (L L' : Nat → Lab) : Nat → Lab := fun b => match L' b with
  | .my (k :: q) => bif Nat.beq k n then .my (d :: q) else match slotM ms k with
    | some s => .my (s :: q)
    | none => .sh
  | .my [] => .sh
  | _ => if b < sz then match L b with
    | .my (t :: q) => bif Nat.beq t d || (idxM ms t).isSome then .sh else .my (t :: q)
    | .my [] => .sh
    | l => l
    else .sh
theorem outM_my {n d : Nat} {ms : List (Nat × Nat)} {sz : Nat} {L L' : Nat → Lab} {b : Nat} {p : List Nat} (h : outM n d ms sz L L' b = .my p) :
    (∃ q, L' b = .my (n :: q) ∧ p = d :: q) ∨ (∃ k s q, L' b = .my (k :: q) ∧ k ≠ n ∧ slotM ms k = some s ∧ p = s :: q) ∨ (b < sz ∧ (∀ q, L' b ≠ .my q) ∧ ∃ t q, L b = .my (t :: q) ∧ t ≠ d ∧ idxM ms t = none ∧ p = t :: q) := by
  unfold outM at h
  have tail : (∀ q, L' b ≠ .my q) → (if b < sz then (match L b with
    | .my (t :: q) => bif Nat.beq t d || (idxM ms t).isSome then Lab.sh else .my (t :: q)
    | .my [] => .sh
    | l => l) else .sh) = .my p → (b < sz ∧ (∀ q, L' b ≠ .my q) ∧ ∃ t q, L b = .my (t :: q) ∧ t ≠ d ∧ idxM ms t = none ∧ p = t :: q) := fun hno h => by
    split at h
    · rename_i hlt
      split at h
      · rename_i t q hL
        cases hc : (Nat.beq t d || (idxM ms t).isSome) with
        | true => rw [hc] at h; cases h
        | false =>
          rw [hc, cond_false] at h
          injection h with h
          simp only [Bool.or_eq_false_iff] at hc
          refine ⟨hlt, hno, t, q, hL, of_not_beq hc.1, ?_, h.symm⟩
          cases hi : idxM ms t with
          | none => rfl
          | some i => rw [hi] at hc; cases hc.2
      · cases h
      · rename_i hL1 hL2
        cases hp : p with
        | nil => subst hp; exact absurd h hL2
        | cons t q => subst hp; exact absurd h (hL1 t q)
    · cases h
  cases hL' : L' b with
  | my p' =>
    rw [hL'] at h
    cases p' with
    | nil => cases h
    | cons k q =>
      simp only at h
      cases hk : Nat.beq k n with
      | true => rw [hk, cond_true] at h; injection h with h; have := Nat.eq_of_beq_eq_true hk; subst this; exact .inl ⟨q, rfl, h.symm⟩
      | false =>
        rw [hk, cond_false] at h
        cases hs : slotM ms k with
        | some s => rw [hs] at h; injection h with h; exact .inr (.inl ⟨k, s, q, rfl, of_not_beq hk, hs, h.symm⟩)
        | none => rw [hs] at h; cases h
  | sh => rw [hL'] at h; rw [hL'] at tail; exact .inr (.inr (tail (fun q e => by cases e) h))
  | fo => rw [hL'] at h; rw [hL'] at tail; exact .inr (.inr (tail (fun q e => by cases e) h))
theorem outM_res {n d : Nat} {ms : List (Nat × Nat)} {sz : Nat} {L L' : Nat → Lab} {b : Nat} {q : List Nat} (h : L' b = .my (n :: q)) : outM n d ms sz L L' b = .my (d :: q) := by simp [outM, h, Nat.beq_refl]
theorem outM_arg {n d : Nat} {ms : List (Nat × Nat)} {sz : Nat} {L L' : Nat → Lab} {b k s : Nat} {q : List Nat} (h : L' b = .my (k :: q)) (hk : k ≠ n) (hs : slotM ms k = some s) : outM n d ms sz L L' b = .my (s :: q) := by simp [outM, h, not_beq hk, hs]
theorem outM_old {n d : Nat} {ms : List (Nat × Nat)} {sz : Nat} {L L' : Nat → Lab} {b t : Nat} {q : List Nat} (h : L b = .my (t :: q)) (hb : b < sz) (hno : ∀ q, L' b ≠ .my q) (htd : t ≠ d) (ht : idxM ms t = none) : outM n d ms sz L L' b = .my (t :: q) := by
  unfold outM
  cases hL' : L' b with
  | my p => exact absurd hL' (hno p)
  | _ => simp only [if_pos hb, h, not_beq htd, ht]; rfl
theorem outM_sh {n d : Nat} {ms : List (Nat × Nat)} {sz : Nat} {L L' : Nat → Lab} {b : Nat} (h : L b = .sh) (hno : ∀ q, L' b ≠ .my q) : outM n d ms sz L L' b = .sh := by
  unfold outM
  cases hL' : L' b with
  | my p => exact absurd hL' (hno p)
  | _ => simp only [h]; split <;> rfl
theorem outM_fo {n d : Nat} {ms : List (Nat × Nat)} {sz : Nat} {L L' : Nat → Lab} {b : Nat} (h : outM n d ms sz L L' b = .fo) : b < sz ∧ L b = .fo := by
  unfold outM at h
  have tail : (if b < sz then (match L b with
    | .my (t :: q) => bif Nat.beq t d || (idxM ms t).isSome then Lab.sh else .my (t :: q)
    | .my [] => .sh
    | l => l) else .sh) = .fo → b < sz ∧ L b = .fo := fun h => by
    split at h
    · rename_i hlt
      split at h
      · rename_i t q hL
        cases hc : (Nat.beq t d || (idxM ms t).isSome) <;> rw [hc] at h <;> cases h
      · cases h
      · exact ⟨hlt, h⟩
    · cases h
  cases hL' : L' b with
  | my p' =>
    rw [hL'] at h
    cases p' with
    | nil => cases h
    | cons k q =>
      simp only at h
      cases hk : Nat.beq k n with
      | true => rw [hk, cond_true] at h; cases h
      | false =>
        rw [hk, cond_false] at h
        cases hs : slotM ms k <;> rw [hs] at h <;> cases h
  | sh => rw [hL'] at h; exact tail h
  | fo => rw [hL'] at h; exact tail h
theorem outM_fo' {n d : Nat} {ms : List (Nat × Nat)} {sz : Nat} {L L' : Nat → Lab} {b : Nat} (h : L b = .fo) (hb : b < sz) (hno : ∀ q, L' b ≠ .my q) : outM n d ms sz L L' b = .fo := by
  unfold outM
  cases hL' : L' b with
  | my p => exact absurd hL' (hno p)
  | _ => simp only [h, if_pos hb]

/-! ### the frame behind such a call -/
def putM : List (Nat × Nat) → List AV → St → St
  | [], _, σ => σ
  | (s, i) :: r, xs9, σ => (putM r xs9 σ).put s (.av (xs9.getD i .dead))
theorem getM {xs9 : List AV} {σ : St} {n : Nat} : ∀ {ms : List (Nat × Nat)}, (∃ i, idxM ms n = some i ∧ get (putM ms xs9 σ) n = .av (xs9.getD i .dead)) ∨ (idxM ms n = none ∧ (get (putM ms xs9 σ) n = .none ∨ (get (putM ms xs9 σ) n = get σ n ∧ ∀ s, (idxM ms s).isSome = true → (get σ n).dep s = false)))
  | [] => .inr ⟨rfl, .inr ⟨rfl, fun s h => by cases h⟩⟩
  | (s, i) :: r => by
    simp only [idxM, putM, get, kill_eq]
    cases hs : Nat.beq s n with
    | true => exact .inl ⟨i, rfl, rfl⟩
    | false =>
      simp only [cond_false]
      rcases getM (xs9 := xs9) (σ := σ) (n := n) (ms := r) with ⟨j, h1, h2⟩ | ⟨h1, h2⟩
      · exact .inl ⟨j, h1, by rw [h2]; rfl⟩
      · refine .inr ⟨h1, ?_⟩
        rcases h2 with h2 | ⟨h2, h3⟩
        · left; rw [h2]; rfl
        · rw [h2]
          cases hd : (get σ n).dep s with
          | true => exact .inl rfl
          | false =>
            refine .inr ⟨rfl, fun s' hs' => ?_⟩
            by_cases e : s = s'
            · subst e; exact hd
            · rw [not_beq e, cond_false] at hs'; exact h3 s' hs'

/-- Whose memory an operand reads. -/
def slotAt (σ : St) : Operand → Option Nat
  | .tmp t => match get σ t with
    | .av _ => some t
    | .ref s => some s
    | _ => none
  | _ => none
inductive ArgM (S : Sys) (N : Nat) (σ : St) (ms : List (Nat × Nat)) (i : Nat) (x : Operand) : AV → Prop
  | pl {y} (h : ov σ x = .av y) (ho : y.isOwn = false) : ArgM S N σ ms i x y
  | br {t y z} (h : slotAt σ x = some t) (ht : get σ t = .av y) (hm : idxM ms t = none) (hz : y.sh = z) : ArgM S N σ ms i x z
  | mu {s y} (h : slotAt σ x = some s) (hs : get σ s = .av y) (hm : idxM ms s = some i) : ArgM S N σ ms i x y
  | fn {B : Beh} (h : ∀ w0 L0 a w L, RelL S w0 L0 N σ a w L → B.holds w (fun b => inM ms L b = .sh) (a.eval x)) : ArgM S N σ ms i x (.fn B)
inductive ArgsM (S : Sys) (N : Nat) (σ : St) (ms : List (Nat × Nat)) : Nat → List Operand → List AV → Prop
  | nil {i} : ArgsM S N σ ms i [] []
  | cons {i x xs y ys} (h : ArgM S N σ ms i x y) (r : ArgsM S N σ ms (i + 1) xs ys) : ArgsM S N σ ms i (x :: xs) (y :: ys)
section
variable {S : Sys} {N : Nat} {σ : St}
theorem ArgsM.length {ms : List (Nat × Nat)} {i : Nat} {xs : List Operand} {ys : List AV} (h : ArgsM S N σ ms i xs ys) : xs.length = ys.length := by
  induction h with
  | nil => rfl
  | cons _ _ ih => simp [ih]
theorem ArgsM.get {ms : List (Nat × Nat)} {i : Nat} {xs : List Operand} {ys : List AV} (h : ArgsM S N σ ms i xs ys) : ∀ (k : Nat) (x : Operand) (y : AV), xs[k]? = some x → ys[k]? = some y → ArgM S N σ ms (i + k) x y := by
  induction h with
  | nil => intro k x y h; simp at h
  | @cons i x xs y ys h r ih =>
    intro k x' y' hx hy
    cases k with
    | zero => simp only [List.getElem?_cons_zero, Option.some.injEq] at hx hy; subst hx; subst hy; exact h
    | succ k =>
      simp only [List.getElem?_cons_succ] at hx hy
      have := ih k x' y' hx hy
      rwa [Nat.add_assoc, Nat.add_comm 1 k] at this
theorem slotAt_ev {x : Operand} {t : Nat} {y : AV} (h : slotAt σ x = some t) (ht : get σ t = .av y) {w0 : World} {L0 : Nat → Lab} {a : Act} {w : World} {L : Nat → Lab} (hR : RelL S w0 L0 N σ a w L) : t < N ∧ a.eval x = a.tmps.getD t undef ∧ Rep L w (some [t]) y (a.eval x) := by
  have htN := own_lt hR ht (by simp)
  have hh := hR.hold t htN
  rw [ht] at hh
  have hev : a.eval x = a.tmps.getD t undef := by
    unfold slotAt at h
    split at h
    · rename_i u
      split at h
      · injection h with h; subst h; rfl
      · rename_i s hs
        injection h with h; subst h
        have h2 := hR.hold u (own_lt hR hs (by simp))
        rw [hs] at h2
        exact h2
      · cases h
    · cases h
  exact ⟨htN, hev, by rw [hev]; exact hh⟩
theorem ArgM.rep {ms : List (Nat × Nat)} {i : Nat} {x : Operand} {y : AV} (h : ArgM S N σ ms i x y) {w0 : World} {L0 : Nat → Lab} {a : Act} {w : World} {L : Nat → Lab} (hR : RelL S w0 L0 N σ a w L) : Rep (inM ms L) w (some [i]) y (a.eval x) := by
  cases h with
  | pl h ho =>
    obtain ⟨n, hn⟩ := ev_av hR h
    exact (Rep.frame (Nat.le_refl _) rfl rfl rfl (fun b hb _ => ⟨inM_sh hb, rfl⟩) (hn.replace (π' := none) ho) none (fun p hp => by cases hp)).any _
  | br h ht hm hz =>
    obtain ⟨_, _, hr⟩ := slotAt_ev h ht hR
    subst hz
    exact (Rep.toSh (fun b _ hb => inM_sh hb) hr (fun p hp b q hb => by cases hp; exact inM_no hb hm)).any _
  | mu h hs hm =>
    obtain ⟨_, _, hr⟩ := slotAt_ev h hs hR
    exact hr.frame (Nat.le_refl _) rfl rfl rfl (fun b hb _ => ⟨inM_sh hb, rfl⟩) _ fun p hp => by
      cases hp
      exact ⟨[i], rfl, fun b q hb => ⟨inM_to hb hm, rfl⟩⟩
  | fn h => exact .fn (wE := w) (B := fun b => inM ms L b = .sh) (h w0 L0 a w L hR) (Nat.le_refl _) rfl rfl rfl fun b _ hb => ⟨hb, rfl⟩

/-- The frame behind the call. -/
theorem after_callM {w0 : World} {L0 : Nat → Lab} {a : Act} {w : World} {L : Nat → Lab} (hR : RelL S w0 L0 N σ a w L) {d : Nat} (hd : DOk S N d) {n : Nat} {ms : List (Nat × Nat)} (hms : MOk d n ms) {xs9' : List AV} {r : AV} {vs : List Value} {v : Value} {w' : World} {L' : Nat → Lab} (hB : Back n xs9' r (inM ms L) w vs v w' L')
    (hr : NoSh r) (hm : ∀ s i, idxM ms s = some i → s < N ∧ vs[i]? = some (a.tmps.getD s undef) ∧ ∃ y, xs9'[i]? = some y ∧ NoSh y) : Rel S w0 L0 N (putM ms xs9' (σ.put d (.av r))) (a.put (some d) v) w' := by
  have hin : ∀ b p, b < w.heap.size → L' b = .my p → ∃ q, inM ms L b = .my q := hB.lok.old
  have hnmy : ∀ b, b < w.heap.size → (∀ q, inM ms L b ≠ .my q) → (∀ q, L' b ≠ .my q) ∧ w'.heap[b]? = w.heap[b]? := fun b hb hno => ⟨fun q hq => by obtain ⟨q', hq'⟩ := hin b q hb hq; exact hno q' hq', hB.keep.block b hb hno⟩
  have hsh : ∀ b, L b = .sh → b < w.heap.size → outM n d ms w.heap.size L L' b = .sh ∧ w'.heap[b]? = w.heap[b]? := fun b hb hlt => by
    obtain ⟨h1, h2⟩ := hnmy b hlt (fun q hq => by rw [inM_sh hb] at hq; cases hq)
    exact ⟨outM_sh hb h1, h2⟩
  have hold : ∀ b t q, L b = .my (t :: q) → (t ≠ d ∧ idxM ms t = none) → outM n d ms w.heap.size L L' b = .my (t :: q) ∧ w'.heap[b]? = w.heap[b]? := fun b t q hb ⟨h1, h2⟩ => by
    have hlt := hR.lok.lt b _ hb
    obtain ⟨h3, h4⟩ := hnmy b hlt (fun q hq => by rw [inM_no hb h2] at hq; cases hq)
    exact ⟨outM_old hb hlt h3 h1 h2, h4⟩
  have htm : ∀ t, t ≠ d → (a.put (some d) v).tmps.getD t undef = a.tmps.getD t undef := fun t ht => getD_set_other (fun e => ht e.symm)
  refine ⟨outM n d ms w.heap.size L L', hR.defers, by simp [Act.put, hR.size], ⟨hB.keep.os.trans hR.keep.os, hB.keep.tape.trans hR.keep.tape, hB.keep.output.trans hR.keep.output, Nat.le_trans hR.keep.size hB.keep.size, fun b hb hno => ?_⟩,
    ⟨fun b p hb => ?_, fun b b' p hb hb' => ?_, fun b p hb => ?_, fun b p hlt hb => ?_, fun b hlt => ?_, fun b hge hf => ?_⟩, fun m hm' => ?_, fun m hm' => ?_, fun i hi => (getD_set_other (hd.ne hi)).trans (hR.fix i hi), hR.glob⟩
  · have hlt := Nat.lt_of_lt_of_le hb hR.keep.size
    refine (hB.keep.block b hlt fun p hp => ?_).trans (hR.keep.block b hb hno)
    obtain ⟨t, i, q, h1, _, _⟩ := inM_my hp
    obtain ⟨q', h2⟩ := hR.lok.old b _ hb h1
    exact hno q' h2
  · rcases outM_my hb with ⟨q, h1, _⟩ | ⟨k, s, q, h1, _⟩ | ⟨h1, _⟩
    · exact hB.lok.lt b _ h1
    · exact hB.lok.lt b _ h1
    · exact Nat.lt_of_lt_of_le h1 hB.keep.size
  · rcases outM_my hb with ⟨q, h1, h2⟩ | ⟨k, s, q, h1, h2, h3, h4⟩ | ⟨h1, h2, t, q, h3, h4, h5, h6⟩ <;> rcases outM_my hb' with ⟨q', h1', h2'⟩ | ⟨k', s', q', h1', h2', h3', h4'⟩ | ⟨h1', h2', t', q', h3', h4', h5', h6'⟩
    · rw [h2] at h2'; cases h2'; exact hB.lok.inj _ _ _ h1 h1'
    · rw [h2] at h4'; cases h4'; have := hms.inv' _ _ h3'; rw [hms.nd] at this; cases this
    · rw [h2] at h6'; cases h6'; exact absurd rfl h4'
    · rw [h4] at h2'; cases h2'; have := hms.inv' _ _ h3; rw [hms.nd] at this; cases this
    · rw [h4] at h4'; cases h4'
      have e1 := hms.inv' _ _ h3
      have e2 := hms.inv' _ _ h3'
      rw [e1] at e2; cases e2
      exact hB.lok.inj _ _ _ h1 h1'
    · rw [h4] at h6'; cases h6'; have := hms.inv' _ _ h3; rw [h5'] at this; cases this
    · rw [h6] at h2'; cases h2'; exact absurd rfl h4
    · rw [h6] at h4'; cases h4'; have := hms.inv' _ _ h3'; rw [h5] at this; cases this
    · rw [h6] at h6'; cases h6'; exact hR.lok.inj _ _ _ h3 h3'
  · rcases outM_my hb with ⟨q, _, h2⟩ | ⟨k, s, q, _, _, _, h2⟩ | ⟨_, _, t, q, _, _, _, h2⟩ <;> (subst h2; simp)
  · have hlt' := Nat.lt_of_lt_of_le hlt hR.keep.size
    have up : ∀ p', L' b = .my p' → ∃ q, L0 b = .my q := fun p' hp' => by
      obtain ⟨q, hq⟩ := hin b _ hlt' hp'
      obtain ⟨t, i, q2, h1, _, _⟩ := inM_my hq
      exact hR.lok.old b _ hlt h1
    rcases outM_my hb with ⟨q, h1, _⟩ | ⟨k, s, q, h1, _⟩ | ⟨_, _, t, q, h1, _⟩
    · exact up _ h1
    · exact up _ h1
    · exact hR.lok.old b _ hlt h1
  · have hlt' := Nat.lt_of_lt_of_le hlt hR.keep.size
    refine ⟨fun h => (hR.lok.fo b hlt).1 (outM_fo h).2, fun h => ?_⟩
    have h1 := (hR.lok.fo b hlt).2 h
    have h2 := (hB.lok.fo b hlt').2 (inM_fo.2 h1)
    exact outM_fo' h1 hlt' (fun q hq => by rw [h2] at hq; cases hq)
  · obtain ⟨_, h2⟩ := outM_fo hf
    exact hR.lok.new b hge h2
  · rcases getM (xs9 := xs9') (σ := σ.put d (.av r)) (n := m) (ms := ms) with ⟨i, h1, h2⟩ | ⟨h1, h2 | ⟨h2, h3⟩⟩
    · obtain ⟨hsN, hvi, y, hy, hny⟩ := hm m i h1
      rw [h2, List.getD_eq_getElem?_getD, hy]
      have hmd : m ≠ d := fun e => by subst e; rw [hms.nd] at h1; cases h1
      rw [htm m hmd]
      have h0 := hB.args i y _ hy hvi
      have hin' := hms.lt m i h1
      exact h0.frameN hny _ fun p hp => by
        cases hp
        exact ⟨[m], rfl, fun b q hb => ⟨outM_arg hb (by omega) (hms.inv _ _ h1), rfl⟩⟩
    · rw [h2]; trivial
    · rw [h2]
      simp only [FM.get, kill_eq] at h3 ⊢
      by_cases hmd : d = m
      · subst hmd
        rw [Nat.beq_refl, cond_true]
        have : (a.put (some d) v).tmps.getD d undef = v := getD_set_same (by rw [hR.size]; exact hd.lt)
        rw [this]
        exact hB.res.frameN hr _ fun p hp => by
          cases hp
          exact ⟨[d], rfl, fun b q hb => ⟨outM_res hb, rfl⟩⟩
      · rw [not_beq hmd, cond_false] at h3 ⊢
        cases hdep : (FM.get σ m).dep d with
        | true => trivial
        | false =>
          rw [hdep, cond_false] at h3
          rw [cond_false, htm m (fun e => hmd e.symm)]
          have hg : ∀ t, (FM.get σ m).dep t = true → t ≠ d ∧ idxM ms t = none := fun t ht => by
            refine ⟨fun e => ?_, ?_⟩
            · subst e; rw [hdep] at ht; cases ht
            · cases hi : idxM ms t with
              | none => rfl
              | some i => have := h3 t (by rw [hi]; rfl); rw [this] at ht; cases ht
          exact Hold.relab (good := fun t => t ≠ d ∧ idxM ms t = none) hB.keep.size hB.keep.os hB.keep.tape hB.keep.output hsh hold (fun t ht => htm t ht.1) ⟨fun e => hmd e.symm, h1⟩ hg (hR.hold m hm')
  · rcases getM (xs9 := xs9') (σ := σ.put d (.av r)) (n := m) (ms := ms) with ⟨i, h1, h2⟩ | ⟨h1, h2 | ⟨h2, h3⟩⟩
    · have := (hm m i h1).1; omega
    · exact h2
    · rw [h2]
      simp only [FM.get, kill_eq]
      rw [not_beq (show d ≠ m by have := hd.lt; omega), cond_false, hR.out m hm']; rfl

/-- A call that turns what slots of the caller own. -/
theorem J.callM {P : Program} {f : Nat} {xs9 : List AV} {R : List AV → AV → Prop} {xs : List Operand} {ops : Array Oper} {l : List Oper} {K : St → Prop} {d ty : Nat} {ts : Array Nat} {pos : String} {aft : Array Edge} {g : Option (Nat × Bool)} (ms : List (Nat × Nat)) (hs : FnSpecE P f xs9 R) (hP : P = S.P) (hg : live ops g σ = some true) (hms : MOk d xs9.length ms) (ha : ArgsM S N σ ms 0 xs xs9)
    (hc : ms.all (fun e => match xs[e.2]? with | some x => (match slotAt σ x, FM.get σ e.1 with | some s, .av _ => Nat.beq s e.1 | _, _ => false) | none => false) = true)
    (hn : ∀ xs9' r, R xs9' r → NoSh r ∧ ∀ e ∈ ms, ∃ y, xs9'[e.2]? = some y ∧ NoSh y) (h : ∀ xs9' r, R xs9' r → J false S N ops l K (putM ms xs9' (σ.put d (.av r)))) :
    J false S N ops (⟨some d, .call ⟨.value (.func f), xs.toArray, ts⟩, ty, pos, aft, g⟩ :: l) K σ := by
  subst hP
  unfold J at *
  intro hdo w0 L0 Q a w hQ hR
  obtain ⟨h1, h2⟩ := dstOk_cons hdo
  have hd := h1 d rfl
  have hw := live_wanted (o := ⟨some d, .call ⟨.value (.func f), xs.toArray, ts⟩, ty, pos, aft, g⟩) hg hR
  simp only [wpList, hw, if_true]
  refine .inl ?_
  unfold Oper.wp
  rw [run_call hs.ok rfl rfl w, Oper.upon_enter]
  obtain ⟨L, hR⟩ := hR
  have mem : ∀ {ms : List (Nat × Nat)} {s i : Nat}, idxM ms s = some i → (s, i) ∈ ms := fun {ms s i} hi => by
    induction ms with
    | nil => cases hi
    | cons e r ih =>
      obtain ⟨s', i'⟩ := e
      simp only [idxM] at hi
      cases hb : Nat.beq s' s with
      | true => rw [hb, cond_true] at hi; injection hi with hi; subst hi; have := Nat.eq_of_beq_eq_true hb; subst this; exact List.mem_cons_self ..
      | false => rw [hb, cond_false] at hi; exact List.mem_cons_of_mem _ (ih hi)
  have hlen := ha.length
  refine (hs.calls w (inM ms L) (xs.map a.eval) (by rw [List.length_map, hlen]) ⟨fun b p hb => ?_, fun b p hb => ?_, fun b b' p hb hb' => ?_, fun b hge hf => ?_, hR.globNow.move (Nat.le_refl _) fun b _ h => ⟨inM_sh h, rfl⟩⟩ (fun i x v hx hv => ?_)).mono fun e w' ⟨v, L', xs9', r, he, hRR, hB⟩ => ?_
  · obtain ⟨t, i, q, h3, _, _⟩ := inM_my hb; exact hR.lok.lt b _ h3
  · obtain ⟨t, i, q, _, h3, h4⟩ := inM_my hb; exact ⟨i, q, h4, hms.lt _ _ h3⟩
  · obtain ⟨t, i, q, h3, h4, h5⟩ := inM_my hb
    obtain ⟨t', i', q', h3', h4', h5'⟩ := inM_my hb'
    rw [h5] at h5'; cases h5'
    have e1 := hms.inv _ _ h4
    have e2 := hms.inv _ _ h4'
    rw [e1] at e2; cases e2
    exact hR.lok.inj _ _ _ h3 h3'
  · have := inM_fo.1 hf
    exact hR.lok.new b (Nat.le_trans hR.keep.size hge) this
  · simp only [List.getElem?_map, Option.map_eq_some_iff] at hv
    obtain ⟨y, hy, rfl⟩ := hv
    have := (ha.get i y x hy hx).rep hR
    rwa [Nat.zero_add] at this
  · subst he
    obtain ⟨hnr, hny⟩ := hn xs9' r hRR
    refine h xs9' r hRR h2 w0 L0 Q _ w' hQ (after_callM hR hd hms hB hnr fun s i hi => ?_)
    have hmem := mem hi
    have hcc := List.all_eq_true.1 hc _ hmem
    simp only at hcc
    split at hcc
    · rename_i x hx
      split at hcc
      · rename_i s' y' hs' hy'
        have := Nat.eq_of_beq_eq_true hcc
        subst this
        obtain ⟨e1, e2, _⟩ := slotAt_ev hs' hy' hR
        exact ⟨e1, by rw [List.getElem?_map, hx, Option.map_some, e2], hny _ hmem⟩
      · cases hcc
    · cases hcc
/-- .. its first argument, the others being read. -/
theorem J.callM1 {P : Program} {f : Nat} {x x' : AV} {rest : List AV} {r : AV} {op : Operand} {xs : List Operand} {ops : Array Oper} {l : List Oper} {K : St → Prop} {d s ty : Nat} {ts : Array Nat} {pos : String} {aft : Array Edge} {g : Option (Nat × Bool)} (hs : FnSpec P f (x :: rest) (x' :: rest) r) (hP : P = S.P) (hg : live ops g σ = some true)
    (h1 : slotAt σ op = some s) (h2 : FM.get σ s = .av x) (h3 : Nat.beq s d = false) (ha : ArgsM S N σ [(s, 0)] 1 xs rest) (hr : NoSh r) (hx : NoSh x') (h : J false S N ops l K ((σ.put d (.av r)).put s (.av x'))) :
    J false S N ops (⟨some d, .call ⟨.value (.func f), (op :: xs).toArray, ts⟩, ty, pos, aft, g⟩ :: l) K σ := by
  refine J.callM [(s, 0)] hs.toE hP hg (.one h3 (by simp [Nat.blt])) (.cons (.mu h1 h2 (by simp [idxM, Nat.beq_refl])) ha) ?_ ?_ ?_
  · simp [h1, h2, Nat.beq_refl]
  · rintro xs9' r' ⟨rfl, rfl⟩
    exact ⟨hr, fun e he => by rw [List.mem_singleton.1 he]; exact ⟨_, rfl, hx⟩⟩
  · rintro xs9' r' ⟨rfl, rfl⟩
    exact h
theorem noSh_unit : NoSh (.tup []) := .tup fun x hx => by cases hx
end
/-- A goal that waits. -/
@[irreducible] def Later (p : Prop) : Prop := p
theorem Later.mk {p : Prop} (h : p) : Later p := by unfold Later; exact h
/-! ### operations whose answer hangs on the frame alone may be taken first -/
def StepW (S : Sys) (o : Oper) (σ σ' : St) : Prop :=
  ∀ (w0 : World) (L0 : Nat → Lab) (N : Nat) (a : Act) (w : World), (∀ d : Nat, o.dst = some d → DOk S N d) → Rel S w0 L0 N σ a w →
    ∃ v, (∀ w', (execOp a.eval o).run S.P w' = .ok (.value v) w') ∧ Rel S w0 L0 N σ' (a.put o.dst v) w
theorem JA.takeW {S : Sys} {N : Nat} {σ σ' : St} {K : St → Prop} {l : List Oper} {listed : List Bool} {fuel i : Nat} {o : Oper} (ho : l[i]? = some o) (hg : o.guard = none) (hB : (Region.noSelect l.toArray && Region.free .any l.toArray listed.toArray i && (readyL l listed).contains i) = true) (hs : StepW S o σ σ') (h : JA S N l.toArray fuel (listed.set i true) K σ') :
    JA S N l.toArray (fuel + 1) listed K σ := by
  unfold JA at h ⊢
  intro hdo w0 L0 Q a w hp hQ hR
  simp only [Bool.and_eq_true] at hB
  have hd1 := (dstOk_cons (dstOk_mem (by simpa using hdo) (List.mem_of_getElem? ho))).1
  obtain ⟨v, hv, hR'⟩ := hs w0 L0 N a w hd1 hR
  have h1 := h hdo w0 L0 Q _ w hp hQ hR'
  refine wpAny_take (by simpa using ho) hB.1.1 hB.1.2 (by rw [readyL_eq]; exact hB.2) (fun c a w h => absurd h (hp c _ w)) (.inl ⟨by unfold Region.wanted; rw [hg], hv⟩) ?_
  have e : listed.toArray.setIfInBounds i true = (listed.set i true).toArray := by simp
  rw [e]
  exact h1
section
variable {S : Sys} {σ : St} {d : Nat} {ty : Nat} {pos : String} {aft : Array Edge} {g : Option (Nat × Bool)}
theorem w_add {t t2 : Nat} {x y : Operand} {a b : Int} (hx : ov σ x = .av (.int a)) (hy : ov σ y = .av (.int b)) (hr : InR (a + b)) : StepW S ⟨some d, .binOp .add t x y t2, ty, pos, aft, g⟩ σ (σ.put d (.av (.int (a + b)))) := fun w0 L0 N A w hN ⟨L, hR⟩ =>
  ⟨.int .i64 (a + b), fun w' => by simp [execOp, ev_int hR hx, ev_int hR hy, eqGuard, binOp, Op.intArith, hr.wrap], Rel.putPlain (n := d) hR (hN d rfl) rfl rfl .int⟩
end
/-- The end of a function that turns its arguments. -/
theorem RetE.mk {S : Sys} {rvs : List ResultVar} {xs9 xs9' : List AV} {rs : List AV} {r : AV} {σ : St} {R : List AV → AV → Prop} (hR : R xs9' r) (hr : resL S σ rvs = some rs) (hp : r = pack rs) (hl : xs9'.length = xs9.length) (hs : ∀ (i : Nat) (x y : AV), xs9[i]? = some x → xs9'[i]? = some y → (x.isOwn = false ∧ y = x) ∨ (S.M i = true ∧ (get σ i = .av y ∨ y = .dead))) :
    ∃ xs9' r, R xs9' r ∧ Ret S rvs xs9 xs9' r .ret σ := ⟨xs9', r, hR, rfl, ⟨rs, hr, hp ▸ .refl _⟩, hl, hs⟩
theorem args_nil {S : Sys} {σ : St} {k : Nat} : ∀ (i : Nat) (x y : AV), ([] : List AV)[i]? = some x → ([] : List AV)[i]? = some y → (x.isOwn = false ∧ y = x) ∨ (S.M (k + i) = true ∧ (get σ (k + i) = .av y ∨ y = .dead)) := fun i x y h => by simp at h
theorem args_pl {S : Sys} {σ : St} {k : Nat} {z : AV} {xs9 bs : List AV} (hz : z.isOwn = false) (h : ∀ (i : Nat) (x y : AV), xs9[i]? = some x → bs[i]? = some y → (x.isOwn = false ∧ y = x) ∨ (S.M (k + 1 + i) = true ∧ (get σ (k + 1 + i) = .av y ∨ y = .dead))) :
    ∀ (i : Nat) (x y : AV), (z :: xs9)[i]? = some x → (z :: bs)[i]? = some y → (x.isOwn = false ∧ y = x) ∨ (S.M (k + i) = true ∧ (get σ (k + i) = .av y ∨ y = .dead)) := fun i x y hx hy => by
  cases i with
  | zero => simp only [List.getElem?_cons_zero, Option.some.injEq] at hx hy; subst hx; subst hy; exact .inl ⟨hz, rfl⟩
  | succ i =>
    simp only [List.getElem?_cons_succ] at hx hy
    have := h i x y hx hy
    rwa [Nat.add_assoc, Nat.add_comm 1 i] at this
theorem args_mu {S : Sys} {σ : St} {k : Nat} {z z' : AV} {xs9 bs : List AV} (hm : S.M k = true) (hg : get σ k = .av z') (h : ∀ (i : Nat) (x y : AV), xs9[i]? = some x → bs[i]? = some y → (x.isOwn = false ∧ y = x) ∨ (S.M (k + 1 + i) = true ∧ (get σ (k + 1 + i) = .av y ∨ y = .dead))) :
    ∀ (i : Nat) (x y : AV), (z :: xs9)[i]? = some x → (z' :: bs)[i]? = some y → (x.isOwn = false ∧ y = x) ∨ (S.M (k + i) = true ∧ (get σ (k + i) = .av y ∨ y = .dead)) := fun i x y hx hy => by
  cases i with
  | zero => simp only [List.getElem?_cons_zero, Option.some.injEq] at hx hy; subst hx; subst hy; exact .inr ⟨hm, .inl hg⟩
  | succ i =>
    simp only [List.getElem?_cons_succ] at hx hy
    have := h i x y hx hy
    rwa [Nat.add_assoc, Nat.add_comm 1 i] at this
theorem args_mv {S : Sys} {σ : St} {k : Nat} {z : AV} {xs9 bs : List AV} (hm : S.M k = true) (h : ∀ (i : Nat) (x y : AV), xs9[i]? = some x → bs[i]? = some y → (x.isOwn = false ∧ y = x) ∨ (S.M (k + 1 + i) = true ∧ (get σ (k + 1 + i) = .av y ∨ y = .dead))) :
    ∀ (i : Nat) (x y : AV), (z :: xs9)[i]? = some x → (.dead :: bs)[i]? = some y → (x.isOwn = false ∧ y = x) ∨ (S.M (k + i) = true ∧ (get σ (k + i) = .av y ∨ y = .dead)) := fun i x y hx hy => by
  cases i with
  | zero => simp only [List.getElem?_cons_zero, Option.some.injEq] at hx hy; subst hx; subst hy; exact .inr ⟨hm, .inr rfl⟩
  | succ i =>
    simp only [List.getElem?_cons_succ] at hx hy
    have := h i x y hx hy
    rwa [Nat.add_assoc, Nat.add_comm 1 i] at this
theorem args_start {S : Sys} {σ : St} {xs9 bs : List AV} (h : ∀ (i : Nat) (x y : AV), xs9[i]? = some x → bs[i]? = some y → (x.isOwn = false ∧ y = x) ∨ (S.M (0 + i) = true ∧ (get σ (0 + i) = .av y ∨ y = .dead))) :
    ∀ (i : Nat) (x y : AV), xs9[i]? = some x → bs[i]? = some y → (x.isOwn = false ∧ y = x) ∨ (S.M i = true ∧ (get σ i = .av y ∨ y = .dead)) := fun i x y hx hy => by have := h i x y hx hy; rwa [Nat.zero_add] at this
end FM

/- A call that turns what a slot of the caller owns, by a contract that holds where it stands. No program in sight. -/
namespace FM
open Go Go.RowKit
set_option linter.all false
/-- A call that turns what a slot of the caller owns, by a contract that holds where it stands. -/
theorem J.callMP {S : Sys} {N : Nat} {σ : St} {P : Program} {f : Nat} {xs9' : List AV} {r : AV} {x0 : AV} {op : Operand} {xs : List Operand} {ops : Array Oper} {l : List Oper} {K : St → Prop} {d s ty : Nat} {ts : Array Nat} {pos : String} {aft : Array Edge} {g : Option (Nat × Bool)} (hok : FnOk P f) (hP : P = S.P) (hg : live ops g σ = some true)
    (h1 : slotAt σ op = some s) (h2 : FM.get σ s = .av x0) (h3 : Nat.beq s d = false)
    (hs : ∀ (w0 : World) (L0 : Nat → Lab) (a : Act) (w : World) (L : Nat → Lab), RelL S w0 L0 N σ a w L → FM.Pre (xs.length + 1) (inM [(s, 0)] L) w → Rep (inM [(s, 0)] L) w (some [0]) x0 (a.eval op) →
      Calls P f ((op :: xs).map a.eval).toArray w fun e w' => ∃ v L', e = .returned v ∧ FM.Back (xs.length + 1) xs9' r (inM [(s, 0)] L) w ((op :: xs).map a.eval) v w' L')
    (hr : NoSh r) (hx : ∃ y, xs9'[0]? = some y ∧ NoSh y) (h : J false S N ops l K (putM [(s, 0)] xs9' (σ.put d (.av r)))) :
    J false S N ops (⟨some d, .call ⟨.value (.func f), (op :: xs).toArray, ts⟩, ty, pos, aft, g⟩ :: l) K σ := by
  subst hP
  unfold J at *
  intro hdo w0 L0 Q a w hQ hR
  obtain ⟨hd1, hd2⟩ := dstOk_cons hdo
  have hd := hd1 d rfl
  have hw := live_wanted (o := ⟨some d, .call ⟨.value (.func f), (op :: xs).toArray, ts⟩, ty, pos, aft, g⟩) hg hR
  simp only [wpList, hw, if_true]
  refine .inl ?_
  unfold Oper.wp
  rw [run_call hok rfl rfl w, Oper.upon_enter]
  obtain ⟨L, hR⟩ := hR
  have hms : MOk d (xs.length + 1) [(s, 0)] := .one h3 (by simp [Nat.blt])
  have hA : ArgM S N σ [(s, 0)] 0 op x0 := .mu h1 h2 (by simp [idxM, Nat.beq_refl])
  refine (hs w0 L0 a w L hR ⟨fun b p hb => ?_, fun b p hb => ?_, fun b b' p hb hb' => ?_, fun b hge hf => ?_, hR.globNow.move (Nat.le_refl _) fun b _ h => ⟨inM_sh h, rfl⟩⟩ (hA.rep hR)).mono fun e w' ⟨v, L', he, hB⟩ => ?_
  · obtain ⟨t, i, q, h3, _, _⟩ := inM_my hb; exact hR.lok.lt b _ h3
  · obtain ⟨t, i, q, _, h3, h4⟩ := inM_my hb; exact ⟨i, q, h4, hms.lt _ _ h3⟩
  · obtain ⟨t, i, q, h3, h4, h5⟩ := inM_my hb
    obtain ⟨t', i', q', h3', h4', h5'⟩ := inM_my hb'
    rw [h5] at h5'; cases h5'
    have e1 := hms.inv _ _ h4
    have e2 := hms.inv _ _ h4'
    rw [e1] at e2; cases e2
    exact hR.lok.inj _ _ _ h3 h3'
  · have := inM_fo.1 hf
    exact hR.lok.new b (Nat.le_trans hR.keep.size hge) this
  · subst he
    refine h hd2 w0 L0 Q _ w' hQ (after_callM hR hd hms hB hr fun s' i hi => ?_)
    simp only [idxM] at hi
    cases hb : Nat.beq s s' with
    | false => rw [hb, cond_false] at hi; cases hi
    | true =>
      rw [hb, cond_true] at hi
      have := Nat.eq_of_beq_eq_true hb
      subst this
      cases hi
      obtain ⟨e1, e2, _⟩ := slotAt_ev h1 h2 hR
      exact ⟨e1, by simp [e2], hx⟩
/-- A contract that says less of the result. -/
theorem FnSpec.le {P : Program} {f : Nat} {xs9 xs9' : List AV} {r r' : AV} (h : FnSpec P f xs9 xs9' r) (hl : AV.le r r') : FnSpec P f xs9 xs9' r' :=
  ⟨h.ok, fun w L vs h1 h2 h3 => (h.calls w L vs h1 h2 h3).mono fun e w' ⟨v, L', he, hB⟩ => ⟨v, L', he, hB.keep, hB.lok, hB.head, hB.args, Rep.le hl hB.res⟩⟩
end FM

/- A box that holds a slice of its own: taken out, put in, read. No program in sight. -/
namespace FM
open Go Go.RowKit
set_option linter.all false
theorem RelL.intoBox {S : Sys} {N : Nat} {σ : St} {w0 : World} {L0 : Nat → Lab} {a : Act} {w : World} {L : Nat → Lab} (hR : RelL S w0 L0 N σ a w L) {s i t0 : Nat} {r : AV} {xs : List AV} (hs : FM.get σ s = .av (.pt true xs)) (ht0 : FM.get σ t0 = .av r) (hr1 : r.cells = [r]) (hst : t0 ≠ s) (hi : i < xs.length)
    (hcell : ∀ b, L b = .my [s] → w.cell? ⟨b, i, none⟩ = some (a.tmps.getD t0 undef)) : RelL S w0 L0 N ((σ.put t0 .none).upd false s (.av (.pt true (xs.set i r)))) a w (remap (φinto s i t0) L) := by
  have hsN := own_lt hR hs (by simp)
  have htN := own_lt hR ht0 (by simp)
  have hks : ∀ b, L b = .my [s] → remap (φinto s i t0) L b = .my [s] := fun b hb => remap_to hb (φinto_keep hst (by simp [strip]))
  refine ⟨hR.defers, hR.size, hR.keep, hR.lok.remap φinto_inj, fun n hn => ?_, fun n hn => ?_, hR.fix, hR.glob⟩
  · simp only [FM.get, kill_eq]
    by_cases hsn : s = n
    · subst hsn
      rw [Nat.beq_refl, cond_true]
      have hh := hR.hold s hn
      rw [hs] at hh
      have ht := hR.hold t0 htN
      rw [ht0] at ht
      simp only [Hold] at hh ht ⊢
      generalize a.tmps.getD s undef = sv at hh
      cases hh with
      | @ptO p cs b arr e u hL hb hsz hcl hr =>
        have hci := hcell b hL
        rw [cell_of_row w b i arr e (0, 0) hb] at hci
        refine .ptO (fun o => if o = i then a.tmps.getD t0 undef else u o) (hks b hL) hb (by rw [List.length_set]; exact hsz) (fun o ho => ?_) (fun o y hy => ?_)
        · split
          · rename_i e; subst e; exact hci
          · rw [List.length_set] at ho; exact hcl o ho
        · rw [List.getElem?_set] at hy
          by_cases ho : i = o
          · subst ho
            rw [if_pos rfl, if_pos hi] at hy
            cases hy
            simp only [if_pos]
            refine Rep.frame (Nat.le_refl _) rfl rfl rfl (fun k h1 _ => ⟨remap_sh h1, rfl⟩) ht _ fun p hp => ?_
            cases hp
            refine ⟨_, rfl, fun k q hk => ⟨remap_to hk ?_, rfl⟩⟩
            unfold φinto
            rw [strip_spec.2 rfl]; rfl
          · rw [if_neg ho] at hy
            simp only [if_neg (Ne.symm ho)]
            refine Rep.frame (Nat.le_refl _) rfl rfl rfl (fun k h1 _ => ⟨remap_sh h1, rfl⟩) (hr o y hy) _ fun p hp => ?_
            cases hp
            refine ⟨_, rfl, fun k q hk => ⟨remap_to hk ?_, rfl⟩⟩
            refine φinto_keep hst ?_
            simp [strip, not_beq ho, Nat.beq_refl]
    · rw [not_beq hsn, cond_false]
      by_cases htn : t0 = n
      · subst htn; rw [Nat.beq_refl, cond_true]; trivial
      · rw [not_beq htn, cond_false]
        cases hd : (FM.get σ n).dep t0 with
        | true => trivial
        | false =>
          rw [cond_false]
          have hh := hR.hold n hn
          have key : ∀ tv : TV, tv.dep s = false → tv.dep t0 = false → Hold L w a.tmps n tv (a.tmps.getD n undef) → Hold (remap (φinto s i t0) L) w a.tmps n tv (a.tmps.getD n undef) := fun tv hds hdt hh =>
            Hold.relab (good := fun m => m ≠ s ∧ m ≠ t0) (Nat.le_refl _) rfl rfl rfl (fun k h1 _ => ⟨remap_sh h1, rfl⟩) (fun k m q h1 h2 => ⟨remap_to h1 (φinto_keep (fun e => h2.2 e.symm) (by simp only [strip, not_beq (fun e => h2.1 e.symm : s ≠ m), cond_false])), rfl⟩)
              (fun _ _ => rfl) ⟨fun e => hsn e.symm, fun e => htn e.symm⟩ (fun m hm => ⟨fun e => (by subst e; rw [hds] at hm; cases hm), fun e => (by subst e; rw [hdt] at hm; cases hm)⟩) hh
          generalize FM.get σ n = tv at hh hd
          cases tv with
          | none => trivial
          | av x => exact key _ rfl rfl hh
          | ref s' => exact hh
          | rref s' q y =>
            simp only [TV.stale]
            cases hb' : Nat.beq s' s with
            | false => exact key _ hb' hd hh
            | true => trivial
          | ptr s' q c y =>
            simp only [TV.stale]
            cases hb' : Nat.beq s' s with
            | false => exact key _ hb' hd hh
            | true =>
              have := Nat.eq_of_beq_eq_true hb'; subst this
              obtain ⟨k, h1, h2, _⟩ := hh; exact ⟨k, hks k h1, h2, fun h => absurd rfl h⟩
          | fpt s' o y =>
            simp only [TV.stale]
            cases hb' : Nat.beq s' s with
            | false => exact key _ hb' hd hh
            | true =>
              have := Nat.eq_of_beq_eq_true hb'; subst this
              obtain ⟨k, h1, h2, _⟩ := hh; exact ⟨k, hks k h1, h2, fun h => absurd rfl h⟩
          | rptr s' q j y =>
            simp only [TV.stale]
            cases hb' : Nat.beq s' s with
            | false => exact key _ hb' hd hh
            | true => trivial
          | dptr x => exact key _ rfl rfl hh
          | bdp s' x =>
            simp only [TV.stale]
            cases hb' : Nat.beq s' s with
            | false => exact key _ hb' hd hh
            | true => trivial
          | bor s' x =>
            simp only [TV.stale]
            cases hb' : Nat.beq s' s with
            | false => exact key _ hb' hd hh
            | true => trivial
          | clo f caps => exact hh
  · simp only [FM.get, kill_eq]
    rw [not_beq (show s ≠ n by omega), cond_false, not_beq (show t0 ≠ n by omega), cond_false, hR.out n hn]; rfl

theorem RelL.takeBox {S : Sys} {N : Nat} {σ : St} {w0 : World} {L0 : Nat → Lab} {a : Act} {w : World} {L : Nat → Lab} (hR : RelL S w0 L0 N σ a w L) {s i d : Nat} {y : AV} {xs : List AV} (hs : FM.get σ s = .av (.pt true xs)) (hd : FM.get σ d = .rref s i y) (hy : y ≠ .dead) (hsd : s ≠ d) (hi : i < xs.length) :
    RelL S w0 L0 N ((σ.upd false s (.av (.pt true (xs.set i .dead)))).put d (.av y)) a w (mvl [s, i] d L) := by
  have hsN := own_lt hR hs (by simp)
  have hdN := own_lt hR hd (by simp)
  have hks : ∀ b, L b = .my [s] → mvl [s, i] d L b = .my [s] := fun b hb => mvl_keep hb hsd (by simp [strip])
  refine ⟨hR.defers, hR.size, hR.keep, hR.lok.mvl _ _, fun n hn => ?_, fun n hn => ?_, hR.fix, hR.glob⟩
  · simp only [FM.get, kill_eq]
    by_cases hnd : d = n
    · subst hnd
      rw [Nat.beq_refl, cond_true]
      have := hR.hold d hdN
      rw [hd] at this
      obtain ⟨b, h1, h2, h3⟩ := this
      refine Rep.frame (Nat.le_refl _) rfl rfl rfl (fun b h1 _ => ⟨mvl_sh h1, rfl⟩) (h3 hy) _ fun p hp => ?_
      cases hp
      exact ⟨[d], rfl, fun b q hb => ⟨mvl_to hb, rfl⟩⟩
    · rw [not_beq hnd, cond_false]
      by_cases hns : s = n
      · subst hns
        rw [Nat.beq_refl, cond_true]
        simp only [TV.dep, cond_false]
        have hh := hR.hold s hn
        rw [hs] at hh
        simp only [Hold] at hh ⊢
        generalize a.tmps.getD s undef = sv at hh
        cases hh with
        | @ptO p cs b arr e u hL hb hsz hcl hr =>
          refine .ptO u (hks b hL) hb (by rw [List.length_set]; exact hsz) (fun o ho => by rw [List.length_set] at ho; exact hcl o ho) (fun o z hz => ?_)
          rw [List.getElem?_set] at hz
          by_cases ho : i = o
          · subst ho
            rw [if_pos rfl, if_pos hi] at hz
            cases hz; exact .dead
          · rw [if_neg ho] at hz
            refine Rep.frame (Nat.le_refl _) rfl rfl rfl (fun k h1 _ => ⟨mvl_sh h1, rfl⟩) (hr o z hz) _ fun p hp => ?_
            cases hp
            refine ⟨_, rfl, fun k q hk => ⟨?_, rfl⟩⟩
            exact mvl_keep (t := s) (q := o :: q) hk hsd (by simp [strip, not_beq ho, Nat.beq_refl])
      · rw [not_beq hns, cond_false]
        have hh := hR.hold n hn
        have key : ∀ tv : TV, tv.dep s = false → tv.dep d = false → Hold L w a.tmps n tv (a.tmps.getD n undef) → Hold (mvl [s, i] d L) w a.tmps n tv (a.tmps.getD n undef) := fun tv hds hdt hh =>
          Hold.relab (good := fun m => m ≠ s ∧ m ≠ d) (Nat.le_refl _) rfl rfl rfl (fun k h1 _ => ⟨mvl_sh h1, rfl⟩) (fun k m q h1 h2 => ⟨mvl_keep h1 h2.2 (by simp only [strip, not_beq (fun e => h2.1 e.symm : s ≠ m), cond_false]), rfl⟩)
            (fun _ _ => rfl) ⟨fun e => hns e.symm, fun e => hnd e.symm⟩ (fun m hm => ⟨fun e => (by subst e; rw [hds] at hm; cases hm), fun e => (by subst e; rw [hdt] at hm; cases hm)⟩) hh
        generalize FM.get σ n = tv at hh
        cases tv with
        | none => trivial
        | av x => exact key _ rfl rfl hh
        | ref s' =>
          simp only [TV.stale, TV.dep]
          cases Nat.beq s' d <;> first | exact hh | trivial
        | rref s' q y =>
          simp only [TV.stale]
          cases hb' : Nat.beq s' s with
          | true => trivial
          | false =>
            simp only [cond_false, TV.dep]
            cases hd' : Nat.beq s' d with
            | true => trivial
            | false => exact key _ hb' hd' hh
        | ptr s' q c y =>
          simp only [TV.stale]
          cases hb' : Nat.beq s' s with
          | true =>
            have := Nat.eq_of_beq_eq_true hb'; subst this
            simp only [cond_true, TV.dep, not_beq hsd, cond_false]
            obtain ⟨k, h1, h2, _⟩ := hh; exact ⟨k, hks k h1, h2, fun h => absurd rfl h⟩
          | false =>
            simp only [cond_false, TV.dep]
            cases hd' : Nat.beq s' d with
            | true => trivial
            | false => exact key _ hb' hd' hh
        | fpt s' o y =>
          simp only [TV.stale]
          cases hb' : Nat.beq s' s with
          | true =>
            have := Nat.eq_of_beq_eq_true hb'; subst this
            simp only [cond_true, TV.dep, not_beq hsd, cond_false]
            obtain ⟨k, h1, h2, _⟩ := hh; exact ⟨k, hks k h1, h2, fun h => absurd rfl h⟩
          | false =>
            simp only [cond_false, TV.dep]
            cases hd' : Nat.beq s' d with
            | true => trivial
            | false => exact key _ hb' hd' hh
        | rptr s' q j y =>
          simp only [TV.stale]
          cases hb' : Nat.beq s' s with
          | true => trivial
          | false =>
            simp only [cond_false, TV.dep]
            cases hd' : Nat.beq s' d with
            | true => trivial
            | false => exact key _ hb' hd' hh
        | dptr x => exact key _ rfl rfl hh
        | bdp s' x =>
          simp only [TV.stale]
          cases hb' : Nat.beq s' s with
          | true => trivial
          | false =>
            simp only [cond_false, TV.dep]
            cases hd' : Nat.beq s' d with
            | true => trivial
            | false => exact key _ hb' hd' hh
        | bor s' x =>
          simp only [TV.stale]
          cases hb' : Nat.beq s' s with
          | true => trivial
          | false =>
            simp only [cond_false, TV.dep]
            cases hd' : Nat.beq s' d with
            | true => trivial
            | false => exact key _ hb' hd' hh
        | clo f caps =>
          simp only [TV.stale, TV.dep]
          cases caps.any fun s => Nat.beq s d <;> first | exact hh | trivial
  · simp only [FM.get, kill_eq]
    rw [not_beq (show d ≠ n by omega), cond_false, not_beq (show s ≠ n by omega), cond_false, hR.out n hn]; rfl
end FM

/- Calls that turn what the caller owns and hand out what is shared: nothing else of the caller's is read. No program in sight. -/
namespace FM
open Go Go.RowKit
set_option linter.all false
def inH (ms : List (Nat × Nat)) (L : Nat → Lab) : Nat → Lab := fun b => match L b with
  | .my (t :: q) => match idxM ms t with
    | some i => .my (i :: q)
    | none => .fo
  | .my [] => .fo
  | l => l
theorem inH_my {ms : List (Nat × Nat)} {L : Nat → Lab} {b : Nat} {p : List Nat} (h : inH ms L b = .my p) : ∃ t i q, L b = .my (t :: q) ∧ idxM ms t = some i ∧ p = i :: q := by
  unfold inH at h
  cases hL : L b with
  | my p' =>
    rw [hL] at h
    cases p' with
    | nil => cases h
    | cons t q =>
      simp only at h
      cases hi : idxM ms t with
      | some i => rw [hi] at h; injection h with h; exact ⟨t, i, q, rfl, hi, h.symm⟩
      | none => rw [hi] at h; cases h
  | sh => rw [hL] at h; cases h
  | fo => rw [hL] at h; cases h
theorem inH_to {ms : List (Nat × Nat)} {L : Nat → Lab} {b t i : Nat} {q : List Nat} (h : L b = .my (t :: q)) (hi : idxM ms t = some i) : inH ms L b = .my (i :: q) := by simp only [inH, h, hi]
theorem inH_no {ms : List (Nat × Nat)} {L : Nat → Lab} {b t : Nat} {q : List Nat} (h : L b = .my (t :: q)) (hi : idxM ms t = none) : inH ms L b = .fo := by simp only [inH, h, hi]
theorem inH_sh {ms : List (Nat × Nat)} {L : Nat → Lab} {b : Nat} (h : L b = .sh) : inH ms L b = .sh := by simp only [inH, h]
theorem inH_fo {ms : List (Nat × Nat)} {L : Nat → Lab} {b : Nat} (h : L b = .fo) : inH ms L b = .fo := by simp only [inH, h]
theorem inH_fo' {ms : List (Nat × Nat)} {L : Nat → Lab} {b : Nat} (h : inH ms L b = .fo) : L b = .fo ∨ ∃ p, L b = .my p := by
  unfold inH at h
  cases hL : L b with
  | my p => exact .inr ⟨p, rfl⟩
  | sh => rw [hL] at h; cases h
  | fo => exact .inl rfl
section
variable {S : Sys} {N : Nat} {σ : St}
/-- The frame behind the call. -/
theorem after_callH {w0 : World} {L0 : Nat → Lab} {a : Act} {w : World} {L : Nat → Lab} (hR : RelL S w0 L0 N σ a w L) {d : Nat} (hd : DOk S N d) {n : Nat} {ms : List (Nat × Nat)} (hms : MOk d n ms) {xs9' : List AV} {r : AV} {vs : List Value} {v : Value} {w' : World} {L' : Nat → Lab} (hB : Back n xs9' r (inH ms L) w vs v w' L')
    (hm : ∀ s i, idxM ms s = some i → s < N ∧ vs[i]? = some (a.tmps.getD s undef) ∧ ∃ y, xs9'[i]? = some y) : Rel S w0 L0 N (putM ms xs9' (σ.put d (.av r))) (a.put (some d) v) w' := by
  have hin : ∀ b p, b < w.heap.size → L' b = .my p → ∃ q, inH ms L b = .my q := hB.lok.old
  have hnmy : ∀ b, b < w.heap.size → (∀ q, inH ms L b ≠ .my q) → (∀ q, L' b ≠ .my q) ∧ w'.heap[b]? = w.heap[b]? := fun b hb hno => ⟨fun q hq => by obtain ⟨q', hq'⟩ := hin b q hb hq; exact hno q' hq', hB.keep.block b hb hno⟩
  have hsh : ∀ b, L b = .sh → b < w.heap.size → outM n d ms w.heap.size L L' b = .sh ∧ w'.heap[b]? = w.heap[b]? := fun b hb hlt => by
    obtain ⟨h1, h2⟩ := hnmy b hlt (fun q hq => by rw [inH_sh hb] at hq; cases hq)
    exact ⟨outM_sh hb h1, h2⟩
  have hshr : ∀ b, L' b = .sh → outM n d ms w.heap.size L L' b = .sh := fun b hb => by
    unfold outM
    rw [hb]
    dsimp only
    split
    · rename_i hlt
      have hno : inH ms L b ≠ .fo := fun e => by have := (hB.lok.fo b hlt).2 e; rw [hb] at this; cases this
      cases hL : L b with
      | my p =>
        cases p with
        | nil => rfl
        | cons t q =>
          cases hi : idxM ms t with
          | none => exact absurd (inH_no hL hi) hno
          | some i => simp [hi]
      | sh => rfl
      | fo => exact absurd (inH_fo hL) hno
    · rfl
  have hold : ∀ b t q, L b = .my (t :: q) → (t ≠ d ∧ idxM ms t = none) → outM n d ms w.heap.size L L' b = .my (t :: q) ∧ w'.heap[b]? = w.heap[b]? := fun b t q hb ⟨h1, h2⟩ => by
    have hlt := hR.lok.lt b _ hb
    obtain ⟨h3, h4⟩ := hnmy b hlt (fun q hq => by rw [inH_no hb h2] at hq; cases hq)
    exact ⟨outM_old hb hlt h3 h1 h2, h4⟩
  have htm : ∀ t, t ≠ d → (a.put (some d) v).tmps.getD t undef = a.tmps.getD t undef := fun t ht => getD_set_other (fun e => ht e.symm)
  refine ⟨outM n d ms w.heap.size L L', hR.defers, by simp [Act.put, hR.size], ⟨hB.keep.os.trans hR.keep.os, hB.keep.tape.trans hR.keep.tape, hB.keep.output.trans hR.keep.output, Nat.le_trans hR.keep.size hB.keep.size, fun b hb hno => ?_⟩,
    ⟨fun b p hb => ?_, fun b b' p hb hb' => ?_, fun b p hb => ?_, fun b p hlt hb => ?_, fun b hlt => ?_, fun b hge hf => ?_⟩, fun m hm' => ?_, fun m hm' => ?_, fun i hi => (getD_set_other (hd.ne hi)).trans (hR.fix i hi), hR.glob⟩
  · have hlt := Nat.lt_of_lt_of_le hb hR.keep.size
    refine (hB.keep.block b hlt fun p hp => ?_).trans (hR.keep.block b hb hno)
    obtain ⟨t, i, q, h1, _, _⟩ := inH_my hp
    obtain ⟨q', h2⟩ := hR.lok.old b _ hb h1
    exact hno q' h2
  · rcases outM_my hb with ⟨q, h1, _⟩ | ⟨k, s, q, h1, _⟩ | ⟨h1, _⟩
    · exact hB.lok.lt b _ h1
    · exact hB.lok.lt b _ h1
    · exact Nat.lt_of_lt_of_le h1 hB.keep.size
  · rcases outM_my hb with ⟨q, h1, h2⟩ | ⟨k, s, q, h1, h2, h3, h4⟩ | ⟨h1, h2, t, q, h3, h4, h5, h6⟩ <;> rcases outM_my hb' with ⟨q', h1', h2'⟩ | ⟨k', s', q', h1', h2', h3', h4'⟩ | ⟨h1', h2', t', q', h3', h4', h5', h6'⟩
    · rw [h2] at h2'; cases h2'; exact hB.lok.inj _ _ _ h1 h1'
    · rw [h2] at h4'; cases h4'; have := hms.inv' _ _ h3'; rw [hms.nd] at this; cases this
    · rw [h2] at h6'; cases h6'; exact absurd rfl h4'
    · rw [h4] at h2'; cases h2'; have := hms.inv' _ _ h3; rw [hms.nd] at this; cases this
    · rw [h4] at h4'; cases h4'
      have e1 := hms.inv' _ _ h3
      have e2 := hms.inv' _ _ h3'
      rw [e1] at e2; cases e2
      exact hB.lok.inj _ _ _ h1 h1'
    · rw [h4] at h6'; cases h6'; have := hms.inv' _ _ h3; rw [h5'] at this; cases this
    · rw [h6] at h2'; cases h2'; exact absurd rfl h4
    · rw [h6] at h4'; cases h4'; have := hms.inv' _ _ h3'; rw [h5] at this; cases this
    · rw [h6] at h6'; cases h6'; exact hR.lok.inj _ _ _ h3 h3'
  · rcases outM_my hb with ⟨q, _, h2⟩ | ⟨k, s, q, _, _, _, h2⟩ | ⟨_, _, t, q, _, _, _, h2⟩ <;> (subst h2; simp)
  · have hlt' := Nat.lt_of_lt_of_le hlt hR.keep.size
    have up : ∀ p', L' b = .my p' → ∃ q, L0 b = .my q := fun p' hp' => by
      obtain ⟨q, hq⟩ := hin b _ hlt' hp'
      obtain ⟨t, i, q2, h1, _, _⟩ := inH_my hq
      exact hR.lok.old b _ hlt h1
    rcases outM_my hb with ⟨q, h1, _⟩ | ⟨k, s, q, h1, _⟩ | ⟨_, _, t, q, h1, _⟩
    · exact up _ h1
    · exact up _ h1
    · exact hR.lok.old b _ hlt h1
  · have hlt' := Nat.lt_of_lt_of_le hlt hR.keep.size
    refine ⟨fun h => (hR.lok.fo b hlt).1 (outM_fo h).2, fun h => ?_⟩
    have h1 := (hR.lok.fo b hlt).2 h
    have h2 := (hB.lok.fo b hlt').2 (inH_fo h1)
    exact outM_fo' h1 hlt' (fun q hq => by rw [h2] at hq; cases hq)
  · obtain ⟨_, h2⟩ := outM_fo hf
    exact hR.lok.new b hge h2
  · rcases getM (xs9 := xs9') (σ := σ.put d (.av r)) (n := m) (ms := ms) with ⟨i, h1, h2⟩ | ⟨h1, h2 | ⟨h2, h3⟩⟩
    · obtain ⟨hsN, hvi, y, hy⟩ := hm m i h1
      rw [h2, List.getD_eq_getElem?_getD, hy]
      have hmd : m ≠ d := fun e => by subst e; rw [hms.nd] at h1; cases h1
      rw [htm m hmd]
      have h0 := hB.args i y _ hy hvi
      have hin' := hms.lt m i h1
      exact h0.frame (Nat.le_refl _) rfl rfl rfl (fun b hb _ => ⟨hshr b hb, rfl⟩) _ fun p hp => by
        cases hp
        exact ⟨[m], rfl, fun b q hb => ⟨outM_arg hb (by omega) (hms.inv _ _ h1), rfl⟩⟩
    · rw [h2]; trivial
    · rw [h2]
      simp only [FM.get, kill_eq] at h3 ⊢
      by_cases hmd : d = m
      · subst hmd
        rw [Nat.beq_refl, cond_true]
        have : (a.put (some d) v).tmps.getD d undef = v := getD_set_same (by rw [hR.size]; exact hd.lt)
        rw [this]
        exact hB.res.frame (Nat.le_refl _) rfl rfl rfl (fun b hb _ => ⟨hshr b hb, rfl⟩) _ fun p hp => by
          cases hp
          exact ⟨[d], rfl, fun b q hb => ⟨outM_res hb, rfl⟩⟩
      · rw [not_beq hmd, cond_false] at h3 ⊢
        cases hdep : (FM.get σ m).dep d with
        | true => trivial
        | false =>
          rw [hdep, cond_false] at h3
          rw [cond_false, htm m (fun e => hmd e.symm)]
          have hg : ∀ t, (FM.get σ m).dep t = true → t ≠ d ∧ idxM ms t = none := fun t ht => by
            refine ⟨fun e => ?_, ?_⟩
            · subst e; rw [hdep] at ht; cases ht
            · cases hi : idxM ms t with
              | none => rfl
              | some i => have := h3 t (by rw [hi]; rfl); rw [this] at ht; cases ht
          exact Hold.relab (good := fun t => t ≠ d ∧ idxM ms t = none) hB.keep.size hB.keep.os hB.keep.tape hB.keep.output hsh hold (fun t ht => htm t ht.1) ⟨fun e => hmd e.symm, h1⟩ hg (hR.hold m hm')
  · rcases getM (xs9 := xs9') (σ := σ.put d (.av r)) (n := m) (ms := ms) with ⟨i, h1, h2⟩ | ⟨h1, h2 | ⟨h2, h3⟩⟩
    · have := (hm m i h1).1; omega
    · exact h2
    · rw [h2]
      simp only [FM.get, kill_eq]
      rw [not_beq (show d ≠ m by have := hd.lt; omega), cond_false, hR.out m hm']; rfl
/-- A call that turns what a slot owns, its first argument; the others are plain. -/
theorem J.callH {P : Program} {f : Nat} {x x' : AV} {rest : List AV} {r : AV} {op : Operand} {xs : List Operand} {ops : Array Oper} {l : List Oper} {K : St → Prop} {d s ty : Nat} {ts : Array Nat} {pos : String} {aft : Array Edge} {g : Option (Nat × Bool)} (hs : FnSpec P f (x :: rest) (x' :: rest) r) (hP : P = S.P) (hg : live ops g σ = some true)
    (h1 : slotAt σ op = some s) (h2 : FM.get σ s = .av x) (h3 : Nat.beq s d = false) (ha : ArgsOk S N σ xs false rest) (h : J false S N ops l K ((σ.put d (.av r)).put s (.av x'))) :
    J false S N ops (⟨some d, .call ⟨.value (.func f), (op :: xs).toArray, ts⟩, ty, pos, aft, g⟩ :: l) K σ := by
  subst hP
  unfold J at *
  intro hdo w0 L0 Q a w hQ hR
  obtain ⟨g1, g2⟩ := dstOk_cons hdo
  have hd := g1 d rfl
  have hw := live_wanted (o := ⟨some d, .call ⟨.value (.func f), (op :: xs).toArray, ts⟩, ty, pos, aft, g⟩) hg hR
  simp only [wpList, hw, if_true]
  refine .inl ?_
  unfold Oper.wp
  rw [run_call (xs := op :: xs) hs.ok rfl rfl w, Oper.upon_enter]
  obtain ⟨L, hR⟩ := hR
  have hlen := ha.length
  have hms : MOk d (xs.length + 1) [(s, 0)] := .one h3 (by simp [Nat.blt])
  have hi0 : idxM [(s, 0)] s = some 0 := by simp [idxM, Nat.beq_refl]
  have mem : ∀ {s' i : Nat}, idxM [(s, 0)] s' = some i → s' = s ∧ i = 0 := fun {s' i} hi => by
    simp only [idxM] at hi
    cases hb : Nat.beq s s' with
    | true => rw [hb, cond_true] at hi; injection hi with hi; exact ⟨(Nat.eq_of_beq_eq_true hb).symm, hi.symm⟩
    | false => rw [hb, cond_false] at hi; cases hi
  obtain ⟨e1, e2, e3⟩ := slotAt_ev h1 h2 hR
  have hcalls := hs.calls w (inH [(s, 0)] L) ((op :: xs).map a.eval) (by rw [List.length_map, List.length_cons, List.length_cons, hlen])
  rw [show (x :: rest).length = xs.length + 1 by rw [List.length_cons, hlen]] at hcalls
  refine (hcalls ⟨fun b p hb => ?_, fun b p hb => ?_, fun b b' p hb hb' => ?_, fun b hge hf => ?_, hR.globNow.move (Nat.le_refl _) fun b _ h => ⟨inH_sh h, rfl⟩⟩ (fun i y v hy hv => ?_)).mono fun e w' ⟨v, L', he, hB⟩ => ?_
  · obtain ⟨t, i, q, h3, _, _⟩ := inH_my hb; exact hR.lok.lt b _ h3
  · obtain ⟨t, i, q, _, h3, h4⟩ := inH_my hb; exact ⟨i, q, h4, hms.lt _ _ h3⟩
  · obtain ⟨t, i, q, h3, h4, h5⟩ := inH_my hb
    obtain ⟨t', i', q', h3', h4', h5'⟩ := inH_my hb'
    rw [h5] at h5'; cases h5'
    have e1 := hms.inv _ _ h4
    have e2 := hms.inv _ _ h4'
    rw [e1] at e2; cases e2
    exact hR.lok.inj _ _ _ h3 h3'
  · rcases inH_fo' hf with h | ⟨p, h⟩
    · exact hR.lok.new b (Nat.le_trans hR.keep.size hge) h
    · have := hR.lok.lt b _ h; omega
  · cases i with
    | zero =>
      simp only [List.map_cons, List.getElem?_cons_zero, Option.some.injEq] at hy hv
      subst hy; subst hv
      exact e3.frame (Nat.le_refl _) rfl rfl rfl (fun b hb _ => ⟨inH_sh hb, rfl⟩) _ fun p hp => by
        cases hp
        exact ⟨[0], rfl, fun b q hb => ⟨inH_to hb hi0, rfl⟩⟩
    | succ i =>
      simp only [List.map_cons, List.getElem?_cons_succ, List.getElem?_map, Option.map_eq_some_iff] at hy hv
      obtain ⟨z, hz, rfl⟩ := hv
      obtain ⟨c, h5, h6⟩ := ha.get i z y hz hy
      have hc := h6 rfl
      subst hc
      exact (h5.readS hR fun b _ hb => inH_sh hb).any _
  · subst he
    have := after_callH hR hd hms hB fun s' i hi => by
      obtain ⟨rfl, rfl⟩ := mem hi
      exact ⟨e1, by simp [e2], x', rfl⟩
    exact h g2 w0 L0 Q _ w' hQ this
end
theorem StepW.mov {S : Sys} {σ σ' : St} {o : Oper} {x : Operand} (hx : o.op = .move x ∨ o.op = .assign x) (h : Step S o σ σ') : StepW S o σ σ' := by
  intro w0 L0 N a w hN hR
  obtain ⟨v, h1, h2⟩ := h w0 L0 N a w hN hR
  refine ⟨v, fun w' => ?_, h2⟩
  have hrun : ∀ w, (execOp a.eval o).run S.P w = .ok (.value (a.eval x)) w := fun w => by rcases hx with hx | hx <;> simp [execOp, hx]
  have h3 := h1 w (Ext.refl w)
  rw [hrun] at h3 ⊢
  cases h3; rfl
section
variable {S : Sys} {σ : St} {d : Nat} {ty : Nat} {pos : String} {aft : Array Edge} {g : Option (Nat × Bool)}
theorem w_ixaSh {t e c sz by_ : Nat} {z : List AV} {ti : TI} {x i : Operand} {xs : List AV} {n : Int} {y : AV} (hx : ov σ x = .av (.sl false c xs)) (hi : ov σ i = .av (.int n)) (hT : S.T t = some ⟨.slice e, sz, by_, z⟩) (hE : S.T e = some ti) (hc : ti.size = c)
    (h0 : 0 ≤ n) (hy : xs[n.toNat]? = some y) : StepW S ⟨some d, .indexAddr t x i, ty, pos, aft, g⟩ σ (σ.put d (.dptr y)) := by
  intro w0 L0 N a w hN ⟨L, hR⟩
  obtain ⟨m, hm⟩ := ev_av hR hx
  obtain ⟨b, off, cap, hv, hb, hlt, ⟨_, hL, hcs⟩ | ⟨h, _⟩⟩ := elem_cells hm hy
  · refine ⟨.pointer (some ⟨b, off + n.toNat * c, none⟩), fun w' => ?_, Rel.putPlain (n := d) hR (hN d rfl) rfl rfl ⟨b, off + n.toNat * c, rfl, hL, hb, hcs⟩⟩
    subst hc
    simp only [execOp, hv, ev_int hR hi, Sem.run_bind, run_indexAt (S.ok t _ hT).slice (S.ok e _ hE).size h0 hlt]
    rfl
  · cases h
theorem w_fadR {t sz by_ i off fty s q : Nat} {fs : List (Nat × Nat)} {zz cs : List AV} {tif : TI} {y : AV} (hq : get σ q = .ref s) (hs : get σ s = .av (.pt true cs)) (hT : S.T t = some ⟨.struct fs, sz, by_, zz⟩) (hf : fs[i]? = some (off, fty)) (hF : S.T fty = some tif) (hc : Nat.beq tif.size 0 = false) (hy : cs[off]? = some y) (h1 : y.cells = [y]) (hsd : Nat.beq s d = false) :
    StepW S ⟨some d, .fieldAddr t (.tmp q) i, ty, pos, aft, g⟩ σ (σ.put d (.fpt s off y)) := by
  intro w0 L0 N a w hN ⟨L, hR⟩
  have hh := hR.hold s (own_lt hR hs (by simp))
  have hh2 := hR.hold q (own_lt hR hq (by simp))
  rw [hs] at hh
  rw [hq] at hh2
  simp only [Hold] at hh hh2
  obtain ⟨b, hL, hp, _, hcs⟩ := pt_at hh
  obtain ⟨fields, f, hu, hfi, h2, h3⟩ := (S.ok t _ hT).fld hf
  have hev : a.eval (.tmp q) = .pointer (some ⟨b, 0, none⟩) := hh2.trans hp
  have hsz := (S.ok fty _ hF).size
  rw [← h3] at hsz
  refine ⟨.pointer (some ⟨b, 0 + f.offset, none⟩), fun w' => ?_, Rel.putPlain (n := d) hR (hN d rfl) rfl hsd ⟨b, hL, by rw [h2]; simp, fun _ j z hz => ?_⟩⟩
  · simp only [execOp, hev, Sem.run_bind, run_fieldAt hu hfi hsz (of_not_beq hc)]; rfl
  · rw [h1] at hz
    cases j with
    | zero => simp only [List.getElem?_cons_zero, Option.some.injEq] at hz; subst hz; simpa using hcs off _ hy
    | succ j => simp at hz
theorem w_nilR {x : Operand} {s : Nat} {o : Bool} {cs : List AV} (hx : ov σ x = .ref s) (hs : get σ s = .av (.pt o cs)) (hsd : Nat.beq s d = false) : StepW S ⟨some d, .nilCheck x, ty, pos, aft, g⟩ σ (σ.put d (.ref s)) := by
  intro w0 L0 N a w hN ⟨L, h⟩
  obtain ⟨m, hm, _⟩ := hold_plain h hx (by simp)
  simp only [Hold] at hm
  have hh := h.hold s (own_lt h hs (by simp))
  rw [hs, ← hm] at hh
  obtain ⟨ad, hv⟩ : ∃ ad, a.eval x = .pointer (some ad) := by generalize a.eval x = v at hh; cases hh <;> exact ⟨_, rfl⟩
  refine ⟨a.eval x, fun w' => ?_, _, h.put (hN d rfl) ?_⟩
  · simp [execOp, hv]
  · simp only [Hold]
    rw [hm, getD_set_other (fun e => of_not_beq hsd e.symm)]
theorem w_strAdd {t t2 : Nat} {x y : Operand} {a b : List UInt8} (hx : ov σ x = .av (.str a)) (hy : ov σ y = .av (.str b)) (hl : a.length + b.length ≤ 9223372036854775807) : StepW S ⟨some d, .binOp .add t x y t2, ty, pos, aft, g⟩ σ (σ.put d (.av (.str (a ++ b)))) := fun w0 L0 N c w hN ⟨L, hR⟩ =>
  ⟨.string ⟨(a ++ b).toArray⟩, fun w' => by
    have h0 : ¬ (((a.length + b.length : Nat) : Int) > IntKind.i64.max) := by simp only [IntKind.max, IntKind.signed, IntKind.bits, if_true]; omega
    have e : (⟨a.toArray⟩ : ByteArray) ++ ⟨b.toArray⟩ = ⟨(a ++ b).toArray⟩ := by apply ByteArray.ext; simp
    simp only [execOp, ev_str hR hx, ev_str hR hy, Sem.run_bind, eqGuard, binOp, Op.stringOp, mk_size, h0, if_false, e]
    rfl, Rel.putPlain (n := d) hR (hN d rfl) rfl rfl .str⟩
theorem w_fadDh {t sz by_ i off fty : Nat} {fs : List (Nat × Nat)} {zz cs : List AV} {tif : TI} {y : AV} {x : Operand} (hx : ov σ x = .dptr (.agg cs)) (hT : S.T t = some ⟨.struct fs, sz, by_, zz⟩) (hf : fs[i]? = some (off, fty)) (hF : S.T fty = some tif) (hc : Nat.beq tif.size 0 = false) (hy : cs[off]? = some y) (h1 : y.cells = [y]) :
    StepW S ⟨some d, .fieldAddr t x i, ty, pos, aft, g⟩ σ (σ.put d (.dptr y)) := by
  intro w0 L0 N a w hN ⟨L, hR⟩
  obtain ⟨_, ⟨b, o, hv, hb, hlt, hcs⟩, _⟩ := hold_plain hR hx (by simp)
  obtain ⟨fields, f, hu, hfi, h2, h3⟩ := (S.ok t _ hT).fld hf
  have hsz := (S.ok fty _ hF).size
  rw [← h3] at hsz
  refine ⟨.pointer (some ⟨b, o + f.offset, none⟩), fun w' => ?_, Rel.putPlain (n := d) hR (hN d rfl) rfl rfl ⟨b, o + f.offset, rfl, hb, hlt, fun j z hz => ?_⟩⟩
  · simp only [execOp, hv, Sem.run_bind, run_fieldAt hu hfi hsz (of_not_beq hc)]; rfl
  · rw [h1] at hz
    cases j with
    | zero => simp only [List.getElem?_cons_zero, Option.some.injEq] at hz; subst hz; rw [h2]; exact hcs off _ hy
    | succ j => simp at hz
end
section
variable {S : Sys} {N : Nat} {σ : St} {K : St → Prop} {l : List Oper} {listed : List Bool} {fuel : Nat}
theorem JA.three {i j k : Nat} {o1 o2 o3 : Oper} (hr : readyL l listed = [i, j, k]) (h1 : l[i]? = some o1) (h2 : l[j]? = some o2) (h3 : l[k]? = some o3) (g1 : J false S N l.toArray [o1] (JA S N l.toArray fuel (listed.set i true) K) σ) (g2 : J false S N l.toArray [o2] (JA S N l.toArray fuel (listed.set j true) K) σ) (g3 : J false S N l.toArray [o3] (JA S N l.toArray fuel (listed.set k true) K) σ) : JA S N l.toArray (fuel + 1) listed K σ :=
  .all [i, j, k] hr rfl fun x hx => by
    simp only [List.mem_cons, List.not_mem_nil, or_false] at hx
    rcases hx with rfl | rfl | rfl
    · exact ⟨_, h1, g1⟩
    · exact ⟨_, h2, g2⟩
    · exact ⟨_, h3, g3⟩
end
theorem w9i {S : Sys} {N : Nat} {ops : Array Oper} {f : Nat} {L : List Bool} {K : St → Prop} {σ : St} (h : JA S N ops f L K σ) : JA S N ops f L K σ := h
theorem ArgsOk.consF {S : Sys} {N : Nat} {σ : St} {x : Operand} {xs : List Operand} {y : AV} {ys : List AV} (h : ArgOk S N σ x false y) (r : ArgsOk S N σ xs false ys) : ArgsOk S N σ (x :: xs) false (y :: ys) := .cons h r
theorem w9h {A B : Prop} {P : Program} {f : Nat} {x y : AV} {rest : List AV} {r : AV} (hs : FnSpec P f (x :: rest) (y :: rest) r) (g : B) (h : FnSpec P f (x :: rest) (y :: rest) r → Wr B → A := by intro hs9 g9; first | exact J.callH hs9 rfl rfl rfl rfl rfl (by repeat' (first | exact ArgsOk.nil | apply ArgsOk.consF | exact ArgOk.pl rfl rfl)) g9.out | fail) : A := h hs ⟨g⟩
end FM

/- A struct that owns what a field of it points to; a struct within a struct. No program in sight. -/
namespace FM
open Go Go.RowKit
set_option linter.all false
section
variable {S : Sys} {σ : St} {d : Nat} {ty : Nat} {pos : String} {aft : Array Edge} {g : Option (Nat × Bool)}
/-- What a field owns is borrowed. -/
theorem s_ldFb {t s o : Nat} {ti : TI} {x : Operand} {y : AV} {cs : List AV} (hx : ov σ x = .fpt s o y) (hs : FM.get σ s = .av (.pt true cs)) (hT : S.T t = some ti) (hyo : cs[o]? = some y) (hf : y.fits ti = true) (hy : y ≠ .dead) (h1 : y.cells = [y]) (hsd : Nat.beq s d = false) :
    Step S ⟨some d, .load t x, ty, pos, aft, g⟩ σ (σ.put d (.rref s o y)) := by
  intro w0 L0 N a w hN ⟨L, hR⟩
  have hh := hR.hold s (own_lt hR hs (by simp))
  rw [hs] at hh
  simp only [Hold] at hh
  obtain ⟨b, hL, hpv, hlt, hcs⟩ := pt_at hh
  obtain ⟨_, ⟨b', hL', hev, _⟩, _⟩ := hold_plain hR hx (by simp)
  have := hR.lok.inj _ _ _ hL hL'
  subst this
  obtain ⟨v, h2, h3, h4⟩ := load_core (S.ok t ti hT) hf (off := o) hlt (fun cs e => by
    subst e
    exfalso
    have h2 : SizeOf.sizeOf cs = SizeOf.sizeOf [AV.agg cs] := congrArg SizeOf.sizeOf h1
    simp at h2
    omega) (π := fun j => some ([s] ++ [o + j])) (fun j z hz => by
      rw [h1] at hz
      cases j with
      | zero => simp only [List.getElem?_cons_zero, Option.some.injEq] at hz; subst hz; exact hcs o y hyo
      | succ j => simp at hz)
  exact ⟨v, fun w' e => by simp only [execOp, hev, Instr.loadAt, Instr.sureAddr]; simp [h2 w' e], Rel.putPlain (n := d) hR (hN d rfl) rfl hsd ⟨b, hL, h4 h1, fun _ => by simpa using h3⟩⟩
/-- A field of several cells, of a variable. -/
theorem s_fadM {t sz by_ i off fty s : Nat} {fs : List (Nat × Nat)} {zz cs ys : List AV} {tif : TI} {x : Operand} (hq : x = .tmp s) (hs : FM.get σ s = .av (.pt true cs)) (hT : S.T t = some ⟨.struct fs, sz, by_, zz⟩) (hf : fs[i]? = some (off, fty)) (hF : S.T fty = some tif) (hc : Nat.beq tif.size 0 = false) (hy : (cs.drop off).take tif.size = ys) (h12 : Nat.blt 1 tif.size = true) (hsd : Nat.beq s d = false) :
    Step S ⟨some d, .fieldAddr t x i, ty, pos, aft, g⟩ σ (σ.put d (.fpt s off (.agg ys))) := by
  subst hq
  intro w0 L0 N a w hN ⟨L, hR⟩
  have hh := hR.hold s (own_lt hR hs (by simp))
  rw [hs] at hh
  simp only [Hold] at hh
  obtain ⟨b, hL, hp, _, hcs⟩ := pt_at hh
  obtain ⟨fields, f, hu, hfi, h2, h3⟩ := (S.ok t _ hT).fld hf
  have hev : a.eval (.tmp s) = .pointer (some ⟨b, 0, none⟩) := hp
  have hsz := (S.ok fty _ hF).size
  rw [← h3] at hsz
  refine ⟨.pointer (some ⟨b, 0 + f.offset, none⟩), fun w' _ => ?_, Rel.putPlain (n := d) hR (hN d rfl) rfl hsd ⟨b, hL, by rw [h2]; simp, fun _ j z hz => ?_⟩⟩
  · simp only [execOp, hev, Sem.run_bind, run_fieldAt hu hfi hsz (of_not_beq hc)]; rfl
  · have hz : ys[j]? = some z := hz
    rw [← hy, List.getElem?_take] at hz
    split at hz
    · rw [List.getElem?_drop] at hz; exact hcs (off + j) z hz
    · cases hz
/-- The same, wherever in a region. -/
theorem w_fadM {t sz by_ i off fty s : Nat} {fs : List (Nat × Nat)} {zz cs ys : List AV} {tif : TI} {x : Operand} (hq : x = .tmp s) (hs : FM.get σ s = .av (.pt true cs)) (hT : S.T t = some ⟨.struct fs, sz, by_, zz⟩) (hf : fs[i]? = some (off, fty)) (hF : S.T fty = some tif) (hc : Nat.beq tif.size 0 = false) (hy : (cs.drop off).take tif.size = ys) (h12 : Nat.blt 1 tif.size = true) (hsd : Nat.beq s d = false) :
    StepW S ⟨some d, .fieldAddr t x i, ty, pos, aft, g⟩ σ (σ.put d (.fpt s off (.agg ys))) := by
  subst hq
  intro w0 L0 N a w hN ⟨L, hR⟩
  have hh := hR.hold s (own_lt hR hs (by simp))
  rw [hs] at hh
  simp only [Hold] at hh
  obtain ⟨b, hL, hp, _, hcs⟩ := pt_at hh
  obtain ⟨fields, f, hu, hfi, h2, h3⟩ := (S.ok t _ hT).fld hf
  have hev : a.eval (.tmp s) = .pointer (some ⟨b, 0, none⟩) := hp
  have hsz := (S.ok fty _ hF).size
  rw [← h3] at hsz
  refine ⟨.pointer (some ⟨b, 0 + f.offset, none⟩), fun w' => ?_, Rel.putPlain (n := d) hR (hN d rfl) rfl hsd ⟨b, hL, by rw [h2]; simp, fun _ j z hz => ?_⟩⟩
  · simp only [execOp, hev, Sem.run_bind, run_fieldAt hu hfi hsz (of_not_beq hc)]; rfl
  · have hz : ys[j]? = some z := hz
    rw [← hy, List.getElem?_take] at hz
    split at hz
    · rw [List.getElem?_drop] at hz; exact hcs (off + j) z hz
    · cases hz
theorem w_fadO {t sz by_ i off fty s : Nat} {fs : List (Nat × Nat)} {zz cs : List AV} {tif : TI} {y : AV} (hs : FM.get σ s = .av (.pt true cs)) (hT : S.T t = some ⟨.struct fs, sz, by_, zz⟩) (hf : fs[i]? = some (off, fty)) (hF : S.T fty = some tif) (hc : Nat.beq tif.size 0 = false) (hy : cs[off]? = some y) (h1 : y.cells = [y]) (hsd : Nat.beq s d = false) :
    StepW S ⟨some d, .fieldAddr t (.tmp s) i, ty, pos, aft, g⟩ σ (σ.put d (.fpt s off y)) := by
  intro w0 L0 N a w hN ⟨L, hR⟩
  have hh := hR.hold s (own_lt hR hs (by simp))
  rw [hs] at hh
  simp only [Hold] at hh
  obtain ⟨b, hL, hp, _, hcs⟩ := pt_at hh
  obtain ⟨fields, f, hu, hfi, h2, h3⟩ := (S.ok t _ hT).fld hf
  have hev : a.eval (.tmp s) = .pointer (some ⟨b, 0, none⟩) := hp
  have hsz := (S.ok fty _ hF).size
  rw [← h3] at hsz
  refine ⟨.pointer (some ⟨b, 0 + f.offset, none⟩), fun w' => ?_, Rel.putPlain (n := d) hR (hN d rfl) rfl hsd ⟨b, hL, by rw [h2]; simp, fun _ j z hz => ?_⟩⟩
  · simp only [execOp, hev, Sem.run_bind, run_fieldAt hu hfi hsz (of_not_beq hc)]; rfl
  · rw [h1] at hz
    cases j with
    | zero => simp only [List.getElem?_cons_zero, Option.some.injEq] at hz; subst hz; simpa using hcs off _ hy
    | succ j => simp at hz
/-- A field of a struct that is a field. -/
theorem s_fadFF {t sz by_ i off fty s o : Nat} {fs : List (Nat × Nat)} {zz cs : List AV} {tif : TI} {y : AV} {x : Operand} (hx : ov σ x = .fpt s o (.agg cs)) (hT : S.T t = some ⟨.struct fs, sz, by_, zz⟩) (hf : fs[i]? = some (off, fty)) (hF : S.T fty = some tif) (hc : Nat.beq tif.size 0 = false) (hy : cs[off]? = some y) (h1 : y.cells = [y]) (hsd : Nat.beq s d = false) :
    Step S ⟨some d, .fieldAddr t x i, ty, pos, aft, g⟩ σ (σ.put d (.fpt s (o + off) y)) := by
  intro w0 L0 N a w hN ⟨L, hR⟩
  obtain ⟨_, ⟨b, hL, hev, hcs⟩, _⟩ := hold_plain hR hx (by simp)
  obtain ⟨fields, f, hu, hfi, h2, h3⟩ := (S.ok t _ hT).fld hf
  have hsz := (S.ok fty _ hF).size
  rw [← h3] at hsz
  refine ⟨.pointer (some ⟨b, o + f.offset, none⟩), fun w' _ => ?_, Rel.putPlain (n := d) hR (hN d rfl) rfl hsd ⟨b, hL, by rw [h2], fun _ j z hz => ?_⟩⟩
  · simp only [execOp, hev, Sem.run_bind, run_fieldAt hu hfi hsz (of_not_beq hc)]; rfl
  · rw [h1] at hz
    cases j with
    | zero => simp only [List.getElem?_cons_zero, Option.some.injEq] at hz; subst hz; simpa using hcs AV.noConfusion off _ hy
    | succ j => simp at hz
end
/-- What is taken out of a tuple hangs on the frame alone. -/
theorem StepW.ext {S : Sys} {σ σ' : St} {d ty i : Nat} {x : Operand} {pos : String} {aft : Array Edge} {g : Option (Nat × Bool)} (h : Step S ⟨some d, .extract x i, ty, pos, aft, g⟩ σ σ') : StepW S ⟨some d, .extract x i, ty, pos, aft, g⟩ σ σ' := by
  intro w0 L0 N a w hN hR
  obtain ⟨v, h1, h2⟩ := h w0 L0 N a w hN hR
  refine ⟨v, fun w' => ?_, h2⟩
  have h3 := h1 w (Ext.refl w)
  simp only [execOp] at h3 ⊢
  unfold Instr.extract at h3 ⊢
  cases hx : a.eval x with
  | tuple us =>
    rw [hx] at h3
    cases hu : us[i]? with
    | some u => simp [hu] at h3 ⊢; exact h3
    | none => simp [hu] at h3
  | _ => rw [hx] at h3; simp at h3
/-- A region that draws its order: quiet ahead, its end in whatever order. -/
theorem CW.regU {S : Sys} {N : Nat} {σ : St} {l : List Oper} {id : Nat} {Q : Exit → St → Prop} (n gg : Nat) (hg : l.length - n = gg) (fin : List Bool) (hB : headB l n fin = true) (hd : dstOk S N l = true) (h : J true S N l.toArray (l.take n) (JA S N l.toArray gg fin (Q .normal)) σ) : CW S N (.region id l.toArray true) Q σ := by
  subst hg
  exact CW.regT n fin hB hd h
/-- A call that turns what a field owns, the last of three. -/
theorem J.callFld {S : Sys} {N : Nat} {σ : St} {P : Program} {f : Nat} {x x' a0 b0 : AV} {rest : List AV} {r : AV} {xs : List Operand} {ops : Array Oper} {l : List Oper} {K : St → Prop} {d s t ty : Nat} {ts : Array Nat} {pos : String} {aft : Array Edge} {g : Option (Nat × Bool)} (hs : FnSpec P f (x :: rest) (x' :: rest) r) (hP : P = S.P) (hg : live ops g σ = some true)
    (h1 : FM.get σ t = .rref s 2 x) (h2 : FM.get σ s = .av (.pt true [a0, b0, x])) (hx : x ≠ .dead) (h3 : Nat.beq t d = false) (h4 : Nat.beq s d = false) (h5 : Nat.beq s t = false) (ha : ArgsM S N ((σ.upd false s (.av (.pt true [a0, b0, .dead]))).put t (.av x)) [(t, 0)] 1 xs rest) (hr : NoSh r) (hn : NoSh x') (hc : x'.cells = [x'])
    (h : J false S N ops l K ((((((σ.upd false s (.av (.pt true [a0, b0, .dead]))).put t (.av x)).put d (.av r)).put t (.av x')).put t .none).upd false s (.av (.pt true [a0, b0, x'])))) :
    J false S N ops (⟨some d, .call ⟨.value (.func f), (.tmp t :: xs).toArray, ts⟩, ty, pos, aft, g⟩ :: l) K σ := by
  subst hP
  unfold J at *
  intro hdo w0 L0 Q a w hQ hR
  obtain ⟨g1, g2⟩ := dstOk_cons hdo
  have hd := g1 d rfl
  have hw := live_wanted (o := ⟨some d, .call ⟨.value (.func f), (.tmp t :: xs).toArray, ts⟩, ty, pos, aft, g⟩) hg hR
  simp only [wpList, hw, if_true]
  refine .inl ?_
  unfold Oper.wp
  rw [run_call (xs := .tmp t :: xs) hs.ok rfl rfl w, Oper.upon_enter]
  obtain ⟨L, hR⟩ := hR
  have hst := of_not_beq h5
  have htd := of_not_beq h3
  have hsd := of_not_beq h4
  have hsN := own_lt hR h2 (by simp)
  have htN := own_lt hR h1 (by simp)
  have hR1 : RelL S w0 L0 N ((σ.upd false s (.av (.pt true [a0, b0, .dead]))).put t (.av x)) a w (mvl [s, 2] t L) := hR.takeBox (i := 2) h2 h1 hx hst (by simp)
  have hs0 := hR.hold s hsN
  rw [h2] at hs0
  simp only [Hold] at hs0
  obtain ⟨b1, hLb, hpv, hlt, _⟩ := pt_at hs0
  have ht0 := hR.hold t htN
  rw [h1] at ht0
  obtain ⟨b2, hLb2, hcell, _⟩ := ht0
  have hbb := hR.lok.inj _ _ _ hLb2 hLb
  subst hbb
  have e1 : FM.get ((σ.upd false s (.av (.pt true [a0, b0, .dead]))).put t (.av x)) t = .av x := by simp [FM.get, Nat.beq_refl]
  have hlen := ha.length
  have hms : MOk d (xs.length + 1) [(t, 0)] := .one h3 (by simp [Nat.blt])
  have ha' : ArgsM S N ((σ.upd false s (.av (.pt true [a0, b0, .dead]))).put t (.av x)) [(t, 0)] 0 (.tmp t :: xs) (x :: rest) := .cons (.mu (s := t) (by unfold slotAt; simp only [e1]) e1 (by simp [idxM, Nat.beq_refl])) ha
  have hLm : inM [(t, 0)] (mvl [s, 2] t L) b2 = .sh := inM_no (t := s) (q := []) (mvl_keep hLb hst (by simp [strip])) (by simp [idxM, not_beq (fun e => hst e.symm : t ≠ s)])
  have mem : ∀ {s' i : Nat}, idxM [(t, 0)] s' = some i → s' = t ∧ i = 0 := fun {s' i} hi => by
    simp only [idxM] at hi
    cases hb : Nat.beq t s' with
    | true => rw [hb, cond_true] at hi; injection hi with hi; exact ⟨(Nat.eq_of_beq_eq_true hb).symm, hi.symm⟩
    | false => rw [hb, cond_false] at hi; cases hi
  have hlr : (x :: rest).length = xs.length + 1 := by rw [List.length_cons, hlen]
  have hcalls := hs.calls w (inM [(t, 0)] (mvl [s, 2] t L)) ((Operand.tmp t :: xs).map a.eval) (by rw [List.length_map, List.length_cons, hlen]; rfl)
  rw [hlr] at hcalls
  refine (hcalls ⟨fun b p hb => ?_, fun b p hb => ?_, fun b b' p hb hb' => ?_, fun b hge hf => ?_, hR1.globNow.move (Nat.le_refl _) fun b _ h => ⟨inM_sh h, rfl⟩⟩ (fun i y v hy hv => ?_)).mono fun e w' ⟨v, L', he, hB⟩ => ?_
  · obtain ⟨t', i, q, h3, _, _⟩ := inM_my hb; exact hR1.lok.lt b _ h3
  · obtain ⟨t', i, q, _, h3, h4⟩ := inM_my hb; exact ⟨i, q, h4, hms.lt _ _ h3⟩
  · obtain ⟨t1, i, q, h3, h4, h5⟩ := inM_my hb
    obtain ⟨t', i', q', h3', h4', h5'⟩ := inM_my hb'
    rw [h5] at h5'; cases h5'
    have e1 := hms.inv _ _ h4
    have e2 := hms.inv _ _ h4'
    rw [e1] at e2; cases e2
    exact hR1.lok.inj _ _ _ h3 h3'
  · have := inM_fo.1 hf
    exact hR1.lok.new b (Nat.le_trans hR1.keep.size hge) this
  · rw [List.getElem?_map, Option.map_eq_some_iff] at hv
    obtain ⟨y', hy', rfl⟩ := hv
    have := (ha'.get i y' y hy' hy).rep hR1
    rwa [Nat.zero_add] at this
  · subst he
    obtain ⟨L2, hR2⟩ := after_callM hR1 hd hms hB hr fun s' i hi => by
      obtain ⟨rfl, rfl⟩ := mem hi
      exact ⟨htN, rfl, x', rfl, hn⟩
    have hblk : w'.heap[b2]? = w.heap[b2]? := hB.keep.block b2 hlt fun q hq => by rw [hLm] at hq; cases hq
    have gs : FM.get (putM [(t, 0)] (x' :: rest) (((σ.upd false s (.av (.pt true [a0, b0, .dead]))).put t (.av x)).put d (.av r))) s = .av (.pt true [a0, b0, .dead]) := by
      simp [putM, FM.get, not_beq (fun e => hst e.symm : t ≠ s), not_beq (fun e => hsd e.symm : d ≠ s), Nat.beq_refl, TV.kill]
    have gt : FM.get (putM [(t, 0)] (x' :: rest) (((σ.upd false s (.av (.pt true [a0, b0, .dead]))).put t (.av x)).put d (.av r))) t = .av x' := by
      simp [putM, FM.get, Nat.beq_refl]
    have hR3 := hR2.intoBox (s := s) (i := 2) (t0 := t) gs gt hc (fun e => hst e.symm) (by simp) (fun b hb => by
      have hh := hR2.hold s hsN
      rw [gs] at hh
      simp only [Hold] at hh
      obtain ⟨b3, h31, h32, _, _⟩ := pt_at hh
      have e3 : (a.put (some d) v).tmps.getD s undef = a.tmps.getD s undef := getD_set_other (fun e => hsd e.symm)
      have e4 : (a.put (some d) v).tmps.getD t undef = a.tmps.getD t undef := getD_set_other (fun e => htd e.symm)
      rw [e3, hpv] at h32
      have h33 : b2 = b3 := by injection h32 with h; injection h with h; injection h
      have := hR2.lok.inj _ _ _ hb h31
      subst this
      rw [e4, ← h33, cell_of_heap hblk]
      exact hcell)
    exact h g2 w0 L0 Q _ w' hQ ⟨_, hR3⟩
/-- T{f: p}, laid in a new variable, which takes over what p owns. -/
theorem J.bldBox {S : Sys} {N : Nat} {σ : St} {t by_ c1 c2 : Nat} {fs : List (Nat × Nat)} {u0 : Value} {xs : List AV} {ops : Array Oper} {l : List Oper} {K : St → Prop} {d d3 s ty ty2 : Nat} {pos pos2 : String} {aft aft2 : Array Edge}
    (hT : S.T t = some ⟨.struct fs, 3, by_, [.nil, .nil, .val u0]⟩) (hf : ones1 S.T fs 0 = true) (hl : Nat.beq fs.length 3 = true) (hs : FM.get σ s = .av (.pt true xs)) (h1 : Nat.beq s d = false) (h2 : Nat.beq s d3 = false) (h3 : Nat.beq d d3 = false)
    (h : J false S N ops l K ((((σ.put d .none).put d3 (.av (.pt true [.sl false c1 [], .sl false c2 [], .dead]))).put s .none).upd false d3 (.av (.pt true [.sl false c1 [], .sl false c2 [], .pt true xs])))) :
    J false S N ops (⟨some d, .build t #[(2, .tmp s)], ty, pos, aft, none⟩ :: ⟨some d3, .box t (.tmp d), ty2, pos2, aft2, none⟩ :: l) K σ := by
  unfold J at *
  intro hdo w0 L0 Q a w hQ ⟨L, hR⟩
  obtain ⟨g1, g2⟩ := dstOk_cons hdo
  obtain ⟨g3, g4⟩ := dstOk_cons g2
  have hd := g1 d rfl
  have hd3 := g3 d3 rfl
  have hsN := own_lt hR hs (by simp)
  have hsd := of_not_beq h1
  have hsd3 := of_not_beq h2
  have hdd := of_not_beq h3
  have hh := hR.hold s hsN
  rw [hs] at hh
  simp only [Hold] at hh
  obtain ⟨bs, hLs, hps, _, _⟩ := pt_at hh
  obtain ⟨u, hu⟩ : ∃ u, u = Value.pointer (some ⟨bs, 0, none⟩) := ⟨_, rfl⟩
  rw [← hu] at hps
  have huc : (AV.val u).cellOk = true := by rw [hu]; rfl
  have hg1 : FM.get (ofL [(s, .av (.val u))]) s = .av (.val u) := by simp [ofL, FM.get, Nat.beq_refl]
  have hRv : RelL S w0 L0 N (ofL [(s, .av (.val u))]) a w L := ⟨hR.defers, hR.size, hR.keep, hR.lok, fun n hn => by
      by_cases e : s = n
      · subst e; rw [hg1]; simp only [Hold]; rw [hps]; exact .val
      · simp only [ofL, FM.get, not_beq e, cond_false]; trivial, fun n hn => by
      have : s ≠ n := by omega
      simp only [ofL, FM.get, not_beq this, cond_false]; rfl, hR.fix, hR.glob⟩
  obtain ⟨v, hv1, L1, hv2⟩ := s_bldS (S := S) (σ := ofL [(s, .av (.val u))]) (d := d) (ty := ty) (pos := pos) (aft := aft) (g := none) (ps := #[(2, .tmp s)]) (ys := [.nil, .nil, .val u]) hT hf hl (.zero (.zero (.part rfl hg1 huc rfl .nil))) w0 L0 N a w g1 ⟨L, hRv⟩
  have hv3 := hv2.hold d hd.lt
  rw [show FM.get ((ofL [(s, .av (.val u))]).put d (.av (.agg [.nil, .nil, .val u]))) d = .av (.agg [.nil, .nil, .val u]) by simp [FM.get, Nat.beq_refl]] at hv3
  simp only [Hold] at hv3
  rw [show (a.put (some d) v).tmps.getD d undef = v from getD_set_same (by rw [hR.size]; exact hd.lt)] at hv3
  have hve : ∀ (L : Nat → Lab) (w : World) π, Rep L w π (.agg [.sl false c1 [], .sl false c2 [], .val u]) v := by
    generalize v = vv at hv3
    cases hv3 with
    | @agg _ _ vs hl h =>
      match vs, hl, h with
      | [x, y, z], _, h =>
        have e0 := h 0 _ _ rfl rfl
        have e1 := h 1 _ _ rfl rfl
        have e2 := h 2 _ _ rfl rfl
        cases e0; cases e1; cases e2
        intro L w π
        refine .agg rfl fun i x v hx hv => ?_
        match i with
        | 0 => simp only [List.getElem?_cons_zero, Option.some.injEq] at hx hv; subst hx; subst hv; exact .slE (fun h => by cases h)
        | 1 => simp only [List.getElem?_cons_succ, List.getElem?_cons_zero, Option.some.injEq] at hx hv; subst hx; subst hv; exact .slE (fun h => by cases h)
        | 2 => simp only [List.getElem?_cons_succ, List.getElem?_cons_zero, Option.some.injEq] at hx hv; subst hx; subst hv; exact .val
        | i + 3 => simp at hx
  have hR2 : RelL S w0 L0 N (σ.put d (.av (.agg [.sl false c1 [], .sl false c2 [], .val u]))) (a.put (some d) v) w (clear d L) := hR.put hd (hve _ _ _)
  have hgd : FM.get (σ.put d (.av (.agg [.sl false c1 [], .sl false c2 [], .val u]))) d = .av (.agg [.sl false c1 [], .sl false c2 [], .val u]) := by simp [FM.get, Nat.beq_refl]
  obtain ⟨v3, w3, hv4, L3, hR3⟩ := e_box (S := S) (σ := σ.put d (.av (.agg [.sl false c1 [], .sl false c2 [], .val u]))) (d := d3) (ty := ty2) (pos := pos2) (aft := aft2) (g := none) (t := t) (v := .tmp d) (z := .agg [.sl false c1 [], .sl false c2 [], .val u]) hgd rfl (by rw [hu]; rfl) w0 L0 N (a.put (some d) v) w g3 ⟨_, hR2⟩
  have es : ((a.put (some d) v).put (some d3) v3).tmps.getD s undef = u := by
    rw [show ((a.put (some d) v).put (some d3) v3).tmps.getD s undef = (a.put (some d) v).tmps.getD s undef from getD_set_other (fun e => hsd3 e.symm), show (a.put (some d) v).tmps.getD s undef = a.tmps.getD s undef from getD_set_other (fun e => hsd e.symm), hps]
  have k1 : FM.get ((σ.put d (.av (.agg [.sl false c1 [], .sl false c2 [], .val u]))).put d3 (.av (.pt true (AV.agg [.sl false c1 [], .sl false c2 [], .val u]).cells))) d3 = .av (.pt true [.sl false c1 [], .sl false c2 [], .val u]) := by simp [FM.get, Nat.beq_refl, AV.cells]
  have k2 : FM.get ((σ.put d (.av (.agg [.sl false c1 [], .sl false c2 [], .val u]))).put d3 (.av (.pt true (AV.agg [.sl false c1 [], .sl false c2 [], .val u]).cells))) s = .av (.pt true xs) := by
    simp [FM.get, not_beq (fun e => hsd e.symm : d ≠ s), not_beq (fun e => hsd3 e.symm : d3 ≠ s), hs, TV.kill]
  have hR4 := hR3.intoBox (s := d3) (i := 2) (t0 := s) k1 k2 rfl hsd3 (by simp) (fun b hb => by
    have hh := hR3.hold d3 hd3.lt
    rw [k1] at hh
    simp only [Hold] at hh
    obtain ⟨b3, h31, h32, _, h34⟩ := pt_at hh
    have := hR3.lok.inj _ _ _ hb h31
    subst this
    obtain ⟨q, hq1, hq2⟩ := h34 2 _ rfl
    cases hq2
    rw [es]
    exact hq1)
  have hR5 : Rel S w0 L0 N ((((σ.put d .none).put d3 (.av (.pt true [.sl false c1 [], .sl false c2 [], .dead]))).put s .none).upd false d3 (.av (.pt true [.sl false c1 [], .sl false c2 [], .pt true xs]))) ((a.put (some d) v).put (some d3) v3) w3 := by
    refine Rel.weaken (fun n => ?_) ⟨_, hR4⟩
    simp only [FM.get]
    by_cases e1 : d3 = n
    · subst e1; left; simp only [Nat.beq_refl, cond_true]; rfl
    · simp only [not_beq e1, cond_false]
      by_cases e2 : s = n
      · subst e2; left; simp only [Nat.beq_refl, cond_true]
      · simp only [not_beq e2, cond_false]
        by_cases e3 : d = n
        · subst e3; right; simp [Nat.beq_refl, TV.kill, TV.stale]
        · simp only [not_beq e3, cond_false]; left; trivial
  have hk : wpList S.P ops Q (⟨some d3, .box t (.tmp d), ty2, pos2, aft2, none⟩ :: l) (a.put (some d) v) w := by
    rw [wpList, if_pos (live_wanted (ops := ops) (o := ⟨some d3, .box t (.tmp d), ty2, pos2, aft2, none⟩) (b := true) rfl ⟨_, hR2⟩)]
    refine .inl ?_
    unfold Oper.wp
    rcases hv4 with e | ⟨e, rfl⟩
    · rw [e]; exact h g4 w0 L0 Q _ w3 hQ hR5
    · rw [e]; exact h g4 w0 L0 Q _ w3 hQ hR5
  rw [wpList, if_pos (live_wanted (ops := ops) (o := ⟨some d, .build t #[(2, .tmp s)], ty, pos, aft, none⟩) (b := true) rfl ⟨_, hR⟩)]
  refine .inl ?_
  unfold Oper.wp
  rw [hv1 w (Ext.refl w)]
  exact hk
theorem w9f {A B : Prop} {P : Program} {f : Nat} {x y : AV} {rest : List AV} {r : AV} (hs : FnSpec P f (x :: rest) (y :: rest) r) (g : B) (h : FnSpec P f (x :: rest) (y :: rest) r → Wr B → A := by intro hs9 g9; first | exact J.callFld hs9 rfl rfl rfl rfl AV.noConfusion rfl rfl rfl (by repeat' (first | exact ArgsM.nil | apply ArgsM.cons | exact ArgM.pl rfl rfl)) NoShI.out NoShI.out rfl g9.out | fail) : A := h hs ⟨g⟩
end FM

/- What a slot owns, cut short and handed on: s = s[:n]. No program in sight. -/
namespace FM
open Go Go.RowKit
set_option linter.all false
variable {S : Sys} {σ : St} {d ty : Nat} {pos : String} {aft : Array Edge} {g : Option (Nat × Bool)}
theorem own_cut {L : Nat → Lab} {w : World} {p : List Nat} {c : Nat} {xs : List AV} {v : Value} (h : Rep L w (some p) (.sl true c xs) v) :
    ∃ a cap, v = .slice a xs.length cap ∧ xs.length ≤ cap ∧ ∀ n, n ≤ xs.length → Rep L w (some p) (.sl true c (xs.take n)) (.slice a n cap) := by
  cases h with
  | @slE _ _ _ a cap h =>
    refine ⟨a, cap, rfl, Nat.zero_le _, fun n hn => ?_⟩
    have : n = 0 := by simpa using hn
    subst this
    rw [List.take_nil]
    exact .slE h
  | @slO p c xs b cap arr e u hL hb hcap hsz hc hcell hr =>
    refine ⟨some ⟨b, 0, none⟩, cap, rfl, hcap, fun n hn => ?_⟩
    have hlen : (xs.take n).length = n := by rw [List.length_take]; omega
    have key : Rep L w (some p) (.sl true c (xs.take n)) (.slice (some ⟨b, 0, none⟩) (xs.take n).length cap) := by
      refine .slO u hL hb (by rw [hlen]; omega) hsz (fun x hx => hc x (List.mem_of_mem_take hx)) (fun o ho => hcell o (Nat.lt_of_lt_of_le ho (Nat.mul_le_mul_right _ (by rw [hlen]; exact hn)))) fun o y hy => hr o y ?_
      rw [← List.take_append_drop n xs, flat_append, List.getElem?_append_left (List.getElem?_eq_some_iff.1 hy).1]
      exact hy
    rwa [hlen] at key
/-- Slot d takes over what slot s owned, as another word of it. -/
theorem RelL.takeAs {w0 : World} {L0 : Nat → Lab} {N : Nat} {a : Act} {w : World} {L : Nat → Lab} (h : RelL S w0 L0 N σ a w L) {s : Nat} {x y : AV} {v : Value} (hs : get σ s = .av x) (hd : DOk S N d) (hsd : s ≠ d) (hv : Rep L w (some [s]) y v) :
    RelL S w0 L0 N ((σ.put s .none).put d (.av y)) (a.put (some d) v) w (mvl [s] d L) := by
  have hsN := own_lt h hs (by simp)
  refine ⟨h.defers, by simp [Act.put, h.size], h.keep, h.lok.mvl _ _, fun n hn => ?_, fun n hn => ?_, fun i hi => (getD_set_other (hd.ne hi)).trans (h.fix i hi), h.glob⟩
  · simp only [get, kill_eq, Act.put]
    by_cases hnd : d = n
    · subst hnd
      rw [Nat.beq_refl, cond_true, getD_set_same (by rw [h.size]; exact hd.lt)]
      refine Rep.frame (Nat.le_refl _) rfl rfl rfl (fun b h1 _ => ⟨mvl_sh h1, rfl⟩) hv _ fun p hp => ?_
      cases hp
      exact ⟨[d], rfl, fun b q hb => ⟨mvl_to hb, rfl⟩⟩
    · rw [not_beq hnd, cond_false, getD_set_other hnd]
      by_cases hns : s = n
      · subst hns; rw [Nat.beq_refl, cond_true]; trivial
      · rw [not_beq hns, cond_false]
        cases hdep : (get σ n).dep s with
        | true => trivial
        | false =>
          rw [cond_false]
          cases hdep' : (get σ n).dep d with
          | true => trivial
          | false =>
            rw [cond_false]
            refine Hold.relab (good := fun t => t ≠ d ∧ t ≠ s) (Nat.le_refl _) rfl rfl rfl (fun b h1 _ => ⟨mvl_sh h1, rfl⟩) (fun b t q h1 h2 => ⟨mvl_keep h1 h2.1 ?_, rfl⟩)
              (fun s' hs' => getD_set_other (fun e => hs'.1 e.symm)) ⟨fun e => hnd e.symm, fun e => hns e.symm⟩ (fun s' hs' => ⟨fun e => ?_, fun e => ?_⟩) (h.hold n hn)
            · simp only [strip, not_beq (fun e => h2.2 e.symm : s ≠ t), cond_false]
            · subst e; rw [hdep'] at hs'; cases hs'
            · subst e; rw [hdep] at hs'; cases hs'
  · simp only [get, kill_eq]
    rw [not_beq (by have := hd.lt; omega), cond_false, not_beq (by omega), cond_false]
    have := h.out n hn
    rw [this]; rfl
/-- s[:n] of what slot s owns, taken over: s is not looked at again. -/
theorem s_cutO {t e c sz by_ : Nat} {z : List AV} {ti : TI} {x b : Operand} {s : Nat} {α : Type} {f : α → AV} {l : List α} {n : Int} (hx : ov σ x = .ref s) (hs : get σ s = .av (.sl true c (l.map f))) (hT : S.T t = some ⟨.slice e, sz, by_, z⟩) (hE : S.T e = some ti)
    (hb : ov σ b = .av (.int n)) (h0 : 0 ≤ n) (h1 : n.toNat ≤ l.length) (hsd : Nat.beq s d = false) :
    Step S ⟨some d, .slice t x none (some b) none, ty, pos, aft, g⟩ σ ((σ.put s .none).put d (.av (.sl true c ((l.take n.toNat).map f)))) := by
  intro w0 L0 N a w hN ⟨L, hR⟩
  obtain ⟨m, hm, _⟩ := hold_plain hR hx (by simp)
  simp only [Hold] at hm
  have hh := hR.hold s (own_lt hR hs (by simp))
  rw [hs, ← hm] at hh
  simp only [Hold] at hh
  obtain ⟨ad, cap, hv, hcap, hcut⟩ := own_cut hh
  rw [List.length_map] at hv hcap hcut
  obtain ⟨f', hf, _⟩ := (S.ok e _ hE).size
  obtain ⟨k, rfl⟩ : ∃ k : Nat, n = k := ⟨n.toNat, by omega⟩
  rw [Int.toNat_natCast] at h1 ⊢
  obtain ⟨mb, hmb⟩ := ev_av hR hb
  have hbv : a.eval b = .int .i64 (k : Int) := by
    generalize a.eval b = bv at hmb
    cases hmb; rfl
  have run : ∀ w', (Instr.sliceAt t (.slice ad l.length cap) none (some (.int .i64 (k : Nat))) none).run S.P w' = .ok (.slice ad k cap) w' := by
    intro w'
    have e1 : (Instr.sliceBound (.int .i64 (k : Nat)) cap .sliceAcap).run S.P w' = .ok k w' := by
      have : (0 : Int) ≤ (k : Int) ∧ (k : Int) ≤ (cap : Int) := by omega
      have h2 : k ≤ cap := by omega
      simp [Instr.sliceBound, asIntOf, this, h2]
    have hb : (Instr.sliceBounds true l.length cap none (some (.int .i64 (k : Nat))) none).run S.P w' = .ok (0, k, cap) w' := by
      simp [Instr.sliceBounds, e1]
    have had : (if cap = 0 then ad else ad.map (·.add (0 * f'.size))) = ad := by
      split
      · rfl
      · cases ad with
        | none => rfl
        | some q => cases q; simp [Addr.add]
    simp [Instr.sliceAt, Instr.slice, run_underlying (S.ok t _ hT).slice, hb, Go.sizeOf, typeInfo, hf]
    first | done | simpa using had
  refine ⟨.slice ad k cap, fun w' _ => ?_, mvl [s] d L, ?_⟩
  · simp only [execOp, Option.map_none, Option.map_some, hv, hbv, Sem.run_bind, run w', Result.andThen_ok, Sem.run_pure]
  · rw [List.map_take]
    exact hR.takeAs hs (hN d rfl) (of_not_beq hsd) (hcut k h1)
/-! ### parts of what a slot owns, read: in whatever order -/
section
variable {α : Type} {f : α → AV} {l : List α} {t e c sz by_ : Nat} {z : List AV} {ti : TI} {x b : Operand} {n : Int}
end
end FM

/- The tail of a row that a slot owns is cleared. No program in sight. -/
namespace FM
open Go Go.RowKit
set_option linter.all false
def deadE (c : Nat) : AV := .agg (List.replicate c .dead)
theorem run_sliceLo {P : Program} {t e : Nat} (ht : P.underlying t = some (.slice e)) {f : TypeInfo} (hf : P.info? e = some f) {a : Addr} {len cap n : Nat} (hn : n ≤ len) (w : World) :
    (Instr.sliceAt t (.slice (some a) len cap) (some (.int .i64 (n : Nat))) none none).run P w = .ok (.slice (if cap = n then some a else some (a.add (n * f.size))) (len - n) (cap - n)) w := by
  have e1 : ∀ (x : Nat) (y : Nat) (code : BoundsCode), x ≤ y → (Instr.sliceBound (.int .i64 (x : Nat)) y code).run P w = .ok x w := fun x y code hxy => by
    have : (0 : Int) ≤ (x : Int) ∧ (x : Int) ≤ (y : Int) := by omega
    simp [Instr.sliceBound, asIntOf, this, hxy]
  have hb : (Instr.sliceBounds true len cap (some (.int .i64 (n : Nat))) none none).run P w = .ok (n, len, cap) w := by
    simp [Instr.sliceBounds, e1 n len .sliceB hn]
  simp [Instr.sliceAt, Instr.slice, run_underlying ht, hb, Go.sizeOf, typeInfo, hf]
theorem J.clr {S : Sys} {N : Nat} {σ : St} {t e c sz by_ : Nat} {z0 : List AV} {ti : TI} {x b : Operand} {s d n : Nat} {xs : List AV} {ops : Array Oper} {l : List Oper} {K : St → Prop} {ty ty2 : Nat} {pos pos2 : String} {aft aft2 : Array Edge}
    (hx : ov σ x = .ref s) (hs : get σ s = .av (.sl true c xs)) (hb : ov σ b = .av (.int (n : Nat))) (hn : n ≤ xs.length) (hne : xs ≠ []) (hT : S.T t = some ⟨.slice e, sz, by_, z0⟩) (hE : S.T e = some ti) (hc : ti.size = c) (hsd : Nat.beq s d = false) (h1 : ((ti.zero.map AV.toV).all fun v => v.oneCell') = true)
    (h : J false S N ops l K ((σ.put d (.av .dead)).upd false s (.av (.sl true c (xs.take n ++ List.replicate (xs.length - n) (deadE c)))))) :
    J false S N ops (⟨some d, .slice t x (some b) none none, ty, pos, aft, none⟩ :: ⟨none, .call ⟨.builtin .clear, #[.tmp d], #[t]⟩, ty2, pos2, aft2, none⟩ :: l) K σ := by
  unfold J at *
  intro hdo w0 L0 Q a w hQ ⟨L, hR⟩
  obtain ⟨hd1, hdo2⟩ := dstOk_cons hdo
  obtain ⟨_, hd2⟩ := dstOk_cons hdo2
  have hd := hd1 d rfl
  have hsN := own_lt hR hs (by simp)
  have hh := hR.hold s hsN
  rw [hs] at hh
  simp only [Hold] at hh
  obtain ⟨m, hm, _⟩ := hold_plain hR hx (by simp)
  simp only [Hold] at hm
  obtain ⟨n2, hb2⟩ := ev_av hR hb
  generalize hbv : a.eval b = bv at hb2
  cases hb2
  obtain ⟨f, zv, hf1, hf2, hf3, hf4, hf5, hf6, hf7⟩ := (S.ok e _ hE).info
  have hfc : f.size = c := by rw [← hc]; exact hf2
  have hzc : zv.cells.size = c := by rw [← hc]; exact hf7
  have hu := (S.ok t _ hT).slice
  generalize hsv : a.tmps.getD s undef = sv at hh hm
  cases hh with
  | slE h => exact absurd rfl hne
  | @slO p _ _ blk cap arr ee u hL hblk hcap hsz hcx hcell hr =>
    have hrun1 := run_sliceLo (P := S.P) hu hf1 (a := ⟨blk, 0, none⟩) (len := xs.length) (cap := cap) hn w
    have hop1 : (execOp a.eval (⟨some d, .slice t x (some b) none none, ty, pos, aft, none⟩ : Oper)).run S.P w = .ok (.value (.slice (if cap = n then some ⟨blk, 0, none⟩ else some ((⟨blk, 0, none⟩ : Addr).add (n * f.size))) (xs.length - n) (cap - n))) w := by
      simp only [execOp, Option.map_none, Option.map_some, Sem.run_bind, hm, hbv, hrun1, Result.andThen_ok, Sem.run_pure]
    generalize hv1 : Value.slice (if cap = n then some ⟨blk, 0, none⟩ else some ((⟨blk, 0, none⟩ : Addr).add (n * f.size))) (xs.length - n) (cap - n) = v1 at hop1
    simp only [wpList, if_true, Region.wanted]
    refine .inl ?_
    unfold Oper.wp
    rw [hop1]
    have hR1 : RelL S w0 L0 N (σ.put d (.av .dead)) (a.put (some d) v1) w (FM.clear d L) := hR.put hd .dead
    have hsd' : d ≠ s := fun e => by subst e; rw [Nat.beq_refl] at hsd; cases hsd
    have hL1 : FM.clear d L blk = .my [s] := by
      unfold FM.clear
      rw [hL]
      simp [Lab.without, hsd]
    have hsv1 : (a.put (some d) v1).tmps.getD s undef = .slice (some ⟨blk, 0, none⟩) xs.length cap := (getD_set_other hsd').trans hsv
    have he2 : (a.put (some d) v1).eval (.tmp d) = v1 := getD_set_same (by rw [hR.size]; exact hd.lt)
    have hlen : (xs.take n ++ List.replicate (xs.length - n) (deadE c)).length = xs.length := by rw [List.length_append, List.length_take, List.length_replicate]; omega
    have hcx' : ∀ y ∈ xs.take n ++ List.replicate (xs.length - n) (deadE c), y.cells.length = c := fun y hy => by
      rcases List.mem_append.1 hy with hy | hy
      · exact hcx y (List.mem_of_mem_take hy)
      · rw [List.eq_of_mem_replicate hy]; exact List.length_replicate
    -- what is read behind it, wherever the row's first cells are as they were
    have fin : ∀ (W : World) (A : Array Value), W.heap[blk]? = some (.cells A ee (0, 0)) → A.size = arr.size → (∀ j, j < n * c → A[j]? = arr[j]?) → W.heap.size = w.heap.size → (∀ k, k ≠ blk → W.heap[k]? = w.heap[k]?) → W.os = w.os → W.tape = w.tape → W.output = w.output →
        wpList S.P ops Q l (a.put (some d) v1) W := fun W A hA hAs hAj hWs hWk hWo hWt hWu => by
      refine h hd2 w0 L0 Q _ W hQ ⟨_, hR1.write (b := blk) (q0 := []) hsN hL1 hWs hWo hWt hWu hWk ?_ false (fun h => by cases h)⟩
      rw [hsv1]
      suffices key : Rep (FM.clear d L) W (some [s]) (.sl true c (xs.take n ++ List.replicate (xs.length - n) (deadE c))) (.slice (some ⟨blk, 0, none⟩) (xs.take n ++ List.replicate (xs.length - n) (deadE c)).length cap) by rw [hlen] at key; exact key
      refine .slO (fun o => (A[o]?).getD undef) hL1 hA (by rw [hlen]; exact hcap) (by rw [hAs, hsz]) hcx' (fun o ho => ?_) fun o y hy => ?_
      · have : o < A.size := by rw [hAs, hsz]; rw [hlen] at ho; exact Nat.lt_of_lt_of_le ho (Nat.mul_le_mul_right _ hcap)
        rw [Array.getElem?_eq_getElem this]; rfl
      · rw [flat_append] at hy
        have htl : (flat (xs.take n)).length = n * c := by rw [flat_length (fun y hy => hcx y (List.mem_of_mem_take hy)), List.length_take, Nat.min_eq_left hn]
        by_cases ho : o < n * c
        · rw [List.getElem?_append_left (by omega)] at hy
          have hol : o < xs.length * c := Nat.lt_of_lt_of_le ho (Nat.mul_le_mul_right _ hn)
          rw [hAj o ho, hcell o hol]
          have hy2 : (flat xs)[o]? = some y := by
            have e : flat xs = flat (xs.take n) ++ flat (xs.drop n) := by rw [← flat_append, List.take_append_drop]
            rw [e, List.getElem?_append_left (by omega)]; exact hy
          refine (hr o y hy2).frame (by omega) hWo hWt hWu (fun k hk _ => ⟨?_, hWk k (fun e => by subst e; rw [hL] at hk; cases hk)⟩) _ fun p' hp' => ?_
          · unfold FM.clear; rw [hk]; rfl
          · cases hp'
            refine ⟨_, rfl, fun k q hk => ⟨?_, hWk k (fun e => ?_)⟩⟩
            · unfold FM.clear
              rw [hk]
              simp [Lab.without, hsd]
            · subst e; rw [hL] at hk; injection hk with hk
              have := congrArg List.length hk
              simp at this
        · rw [List.getElem?_append_right (by omega)] at hy
          have hm := List.mem_of_getElem? hy
          unfold flat at hm
          rw [List.mem_flatMap] at hm
          obtain ⟨z, hz, hyz⟩ := hm
          rw [List.eq_of_mem_replicate hz] at hyz
          have : y = .dead := List.eq_of_mem_replicate hyz
          subst this
          exact .dead
    have hp2 : ∀ W, (Builtin.clear_ #[t] ty2 #[v1]).run S.P w = .ok (.tuple #[]) W → wpList S.P ops Q l (a.put (some d) v1) W → wpList S.P ops Q (⟨none, .call ⟨.builtin .clear, #[.tmp d], #[t]⟩, ty2, pos2, aft2, none⟩ :: l) (a.put (some d) v1) w := fun W hW hk => by
      simp only [wpList, if_true, Region.wanted]
      refine .inl ?_
      unfold Oper.wp
      have : (execOp (a.put (some d) v1).eval (⟨none, .call ⟨.builtin .clear, #[.tmp d], #[t]⟩, ty2, pos2, aft2, none⟩ : Oper)).run S.P w = .ok (.value (.tuple #[])) W := by
        simp only [execOp, resolve, invoke, builtin, Sem.run_bind, Sem.run_pure, Result.andThen_ok, List.map_toArray, List.map_cons, List.map_nil, he2, hW]
      rw [this]
      exact hk
    by_cases hnl : n = xs.length
    · refine hp2 w ?_ (fin w arr hblk rfl (fun _ _ => rfl) rfl (fun _ _ => rfl) rfl rfl rfl)
      rw [← hv1, hnl, Nat.sub_self]
      split <;> simp [Builtin.clear_, run_underlying hu]
    · have hcn : ¬ cap = n := by omega
      obtain ⟨k, hk⟩ : ∃ k, xs.length - n = k + 1 := ⟨xs.length - n - 1, by omega⟩
      obtain ⟨news, hnews⟩ : ∃ news, news = (Builtin.zeroCells zv.cells (k + 1)).toList := ⟨_, rfl⟩
      have hnl2 : news.length = (k + 1) * c := by rw [hnews, Array.length_toList, size_zeroCells, hzc]
      have hfit : n * c + 0 + news.length ≤ arr.size := by
        rw [hnl2, hsz, Nat.add_zero, ← Nat.add_mul]; exact Nat.mul_le_mul_right _ (by omega)
      have hn1 : ∀ v ∈ news, v.oneCell' = true := fun v hv => by
        rw [hnews] at hv
        have hz : ∀ v ∈ zv.cells.toList, v.oneCell' = true := fun v hv => by
          rw [hf5] at hv
          exact List.all_eq_true.1 h1 v hv
        unfold Builtin.zeroCells at hv
        rw [Array.toList_map, List.mem_map] at hv
        obtain ⟨i, hi, rfl⟩ := hv
        have hc0 : 0 < zv.cells.size := by
          rcases Nat.eq_zero_or_pos zv.cells.size with e0 | e0
          · rw [e0] at hi; simp at hi
          · exact e0
        rw [getElem!_pos zv.cells _ (Nat.mod_lt _ hc0)]
        exact hz _ (Array.getElem_mem_toList _)
      have hst := run_storeCells_at S.P blk (n * c) ee news 0 arr w hblk hfit hn1
      simp only [Nat.add_zero] at hst
      refine hp2 (w.setRow blk (arr.toList.take (n * c) ++ news ++ arr.toList.drop (n * c + news.length)).toArray) ?_ (fin _ (arr.toList.take (n * c) ++ news ++ arr.toList.drop (n * c + news.length)).toArray (setRow_heap w blk arr _ ee (0, 0) hblk) ?_ (fun j hj => ?_) (by simp) (fun k hk => setRow_other w blk k _ hk) rfl rfl rfl)
      · rw [← hv1, if_neg hcn, hk]
        have hzr : (zeroValue e).run S.P w = .ok zv w := by simp [zeroValue, typeInfo, hf1, hf4]
        simp only [addr_add, Nat.zero_add, hfc]
        simp [Builtin.clear_, run_underlying hu, hzr, ← hnews, hst]
      · rw [hnl2, Nat.add_zero] at hfit
        simp [hnl2]; omega
      · rw [hnl2] at hfit
        have h1 : j < (arr.toList.take (n * c)).length := by rw [List.length_take, Array.length_toList]; omega
        simp only [List.getElem?_toArray]
        rw [List.append_assoc, List.getElem?_append_left h1, List.getElem?_take, if_pos hj, Array.getElem?_toList]
theorem s_cutA {S : Sys} {σ : St} {d ty : Nat} {pos : String} {aft : Array Edge} {g : Option (Nat × Bool)} {t e c sz by_ : Nat} {z : List AV} {ti : TI} {x b : Operand} {s : Nat} {xs : List AV} {n : Int} (hx : ov σ x = .ref s) (hs : get σ s = .av (.sl true c xs)) (hT : S.T t = some ⟨.slice e, sz, by_, z⟩) (hE : S.T e = some ti)
    (hb : ov σ b = .av (.int n)) (h0 : 0 ≤ n) (h1 : n.toNat ≤ xs.length) (hsd : Nat.beq s d = false) :
    Step S ⟨some d, .slice t x none (some b) none, ty, pos, aft, g⟩ σ ((σ.put s .none).put d (.av (.sl true c (xs.take n.toNat)))) := by
  have := s_cutO (S := S) (σ := σ) (d := d) (ty := ty) (pos := pos) (aft := aft) (g := g) (f := id) (l := xs) hx (by rw [List.map_id]; exact hs) hT hE hb h0 h1 hsd
  rwa [List.map_id] at this
end FM

/- A closure handed to a call that turns what the caller owns. No program in sight. -/
namespace FM
open Go Go.RowKit
set_option linter.all false
/-- What the closure captured is none of what is turned. -/
inductive CapsM (σ : St) (ms : List (Nat × Nat)) : List Nat → List AV → Prop
  | nil : CapsM σ ms [] []
  | cons {s ss x z zs} (h : get σ s = .av x) (hm : idxM ms s = none) (hz : x.sh = z) (r : CapsM σ ms ss zs) : CapsM σ ms (s :: ss) (z :: zs)
theorem CapsM.length {σ : St} {ms : List (Nat × Nat)} {ss : List Nat} {zs : List AV} (h : CapsM σ ms ss zs) : ss.length = zs.length := by induction h <;> simp_all
open Classical in
noncomputable def onlyB (B : Nat → Prop) (b : Nat) : Lab := if B b then .sh else .fo
theorem CapsM.rep {S : Sys} {N : Nat} {σ : St} {ms : List (Nat × Nat)} {ss : List Nat} {zs : List AV} (h : CapsM σ ms ss zs) {w0 : World} {L0 : Nat → Lab} {a : Act} {w : World} {L : Nat → Lab} (hR : RelL S w0 L0 N σ a w L) : ∀ (i : Nat) z v, zs[i]? = some z → (ss.map fun s => a.tmps.getD s undef)[i]? = some v → Rep (onlyB fun b => inM ms L b = .sh) w none z v := by
  induction h with
  | nil => intro i z v hz; simp at hz
  | @cons s ss x z zs h hm hz r ih =>
    intro i z' v hz' hv
    cases i with
    | zero =>
      simp only [List.getElem?_cons_zero, Option.some.injEq, List.map_cons] at hz' hv
      subst hz'; subst hv; subst hz
      have hh := hR.hold s (own_lt hR h (by simp))
      rw [h] at hh
      refine Rep.toSh (fun b _ hb => ?_) hh (fun p hp b q hb => ?_)
      · unfold onlyB; rw [if_pos (inM_sh hb)]
      · cases hp; unfold onlyB; rw [if_pos (inM_no hb hm)]
    | succ i => exact ih i z' v (by simpa using hz') (by simpa using hv)
theorem ArgM.clo {S : Sys} {N : Nat} {σ : St} {P : Program} {dom : List AV → Prop} {r : List AV → AV} {ms : List (Nat × Nat)} {i f t : Nat} {caps : List Nat} {zs : List AV} (hP : P = S.P) (ht : get σ t = .clo f caps) (hc : CapsM σ ms caps zs) (hf : FnOk P f) (hs : ∀ xs9, dom xs9 → FnSpec P f (xs9 ++ zs) (xs9 ++ zs) (r xs9)) (hr : ∀ xs9, dom xs9 → (r xs9).flatPlain = true) : ArgM S N σ ms i (.tmp t) (.fn (BehA P dom r)) := by
  subst hP
  refine .fn fun w0 L0 a w L hR => ?_
  have hh := hR.hold t (own_lt hR ht (by simp))
  rw [ht] at hh
  simp only [Hold] at hh
  refine ⟨f, _, hh, hf, fun w' xs9 vs hd hx hgl hl hrep => ?_⟩
  have hcl : (caps.map fun s => a.tmps.getD s undef).length = zs.length := by rw [List.length_map, hc.length]
  have := (hs xs9 hd).calls w' (fun _ => .sh) (vs ++ caps.map fun s => a.tmps.getD s undef) (by rw [List.length_append, List.length_append, hl, hcl]) (pre_none (fun _ _ h => by cases h) (fun _ _ h => by cases h) hgl) (fun i x v hx' hv => by
    refine Rep.any ?_ _
    by_cases hi : i < xs9.length
    · rw [List.getElem?_append_left hi] at hx'
      rw [List.getElem?_append_left (by omega)] at hv
      exact hrep i x v hx' hv
    · rw [List.getElem?_append_right (by omega)] at hx'
      rw [List.getElem?_append_right (by omega), hl] at hv
      refine (hc.rep hR _ x v hx' hv).frame hx.size hx.os hx.tape hx.output (fun b hb hlt => ⟨rfl, hx.block b hlt ?_⟩) none (fun p hp => by cases hp)
      unfold onlyB at hb
      split at hb
      · assumption
      · cases hb)
  have e : vs.toArray ++ (caps.map fun s => a.tmps.getD s undef).toArray = (vs ++ caps.map fun s => a.tmps.getD s undef).toArray := by simp
  rw [e]
  refine this.mono fun e w'' ⟨v, L', he, hB⟩ => ?_
  subst he
  have h1 := hr xs9 hd
  have hv : v = (r xs9).toV := by
    have h2 := hB.res
    generalize r xs9 = y at *
    cases h2 <;> first | rfl | (simp [AV.flatPlain] at h1)
  subst hv
  exact ⟨rfl, ⟨hB.keep.os, hB.keep.tape, hB.keep.output, hB.keep.size, fun b hb => hB.keep.block b hb (fun p h => by cases h)⟩⟩
end FM

/- Structs built: parts of several cells, in any order. No program in sight. -/
namespace FM
open Go Go.RowKit
set_option linter.all false
theorem foldSet (off : Nat) : ∀ (l : List Value) (k : Nat) (cells : Array Value), off + k + l.length ≤ cells.size →
    ((l.zipIdx k).foldl (fun cs (p : Value × Nat) => cs.setIfInBounds (off + p.2) p.1) cells).size = cells.size ∧
    ∀ j, ((l.zipIdx k).foldl (fun cs (p : Value × Nat) => cs.setIfInBounds (off + p.2) p.1) cells)[j]? = if off + k ≤ j ∧ j < off + k + l.length then l[j - (off + k)]? else cells[j]?
  | [], k, cells, _ => ⟨rfl, fun j => by rw [if_neg (by simp only [List.length_nil]; omega)]; rfl⟩
  | v :: l, k, cells, h => by
    rw [List.length_cons] at h
    obtain ⟨h1, h2⟩ := foldSet off l (k + 1) (cells.setIfInBounds (off + k) v) (by simp; omega)
    rw [List.zipIdx_cons, List.foldl_cons]
    refine ⟨by rw [h1]; simp, fun j => ?_⟩
    rw [h2 j, List.length_cons]
    by_cases c1 : j = off + k
    · subst c1
      rw [if_neg (by omega), if_pos (by omega), Array.getElem?_setIfInBounds]
      simp
      omega
    · by_cases c2 : off + (k + 1) ≤ j ∧ j < off + (k + 1) + l.length
      · rw [if_pos c2, if_pos (by omega)]
        have : j - (off + k) = (j - (off + (k + 1))) + 1 := by omega
        rw [this, List.getElem?_cons_succ]
      · rw [if_neg c2, if_neg (by omega), Array.getElem?_setIfInBounds_ne (by omega)]
def setAt (zs : List AV) (off : Nat) (cs : List AV) : List AV := zs.take off ++ (cs ++ zs.drop (off + cs.length))
theorem setAt_len {zs cs : List AV} {off : Nat} (h : off + cs.length ≤ zs.length) : (setAt zs off cs).length = zs.length := by
  unfold setAt; simp only [List.length_append, List.length_take, List.length_drop]; omega
theorem setAt_get {zs cs : List AV} {off : Nat} (h : off + cs.length ≤ zs.length) (j : Nat) : (setAt zs off cs)[j]? = if off ≤ j ∧ j < off + cs.length then cs[j - off]? else zs[j]? := by
  unfold setAt
  by_cases c1 : j < off
  · rw [if_neg (by omega), List.getElem?_append_left (by rw [List.length_take]; omega), List.getElem?_take_of_lt c1]
  · have hl : (zs.take off).length = off := by rw [List.length_take]; omega
    rw [List.getElem?_append_right (by omega), hl]
    by_cases c2 : j < off + cs.length
    · rw [if_pos (by omega), List.getElem?_append_left (by omega)]
    · rw [if_neg (by omega), List.getElem?_append_right (by omega), List.getElem?_drop]
      congr 1; omega
section
variable {S : Sys} {σ : St} {d : Nat} {ty : Nat} {pos : String} {aft : Array Edge} {g : Option (Nat × Bool)}
/-- A struct's cells: its zero's, but for the parts that are given, in any order. -/
inductive FillG (σ : St) (T : Nat → Option TI) (fs : List (Nat × Nat)) : List AV → List (Nat × Operand) → List AV → Prop
  | nil {zs : List AV} : FillG σ T fs zs [] zs
  | part {i off fty : Nat} {ti : TI} {y : AV} {x : Operand} {zs ys : List AV} {ps : List (Nat × Operand)} (hf : fs[i]? = some (off, fty)) (hT : T fty = some ti) (hx : ov σ x = .av y) (hy : y.varOk = true) (ho : y.isOwn = false) (hl : Nat.beq y.cells.length ti.size = true)
      (hb : Nat.ble (off + y.cells.length) zs.length = true) (h : FillG σ T fs (setAt zs off y.cells) ps ys) : FillG σ T fs zs ((i, x) :: ps) ys
theorem FillG.length {T : Nat → Option TI} {fs : List (Nat × Nat)} {zs ys : List AV} {ps : List (Nat × Operand)} (h : FillG σ T fs zs ps ys) : ys.length = zs.length := by
  induction h with
  | nil => rfl
  | part _ _ _ _ _ _ hb _ ih => rw [ih, setAt_len (Nat.le_of_ble_eq_true hb)]
theorem FillG.run {w0 : World} {L0 : Nat → Lab} {N : Nat} {a : Act} {w : World} {L : Nat → Lab} (hR : RelL S w0 L0 N σ a w L) {fs : List (Nat × Nat)} {place : Nat → Option (Nat × Nat)} (hp : ∀ (i off fty : Nat) (ti : TI), fs[i]? = some (off, fty) → S.T fty = some ti → place i = some (off, ti.size)) {zs ys : List AV} {ps : List (Nat × Operand)} (h : FillG σ S.T fs zs ps ys) :
    ∀ cells : Array Value, cells.size = zs.length → (∀ (j : Nat) z, zs[j]? = some z → ∃ u, cells[j]? = some u ∧ Rep L w none z u) →
      ∃ cells', Instr.fill place cells (ps.map fun p => (p.1, a.eval p.2)) = some cells' ∧ cells'.size = zs.length ∧ ∀ (j : Nat) y, ys[j]? = some y → ∃ u, cells'[j]? = some u ∧ Rep L w none y u := by
  induction h with
  | nil => exact fun cells hs hz => ⟨cells, rfl, hs, hz⟩
  | @part i off fty ti y x zs ys ps hf hT hx hy ho hl hb _ ih =>
    intro cells hs hz
    have hb := Nat.le_of_ble_eq_true hb
    have hl := Nat.eq_of_beq_eq_true hl
    obtain ⟨m, hm⟩ := ev_av hR hx
    have hm' : Rep L w none y (a.eval x) := Rep.replace hm ho
    obtain ⟨c1, _, c3⟩ := rep_cells hm' hy
    have hln : (a.eval x).cells.toList.length = y.cells.length := by rw [Array.length_toList, c1]
    obtain ⟨f1, f2⟩ := foldSet off (a.eval x).cells.toList 0 cells (by rw [hln, hs]; omega)
    obtain ⟨cells', e1, e2, e3⟩ := ih (((a.eval x).cells.toList.zipIdx 0).foldl (fun cs (p : Value × Nat) => cs.setIfInBounds (off + p.2) p.1) cells) (by rw [f1, hs, setAt_len hb]) (fun j z hz' => by
      rw [setAt_get hb] at hz'
      rw [f2 j, hln, Nat.add_zero]
      by_cases c : off ≤ j ∧ j < off + y.cells.length
      · rw [if_pos c] at hz' ⊢
        obtain ⟨u, hu, hr⟩ := c3 _ _ hz'
        exact ⟨u, by rw [Array.getElem?_toList]; exact hu, hr⟩
      · rw [if_neg c] at hz' ⊢
        exact hz j z hz')
    refine ⟨cells', ?_, by rw [e2, setAt_len hb], e3⟩
    simp only [List.map_cons, Instr.fill, hp i off fty ti hf hT]
    have hne : ((a.eval x).cells.size ≠ ti.size || off + (a.eval x).cells.size > cells.size) = false := by
      rw [c1, hl, hs]; simp; omega
    simp only [hne, Bool.false_eq_true, if_false]
    have hfold : ((a.eval x).cells.zipIdx.foldl (fun cs (p : Value × Nat) => cs.setIfInBounds (off + p.2) p.1) cells) = ((a.eval x).cells.toList.zipIdx 0).foldl (fun cs (p : Value × Nat) => cs.setIfInBounds (off + p.2) p.1) cells := by
      rw [← Array.foldl_toList, Array.toList_zipIdx]
    rw [← hfold] at e1
    exact e1
/-- T{..}: parts of several cells, in any order. -/
theorem s_bldG {t sz by_ : Nat} {fs : List (Nat × Nat)} {zz ys : List AV} {ps : Array (Nat × Operand)} (hT : S.T t = some ⟨.struct fs, sz, by_, zz⟩) (hf : (fs.all fun p => (S.T p.2).isSome) = true) (hp : FillG σ S.T fs zz ps.toList ys) : Step S ⟨some d, .build t ps, ty, pos, aft, g⟩ σ (σ.put d (.av (.agg ys))) := by
  refine step_val rfl fun w0 L0 N a w L hR => ?_
  obtain ⟨f, zv, hf1, hf2, hf3, hf4, hf5, hf6, hf7⟩ := (S.ok t _ hT).info
  obtain ⟨dd, hd, fields, hde, hfl⟩ := (S.ok t _ hT).desc
  subst hde
  simp only at hf2 hf3 hf5 hf6 hf7
  have hcell : ∀ (j : Nat) z, zz[j]? = some z → ∃ u, zv.cells[j]? = some u ∧ Rep L w none z u := fun j z hz => by
    refine ⟨z.toV, ?_, toV_rep (List.all_eq_true.1 hf6 z (List.mem_of_getElem? hz))⟩
    rw [← Array.getElem?_toList, hf5, List.getElem?_map, hz]; rfl
  have hzl : zv.cells.size = zz.length := by
    have := congrArg List.length hf5
    rw [List.length_map, Array.length_toList] at this
    exact this
  have hmr := fun w' => mapM_run (P := S.P) (w := w') (fun f : Field => (do pure (f.offset, ← Go.sizeOf f.type) : Sem (Nat × Nat))) fields.toList (fields.toList.map fun f => (f.offset, ((S.P.info? f.type).map (·.size)).getD 0)) (by simp) (fun k x v hx hv => by
    rw [List.getElem?_map, hx] at hv
    simp only [Option.map_some, Option.some.injEq] at hv
    subst hv
    have hm : (x.offset, x.type) ∈ fs := by rw [← hfl]; exact List.mem_map.2 ⟨x, List.mem_of_getElem? hx, rfl⟩
    have h1 := List.all_eq_true.1 hf _ hm
    obtain ⟨ti, h2⟩ := Option.isSome_iff_exists.1 h1
    obtain ⟨fe, h5, h6⟩ := (S.ok _ ti h2).size
    simp [Go.sizeOf, typeInfo, h5])
  have hplaces : ∀ w', (fields.mapM fun f => do pure (f.offset, ← Go.sizeOf f.type) : Sem (Array (Nat × Nat))).run S.P w' = .ok (fields.toList.map fun f => (f.offset, ((S.P.info? f.type).map (·.size)).getD 0)).toArray w' := fun w' => by
    rw [Array.mapM_eq_mapM_toList]
    simp only [map_eq_pure_bind, Sem.run_bind, hmr w', Result.andThen_ok, Sem.run_pure]
  obtain ⟨cells', e1, e2, e4⟩ := hp.run hR (place := fun i => (fields.toList.map fun f => (f.offset, ((S.P.info? f.type).map (·.size)).getD 0)).toArray[i]?) (fun i off fty ti hfi hTi => by
    rw [← hfl, List.getElem?_map, Option.map_eq_some_iff] at hfi
    obtain ⟨fd, hfd, he⟩ := hfi
    obtain ⟨fe, h5, h6⟩ := (S.ok _ ti hTi).size
    cases he
    simp only [List.getElem?_toArray, List.getElem?_map, hfd, Option.map_some, h5, h6, Option.getD_some]) zv.cells hzl hcell
  refine ⟨.agg cells', fun w' _ => ?_, ?_⟩
  · simp only [execOp, Sem.run_bind, Instr.build, zeroValue, typeInfo, run_program, hf1, hf4, Result.andThen_ok, Sem.run_pure, run_underlying hd]
    rw [hplaces w']
    simp only [Result.andThen_ok]
    have e1' : Instr.fill (fun i => (fields.toList.map fun f => (f.offset, ((S.P.info? f.type).map (·.size)).getD 0)).toArray[i]?) zv.cells (ps.map fun p => (p.1, a.eval p.2)).toList = some cells' := by
      rw [Array.toList_map]; exact e1
    rw [e1']
    rfl
  · have hl : cells'.toList.length = ys.length := by rw [Array.length_toList, e2, hp.length]
    have : (Value.agg cells') = .agg cells'.toList.toArray := by simp
    rw [this]
    refine .agg hl fun i x v hx hv => ?_
    obtain ⟨u, hu, hr⟩ := e4 i x hx
    rw [Array.getElem?_toList, hu] at hv
    cases hv
    exact hr
end
end FM

/- Regions that draw their order: what is read of shared memory may be read first. No program in sight. -/
namespace FM
open Go Go.RowKit
set_option linter.all false
/-- The same, seen from the world at hand. -/
theorem RelL.rebase {S : Sys} {w0 : World} {L0 : Nat → Lab} {N : Nat} {σ : St} {a : Act} {w : World} {L : Nat → Lab} (h : RelL S w0 L0 N σ a w L) : RelL S w L N σ a w L :=
  ⟨h.defers, h.size, ⟨rfl, rfl, rfl, Nat.le_refl _, fun _ _ _ => rfl⟩, ⟨h.lok.lt, h.lok.inj, h.lok.head, fun b p _ hb => ⟨p, hb⟩, fun _ _ => Iff.rfl, fun b hb => h.lok.new b (Nat.le_trans h.keep.size hb)⟩, h.hold, h.out, h.fix, h.globNow⟩
theorem RelL.unbase {S : Sys} {w0 : World} {L0 : Nat → Lab} {N : Nat} {σ σ' : St} {a a' : Act} {w w' : World} {L L' : Nat → Lab} (h : RelL S w0 L0 N σ a w L) (h' : RelL S w L N σ' a' w' L') : RelL S w0 L0 N σ' a' w' L' := by
  have hlt : ∀ b, b < w0.heap.size → b < w.heap.size := fun b hb => Nat.lt_of_lt_of_le hb h.keep.size
  refine ⟨h'.defers, h'.size, ⟨h'.keep.os.trans h.keep.os, h'.keep.tape.trans h.keep.tape, h'.keep.output.trans h.keep.output, Nat.le_trans h.keep.size h'.keep.size, fun b hb hn => ?_⟩, ⟨h'.lok.lt, h'.lok.inj, h'.lok.head, fun b p hb hp => ?_, fun b hb => ?_, fun b hb => ?_⟩, h'.hold, h'.out, h'.fix, h.glob⟩
  · refine (h'.keep.block b (hlt b hb) fun p hp => ?_).trans (h.keep.block b hb hn)
    obtain ⟨q, hq⟩ := h.lok.old b p hb hp
    exact hn q hq
  · obtain ⟨q, hq⟩ := h'.lok.old b p (hlt b hb) hp
    exact h.lok.old b q hb hq
  · exact (h'.lok.fo b (hlt b hb)).trans (h.lok.fo b hb)
  · rcases Nat.lt_or_ge b w.heap.size with hlt' | hge
    · intro e
      exact h.lok.new b hb ((h'.lok.fo b hlt').1 e)
    · exact h'.lok.new b hge
/-- What it yields hangs on shared memory alone. -/
def StepS (S : Sys) (o : Oper) (σ σ' : St) : Prop :=
  ∀ (w0 : World) (L0 : Nat → Lab) (N : Nat) (a : Act) (w : World) (L : Nat → Lab), (∀ d : Nat, o.dst = some d → DOk S N d) → RelL S w0 L0 N σ a w L →
    ∃ v, (∀ w', (∀ b, b < w.heap.size → L b = .sh → w'.heap[b]? = w.heap[b]?) → (execOp a.eval o).run S.P w' = .ok (.value v) w') ∧ Rel S w0 L0 N σ' (a.put o.dst v) w
theorem StepW.toS {S : Sys} {o : Oper} {σ σ' : St} (h : StepW S o σ σ') : StepS S o σ σ' := fun w0 L0 N a w L hd hR => by
  obtain ⟨v, h1, h2⟩ := h w0 L0 N a w hd ⟨L, hR⟩
  exact ⟨v, fun w' _ => h1 w', h2⟩
theorem load_coreS {P : Program} {t : Nat} {ti : TI} (h : TOk P t ti) {y : AV} (hf : y.fits ti = true) {b off : Nat} {w : World} {L : Nat → Lab} (hno : ∀ cs, y = .agg cs → ∀ (j : Nat) (z : AV), cs[j]? = some z → z.isOwn = false)
    (hc : ∀ j z, y.cells[j]? = some z → ∃ u, w.cell? ⟨b, off + j, none⟩ = some u ∧ Rep L w none z u) :
    ∃ v, (∀ w', w'.heap[b]? = w.heap[b]? → (loadVar t ⟨b, off, none⟩).run P w' = .ok v w') ∧ Rep L w none y v := by
  obtain ⟨us, hl, hus⟩ := gather (R := fun j z u => w.cell? ⟨b, off + j, none⟩ = some u ∧ Rep L w none z u) y.cells 0 (by simpa using hc)
  simp only [Nat.zero_add] at hus
  refine ⟨_, fun w' e => run_loadVar_cells h hf us hl fun j u hu => ?_, ?_⟩
  · have hj : j < y.cells.length := by rw [← hl]; exact (List.getElem?_eq_some_iff.1 hu).1
    rw [cell_of_heap e]
    exact (hus j _ u (List.getElem?_eq_getElem hj) hu).1
  · cases y with
    | agg cs =>
      exact .agg hl fun i x v hx hv => (hus i x v hx hv).2
    | _ =>
      cases us with
      | nil => simp [AV.cells] at hl
      | cons u us => exact (hus 0 _ u rfl rfl).2
section
variable {S : Sys} {σ : St} {d ty : Nat} {pos : String} {aft : Array Edge} {g : Option (Nat × Bool)}
theorem h_ldD {t : Nat} {ti : TI} {x : Operand} {y : AV} (hx : ov σ x = .dptr y) (hT : S.T t = some ti) (hf : y.fits ti = true) (hp : y.isOwn = false) (hn : y.noOwn = true) : StepS S ⟨some d, .load t x, ty, pos, aft, g⟩ σ (σ.put d (.av y)) := by
  intro w0 L0 N a w L hN hR
  obtain ⟨m, ⟨b, off, hv, hL, hb, hc⟩, _⟩ := hold_plain hR hx (by simp)
  obtain ⟨v, h1, h2⟩ := load_coreS (S.ok t ti hT) hf (noOwn_spec hn) hc
  exact ⟨v, fun w' e => by simp only [execOp, hv, Instr.loadAt, Instr.sureAddr]; simp [h1 w' (e b hb hL)], Rel.putPlain (n := d) hR (hN d rfl) (by simp [TV.plain, hp]) rfl (h2.any _)⟩
theorem h_ldS {t : Nat} {ti : TI} {cs : List AV} {y : AV} {x : Operand} (hx : ov σ x = .av (.pt false cs)) (hT : S.T t = some ti) (hy : y.cells = cs) (hf : y.fits ti = true) (hp : y.isOwn = false) (hn : y.noOwn = true) : StepS S ⟨some d, .load t x, ty, pos, aft, g⟩ σ (σ.put d (.av y)) := by
  intro w0 L0 N a w L hN hR
  obtain ⟨n, hn'⟩ := ev_av hR hx
  generalize hev : a.eval x = v at hn'
  cases hn' with
  | @ptS _ _ b o u hb hlt hcell hr =>
    obtain ⟨v, h1, h2⟩ := load_coreS (S.ok t ti hT) hf (off := o) (noOwn_spec hn) (fun j z hz => by rw [hy] at hz; exact ⟨u j, hcell j (List.getElem?_eq_some_iff.1 hz).1, hr j z hz⟩)
    exact ⟨v, fun w' e => by simp only [execOp, hev, Instr.loadAt, Instr.sureAddr]; simp [h1 w' (e b hlt hb)], Rel.putPlain (n := d) hR (hN d rfl) (by simp [TV.plain, hp]) rfl (h2.any _)⟩
theorem h_ldSA {t : Nat} {ti : TI} {cs : List AV} {x : Operand} (hx : ov σ x = .av (.pt false cs)) (hT : S.T t = some ti) (hf : (AV.agg cs).fits ti = true) (hn : (AV.agg cs).noOwn = true) : StepS S ⟨some d, .load t x, ty, pos, aft, g⟩ σ (σ.put d (.av (.agg cs))) := h_ldS hx hT rfl hf rfl hn
theorem s_ldSA {t : Nat} {ti : TI} {cs : List AV} {x : Operand} (hx : ov σ x = .av (.pt false cs)) (hT : S.T t = some ti) (hf : (AV.agg cs).fits ti = true) (hn : (AV.agg cs).noOwn = true) : Step S ⟨some d, .load t x, ty, pos, aft, g⟩ σ (σ.put d (.av (.agg cs))) := s_ldS hx hT rfl hf rfl hn
/-- A field's address, of a variable that is shared. -/
theorem w_fadS {t sz by_ i off fty : Nat} {fs : List (Nat × Nat)} {zz cs : List AV} {tif : TI} {y : AV} {x : Operand} (hx : ov σ x = .av (.pt false cs)) (hT : S.T t = some ⟨.struct fs, sz, by_, zz⟩) (hf : fs[i]? = some (off, fty)) (hF : S.T fty = some tif) (hc : Nat.beq tif.size 0 = false) (hy : cs[off]? = some y) (h1 : y.cells = [y]) :
    StepW S ⟨some d, .fieldAddr t x i, ty, pos, aft, g⟩ σ (σ.put d (.dptr y)) := by
  intro w0 L0 N a w hN ⟨L, hR⟩
  obtain ⟨n, hn⟩ := ev_av hR hx
  generalize hev : a.eval x = v at hn
  cases hn with
  | @ptS _ _ b o u hb hlt hcell hr =>
    obtain ⟨fields, f, hu, hfi, h2, h3⟩ := (S.ok t _ hT).fld hf
    have hsz := (S.ok fty _ hF).size
    rw [← h3] at hsz
    refine ⟨.pointer (some ⟨b, o + f.offset, none⟩), fun w' => ?_, Rel.putPlain (n := d) hR (hN d rfl) rfl rfl ⟨b, o + f.offset, rfl, hb, hlt, fun j z hz => ?_⟩⟩
    · simp only [execOp, hev, Sem.run_bind, run_fieldAt hu hfi hsz (of_not_beq hc)]; rfl
    · rw [h1] at hz
      cases j with
      | zero => simp only [List.getElem?_cons_zero, Option.some.injEq] at hz; subst hz; rw [h2]; exact ⟨_, hcell off (List.getElem?_eq_some_iff.1 hy).1, hr off _ hy⟩
      | succ j => simp at hz
/-- .. of several cells. -/
theorem w_fadSM {t sz by_ i off fty : Nat} {fs : List (Nat × Nat)} {zz cs ys : List AV} {tif : TI} {x : Operand} (hx : ov σ x = .av (.pt false cs)) (hT : S.T t = some ⟨.struct fs, sz, by_, zz⟩) (hf : fs[i]? = some (off, fty)) (hF : S.T fty = some tif) (hc : Nat.beq tif.size 0 = false) (hy : (cs.drop off).take tif.size = ys) (h12 : Nat.blt 1 tif.size = true) :
    StepW S ⟨some d, .fieldAddr t x i, ty, pos, aft, g⟩ σ (σ.put d (.dptr (.agg ys))) := by
  intro w0 L0 N a w hN ⟨L, hR⟩
  obtain ⟨n, hn⟩ := ev_av hR hx
  generalize hev : a.eval x = v at hn
  cases hn with
  | @ptS _ _ b o u hb hlt hcell hr =>
    obtain ⟨fields, f, hu, hfi, h2, h3⟩ := (S.ok t _ hT).fld hf
    have hsz := (S.ok fty _ hF).size
    rw [← h3] at hsz
    refine ⟨.pointer (some ⟨b, o + f.offset, none⟩), fun w' => ?_, Rel.putPlain (n := d) hR (hN d rfl) rfl rfl ⟨b, o + f.offset, rfl, hb, hlt, fun j z hz => ?_⟩⟩
    · simp only [execOp, hev, Sem.run_bind, run_fieldAt hu hfi hsz (of_not_beq hc)]; rfl
    · have hz : ys[j]? = some z := hz
      rw [← hy, List.getElem?_take] at hz
      split at hz
      · rw [List.getElem?_drop] at hz
        rw [h2, Nat.add_assoc]
        exact ⟨_, hcell (off + j) (List.getElem?_eq_some_iff.1 hz).1, hr (off + j) z hz⟩
      · cases hz
theorem StepW.toStep {o : Oper} {σ' : St} (h : StepW S o σ σ') : Step S o σ σ' := fun w0 L0 N a w hd hR => by
  obtain ⟨v, h1, h2⟩ := h w0 L0 N a w hd hR
  exact ⟨v, fun w' _ => h1 w', h2⟩
theorem s_fadSM {t sz by_ i off fty : Nat} {fs : List (Nat × Nat)} {zz cs ys : List AV} {tif : TI} {x : Operand} (hx : ov σ x = .av (.pt false cs)) (hT : S.T t = some ⟨.struct fs, sz, by_, zz⟩) (hf : fs[i]? = some (off, fty)) (hF : S.T fty = some tif) (hc : Nat.beq tif.size 0 = false) (hy : (cs.drop off).take tif.size = ys) (h12 : Nat.blt 1 tif.size = true) :
    Step S ⟨some d, .fieldAddr t x i, ty, pos, aft, g⟩ σ (σ.put d (.dptr (.agg ys))) := (w_fadSM hx hT hf hF hc hy h12).toStep
end
/-! ### the orders, while shared memory is held -/
@[irreducible] def JAS (S : Sys) (N : Nat) (ops : Array Oper) (fuel : Nat) (listed : List Bool) (K : St → Prop) (σ : St) : Prop :=
  dstOk S N ops.toList = true → ∀ (w0 : World) (L0 : Nat → Lab) (Q : Exit → Act → World → Prop) (a : Act) (w : World), (∀ c a w, ¬ Q (.panic c) a w) →
    (∀ σ' a' w', K σ' → Rel S w0 L0 N σ' a' w' → Q .normal a' w') → Rel S w0 L0 N σ a w → Go.wpAnyH S.P .any ops Q (Keep L0 w0) fuel listed.toArray a w
@[irreducible] def JAF (S : Sys) (N : Nat) (ops : Array Oper) (fuel : Nat) (listed : List Bool) (K : St → Prop) (σ : St) : Prop :=
  dstOk S N ops.toList = true → ∀ (w0 : World) (L0 : Nat → Lab) (Q : Exit → Act → World → Prop) (a : Act) (w : World) (L : Nat → Lab), (∀ c a w, ¬ Q (.panic c) a w) →
    (∀ σ' a' w', K σ' → Rel S w0 L0 N σ' a' w' → Q .normal a' w') → RelL S w0 L0 N σ a w L → ∃ Lf, (∀ b, L b = .sh → Lf b = .sh) ∧ Go.wpAnyH S.P .any ops Q (Keep Lf w) fuel listed.toArray a w
section
variable {S : Sys} {N : Nat} {σ : St} {K : St → Prop} {l : List Oper} {listed : List Bool} {fuel : Nat}
theorem JA.held (h : JAF S N l.toArray fuel listed K σ) : JA S N l.toArray fuel listed K σ := by
  unfold JAF at h
  unfold JA
  intro hdo w0 L0 Q a w hp hQ ⟨L, hR⟩
  obtain ⟨Lf, _, h1⟩ := h hdo w0 L0 Q a w L hp hQ hR
  exact Go.wpAny_of_held _ _ _ _ h1
theorem JAF.go (h : JAS S N l.toArray fuel listed K σ) : JAF S N l.toArray fuel listed K σ := by
  unfold JAS at h
  unfold JAF
  intro hdo w0 L0 Q a w L hp hQ hR
  exact ⟨L, fun _ hb => hb, h hdo w L Q a w hp (fun σ' a' w' hk ⟨L', hr⟩ => hQ σ' a' w' hk ⟨L', hR.unbase hr⟩) ⟨L, hR.rebase⟩⟩
theorem JAF.take {σ' : St} {i : Nat} {o : Oper} (ho : l[i]? = some o) (hg : live l.toArray o.guard σ = some true) (hB : (Region.noSelect l.toArray && Region.free .any l.toArray listed.toArray i && (readyL l listed).contains i) = true) (hs : StepS S o σ σ') (h : JAF S N l.toArray fuel (listed.set i true) K σ') :
    JAF S N l.toArray (fuel + 1) listed K σ := by
  unfold JAF at h ⊢
  intro hdo w0 L0 Q a w L hp hQ hR
  simp only [Bool.and_eq_true] at hB
  have hd1 := (dstOk_cons (dstOk_mem (by simpa using hdo) (List.mem_of_getElem? ho))).1
  obtain ⟨v, hv, L', hR'⟩ := hs w L N a w L hd1 hR.rebase
  obtain ⟨Lf, h1, h2⟩ := h hdo w0 L0 Q _ w L' hp hQ (hR.unbase hR')
  have hsh : ∀ b, b < w.heap.size → L b = .sh → L' b = .sh := fun b hb hL => by
    cases hL' : L' b with
    | sh => rfl
    | my p => obtain ⟨q, hq⟩ := hR'.lok.old b p hb hL'; rw [hL] at hq; cases hq
    | fo => have := (hR'.lok.fo b hb).1 hL'; rw [hL] at this; cases this
  have hw := live_wanted (o := o) hg ⟨L, hR⟩
  refine ⟨fun b => if b < w.heap.size then Lf b else .sh, fun b hb => ?_, ?_⟩
  · by_cases hlt : b < w.heap.size
    · simp only [hlt, if_true]; exact h1 b (hsh b hlt hb)
    · simp only [hlt, if_false]
  · have e : listed.toArray.setIfInBounds i true = (listed.set i true).toArray := by simp
    have conv : ∀ w', Keep (fun b => if b < w.heap.size then Lf b else .sh) w w' ↔ Keep Lf w w' := fun w' =>
      ⟨fun k => ⟨k.os, k.tape, k.output, k.size, fun b hb hn => k.block b hb (by simpa only [hb, if_true] using hn)⟩, fun k => ⟨k.os, k.tape, k.output, k.size, fun b hb hn => k.block b hb (by simpa only [hb, if_true] using hn)⟩⟩
    have eS : Keep (fun b => if b < w.heap.size then Lf b else .sh) w = Keep Lf w := funext fun w' => propext (conv w')
    rw [eS]
    refine Go.wpAnyH_take (by simpa using ho) hB.1.1 hB.1.2 (by rw [readyL_eq]; exact hB.2) (fun c a w h => absurd h (hp c _ w)) (.inl ⟨hw, fun w' hw' => hv w' fun b hb hL => hw'.block b hb fun p hpb => ?_⟩) ⟨rfl, rfl, rfl, Nat.le_refl _, fun _ _ _ => rfl⟩ (by rw [e]; exact h2)
    rw [h1 b (hsh b hb hL)] at hpb; cases hpb
theorem JAS.done (hr : (readyL l listed).isEmpty = true) (h : K σ) : JAS S N l.toArray fuel listed K σ := by
  unfold JAS
  intro _ w0 L0 Q a w _ hQ hR
  exact Go.wpAnyH_done (by rw [readyL_eq]; simpa using hr) (hQ σ a w h hR) fuel
theorem JAS.op {i : Nat} {o : Oper} (ho : l[i]? = some o) (h : J false S N l.toArray [o] (JAS S N l.toArray fuel (listed.set i true) K) σ) (hd : dstOk S N l = true) {w0 : World} {L0 : Nat → Lab} {Q : Exit → Act → World → Prop} {a : Act} {w : World} (hp : ∀ c a w, ¬ Q (.panic c) a w)
    (hQ : ∀ σ' a' w', K σ' → Rel S w0 L0 N σ' a' w' → Q .normal a' w') (hR : Rel S w0 L0 N σ a w) : wpOp S.P l.toArray Q i (fun a' w' => Keep L0 w0 w' ∧ Go.wpAnyH S.P .any l.toArray Q (Keep L0 w0) fuel (listed.toArray.setIfInBounds i true) a' w') a w := by
  unfold J at h
  have h1 := h (dstOk_mem hd (List.mem_of_getElem? ho)) w0 L0 (fun e a w => match e with
    | .normal => Keep L0 w0 w ∧ Go.wpAnyH S.P .any l.toArray Q (Keep L0 w0) fuel (listed.set i true).toArray a w
    | e => Q e a w) a w (fun σ' a' w' hK hR' => by
      unfold JAS at hK
      obtain ⟨L', hr'⟩ := id hR'
      exact ⟨hr'.keep, hK hd w0 L0 Q a' w' hp hQ hR'⟩) hR
  unfold wpOp
  have ho' : l.toArray[i]? = some o := by simpa using ho
  simp only [ho']
  have e : listed.toArray.setIfInBounds i true = (listed.set i true).toArray := by simp
  rw [e]
  unfold wpList at h1
  exact h1
theorem JAS.all (rs : List Nat) (hr : readyL l listed = rs) (hne : rs.isEmpty = false) (h : ∀ i ∈ rs, ∃ o, l[i]? = some o ∧ J false S N l.toArray [o] (JAS S N l.toArray fuel (listed.set i true) K) σ) : JAS S N l.toArray (fuel + 1) listed K σ := by
  unfold JAS
  intro hd w0 L0 Q a w hp hQ hR
  have hd' : dstOk S N l = true := by simpa using hd
  refine Go.wpAnyH_all (rs := rs) (by rw [readyL_eq]; exact hr) (fun e => by subst e; cases hne) fun i hi => ?_
  obtain ⟨o, ho, hj⟩ := h i hi
  exact JAS.op ho hj hd' hp hQ hR
theorem JAS.one {i : Nat} {o : Oper} (hr : readyL l listed = [i]) (ho : l[i]? = some o) (h : J false S N l.toArray [o] (JAS S N l.toArray fuel (listed.set i true) K) σ) : JAS S N l.toArray (fuel + 1) listed K σ :=
  .all [i] hr rfl fun j hj => by simp only [List.mem_singleton] at hj; subst hj; exact ⟨o, ho, h⟩
theorem JAS.two {i j : Nat} {o o' : Oper} (hr : readyL l listed = [i, j]) (ho : l[i]? = some o) (ho' : l[j]? = some o') (h : J false S N l.toArray [o] (JAS S N l.toArray fuel (listed.set i true) K) σ) (h' : J false S N l.toArray [o'] (JAS S N l.toArray fuel (listed.set j true) K) σ) : JAS S N l.toArray (fuel + 1) listed K σ :=
  .all [i, j] hr rfl fun k hk => by
    simp only [List.mem_cons, List.not_mem_nil, or_false] at hk
    rcases hk with rfl | rfl
    · exact ⟨o, ho, h⟩
    · exact ⟨o', ho', h'⟩
theorem JAS.three {i j k : Nat} {o1 o2 o3 : Oper} (hr : readyL l listed = [i, j, k]) (h1 : l[i]? = some o1) (h2 : l[j]? = some o2) (h3 : l[k]? = some o3) (g1 : J false S N l.toArray [o1] (JAS S N l.toArray fuel (listed.set i true) K) σ) (g2 : J false S N l.toArray [o2] (JAS S N l.toArray fuel (listed.set j true) K) σ) (g3 : J false S N l.toArray [o3] (JAS S N l.toArray fuel (listed.set k true) K) σ) : JAS S N l.toArray (fuel + 1) listed K σ :=
  .all [i, j, k] hr rfl fun x hx => by
    simp only [List.mem_cons, List.not_mem_nil, or_false] at hx
    rcases hx with rfl | rfl | rfl
    · exact ⟨_, h1, g1⟩
    · exact ⟨_, h2, g2⟩
    · exact ⟨_, h3, g3⟩
theorem JAS.takeW {σ' : St} {i : Nat} {o : Oper} (ho : l[i]? = some o) (hg : live l.toArray o.guard σ = some true) (hB : (Region.noSelect l.toArray && Region.free .any l.toArray listed.toArray i && (readyL l listed).contains i) = true) (hs : StepW S o σ σ') (h : JAS S N l.toArray fuel (listed.set i true) K σ') :
    JAS S N l.toArray (fuel + 1) listed K σ := by
  unfold JAS at h ⊢
  intro hdo w0 L0 Q a w hp hQ hR
  simp only [Bool.and_eq_true] at hB
  have hd1 := (dstOk_cons (dstOk_mem (by simpa using hdo) (List.mem_of_getElem? ho))).1
  obtain ⟨v, hv, hR'⟩ := hs w0 L0 N a w hd1 hR
  have h1 := h hdo w0 L0 Q _ w hp hQ hR'
  obtain ⟨L, hr⟩ := id hR
  refine Go.wpAnyH_take (by simpa using ho) hB.1.1 hB.1.2 (by rw [readyL_eq]; exact hB.2) (fun c a w h => absurd h (hp c _ w)) (Yields.yieldsIf (.inl ⟨live_wanted (o := o) hg hR, hv⟩)) hr.keep ?_
  have e : listed.toArray.setIfInBounds i true = (listed.set i true).toArray := by simp
  rw [e]
  exact h1
end
end FM

/- Two structs of two integers compared. No program in sight. -/
namespace FM
open Go Go.RowKit
set_option linter.all false
section
variable {S : Sys} {σ : St} {d : Nat} {ty : Nat} {pos : String} {aft : Array Edge} {g : Option (Nat × Bool)}
theorem run_eqS2 {P : Program} {t e : Nat} {k : IntKind} {f1 f2 : Field} (ht : P.underlying t = some (.struct #[f1, f2])) (h1 : f1.type = e) (h2 : f2.type = e) (o1 : f1.offset = 0) (o2 : f2.offset = 1) (n1 : f1.name ≠ "_") (n2 : f2.name ≠ "_") (hs : P.stoodInHeld t = false)
    (he : P.underlying e = some (.int k)) (a b c d : Int) (w : World) : (Op.equal t (.agg #[.int .i64 a, .int .i64 b]) (.agg #[.int .i64 c, .int .i64 d])).run P w = .ok (decide (a = c ∧ b = d)) w := by
  have hg := fun w => run_isAgg (P := P) he w
  show (Op.equalIn (9999 + 1) t _ _).run P w = _
  have inner : ∀ (x y : Int) (w : World), (Op.equalIn 9999 e (.int .i64 x) (.int .i64 y)).run P w = .ok (x == y) w := fun x y w => by
    show (Op.equalIn (9998 + 1) e _ _).run P w = _
    unfold Op.equalIn
    rw [Sem.run_bind, run_underlying he, Result.andThen_ok]
    rfl
  have hb : ∀ x y : Int, (x == y) = decide (x = y) := fun x y => by rw [Bool.eq_iff_iff]; simp
  rw [Op.equalIn]
  simp only [Sem.run_bind, run_underlying ht, Result.andThen_ok, run_program, Sem.run_pure, hs]
  by_cases e1 : a = c <;> by_cases e2 : b = d <;> simp [inner, hb, e1, e2, hg, part, h1, h2, o1, o2, n1, n2]
theorem s_eqS2 {t t2 e : Nat} {k : IntKind} {f1 f2 : Field} {x y : Operand} {a b c d' : Int} (ht : S.P.underlying t = some (.struct #[f1, f2])) (h1 : f1.type = e) (h2 : f2.type = e) (o1 : f1.offset = 0) (o2 : f2.offset = 1) (n1 : f1.name ≠ "_") (n2 : f2.name ≠ "_") (hs : S.P.stoodInHeld t = false)
    (he : S.P.underlying e = some (.int k)) (hg : S.P.eqGuardType S.P.depth t = false)
    (hx : ov σ x = .av (.agg [.int a, .int b])) (hy : ov σ y = .av (.agg [.int c, .int d'])) : Step S ⟨some d, .binOp .eql t x y t2, ty, pos, aft, g⟩ σ (σ.put d (.av (.bool (decide (a = c ∧ b = d'))))) :=
  step_val rfl fun w0 L0 N A w L hR => ⟨.bool (decide (a = c ∧ b = d')), fun w' _ => by
    have hx' := rep_agg2 (ev_av hR hx).choose_spec
    have hy' := rep_agg2 (ev_av hR hy).choose_spec
    have e1 := run_eqS2 ht h1 h2 o1 o2 n1 n2 hs he a b c d' w'
    have e2 : (binOp .eql t (.agg #[.int .i64 a, .int .i64 b]) (.agg #[.int .i64 c, .int .i64 d'])).run S.P w' = .ok (.bool (decide (a = c ∧ b = d'))) w' := by
      show (do pure (.bool (← Op.equal t _ _)) : Sem Value).run S.P w' = _
      rw [Sem.run_bind, e1]; rfl
    simp only [execOp, hx', hy', Sem.run_bind]
    simp [run_guardA2 hg, e2], .bool⟩
end
end FM
