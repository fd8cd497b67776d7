/- Rows of elements of several cells: copied, moved. No program in sight. -/
import Derived.Test.YtmndhhobdakpgaaDoorFs
import Derived.Laws.IdiomCopy
import Derived.Lib.Overlaps
import Derived.Lib.AppendZerosOnto
namespace FM
open Go Go.RowKit
set_option linter.all false
theorem run_copyK {P : Program} (w : World) (dT sT ty elem : TypeId) (b o dLen dCap : Nat) (a : Addr) (sLen sCap c : Nat) (cs : List Value)
    (hu : P.underlying dT = some (.slice elem)) (hs : (P.info? elem).map (·.size) = some c) (hn : cs.length = Nat.min sLen dLen * c)
    (hsrc : ∀ (j : Nat) v, cs[j]? = some v → w.cell? (a.add j) = some v) (hc : ∀ j, j < cs.length → (w.cell? ⟨b, o + j, none⟩).isSome = true) (hf : ∀ j, j < cs.length → w.frozen? ⟨b, o + j, none⟩ = false) (h1 : ∀ v ∈ cs, v.oneCell' = true) :
    (Builtin.copy_ #[dT, sT] ty #[.slice (some ⟨b, o, none⟩) dLen dCap, .slice (some a) sLen sCap]).run P w = .ok (goInt (Nat.min sLen dLen : Nat)) (w.setCells b o cs) := by
  have hl := run_loadCells_list (P := P) w a cs hsrc
  have hst := run_storeCells_cells (P := P) b o cs 0 w (by simpa using hc) (by simpa using hf) h1
  cases hq : P.info? elem with
  | none => simp [hq] at hs
  | some i =>
    have hi : i.size = c := by simpa [hq] using hs
    simp [Builtin.copy_, run_underlying hu, Builtin.lenOf, Builtin.firstCells, Go.sizeOf, typeInfo, hq, hi, ← hn, hl, hst]
theorem setCells_row (b : Nat) (e : TypeId) : ∀ (vs : List Value) (o : Nat) (w : World) (arr : Array Value), w.heap[b]? = some (.cells arr e (0, 0)) → o + vs.length ≤ arr.size →
    ∃ A, (w.setCells b o vs).heap[b]? = some (.cells A e (0, 0)) ∧ A.size = arr.size ∧ ∀ j, A[j]? = if o ≤ j ∧ j < o + vs.length then vs[j - o]? else arr[j]?
  | [], o, w, arr, h, _ => ⟨arr, h, rfl, fun j => by rw [if_neg (by simp only [List.length_nil]; omega)]⟩
  | v :: r, o, w, arr, h, hl => by
    rw [List.length_cons] at hl
    have h1 : (w.setCell ⟨b, o, none⟩ v).heap[b]? = some (.cells (arr.setIfInBounds o v) e (0, 0)) := by simp [World.setCell, Array.getElem?_modify, h]
    obtain ⟨A, a1, a2, a3⟩ := setCells_row b e r (o + 1) _ _ h1 (by simp; omega)
    refine ⟨A, a1, by simpa using a2, fun j => ?_⟩
    rw [a3, List.length_cons]
    by_cases h2 : o + 1 ≤ j ∧ j < o + 1 + r.length
    · rw [if_pos h2, if_pos (by omega), show j - o = (j - (o + 1)) + 1 by omega, List.getElem?_cons_succ]
    · rw [if_neg h2, Array.getElem?_setIfInBounds]
      by_cases h3 : o = j
      · subst h3
        rw [if_pos rfl, if_pos (by omega), if_pos (by omega), Nat.sub_self]; rfl
      · rw [if_neg h3, if_neg (by omega)]
theorem setCells_keep (b : Nat) : ∀ (vs : List Value) (o : Nat) (w : World), (∀ k, k ≠ b → (w.setCells b o vs).heap[k]? = w.heap[k]?) ∧ (w.setCells b o vs).heap.size = w.heap.size ∧ (w.setCells b o vs).os = w.os ∧ (w.setCells b o vs).tape = w.tape ∧ (w.setCells b o vs).output = w.output
  | [], o, w => ⟨fun _ _ => rfl, rfl, rfl, rfl, rfl⟩
  | v :: r, o, w => by
    obtain ⟨h1, h2, h3, h4, h5⟩ := setCells_keep b r (o + 1) (w.setCell ⟨b, o, none⟩ v)
    refine ⟨fun k hk => (h1 k hk).trans ?_, h2.trans ?_, h3.trans rfl, h4.trans rfl, h5.trans rfl⟩
    · simp [World.setCell, Array.getElem?_modify, Ne.symm hk]
    · simp [World.setCell]
/-- A row that came out: where it lay, or anew. -/
def RowOut (w : World) (b n c : Nat) (news : List Value) (v : Value) (w' : World) : Prop :=
  ∃ B C A et, v = .slice (some ⟨B, 0, none⟩) n C ∧ (B = b ∨ w.heap.size ≤ B) ∧ n ≤ C ∧ A.size = C * c ∧ w'.heap[B]? = some (.cells A et (0, 0)) ∧ (∀ (j : Nat) u, news[j]? = some u → A[j]? = some u) ∧ w.heap.size ≤ w'.heap.size ∧ (∀ k, k ≠ b → k < w.heap.size → w'.heap[k]? = w.heap[k]?) ∧ w'.os = w.os ∧ w'.tape = w.tape ∧ w'.output = w.output
theorem back_out {L : Nat → Lab} {w : World} {b N n c : Nat} {vs : List Value} {news : List Value} {v : Value} {w' : World} {ys as' : List AV} (hpre : FM.Pre N L w) (hL : L b = .my [0]) (hN : 0 < N) (hvs : vs.length = N) (h : RowOut w b n c news v w') (hys : ys.length = n) (hc : ∀ x ∈ ys, x.cells.length = c)
    (hnews : ∀ (o : Nat) y, (flat ys)[o]? = some y → ∃ u, news[o]? = some u ∧ ∀ (L : Nat → Lab) (w : World) π, Rep L w π y u) (has : ∀ (i : Nat) x, as'[i]? = some x → x = .dead) :
    ∃ L', FM.Back N as' (.sl true c ys) L w vs v w' L' := by
  obtain ⟨B, C, A, et, rfl, hB, hnC, hA, hH, hcells, hs, hk, ho, ht, hu⟩ := h
  have hlno : ∀ b', L b' ≠ .my [N] := fun b' h => by obtain ⟨i, q, e1, e2⟩ := hpre.head b' _ h; cases e1; omega
  have hBl : B < w'.heap.size := (Array.getElem?_eq_some_iff.1 hH).1
  obtain ⟨L', hL'⟩ : ∃ L' : Nat → Lab, L' = fun b' => if b' = B then .my [N] else L b' := ⟨_, rfl⟩
  have l1 : L' B = .my [N] := by rw [hL']; simp
  have l2 : ∀ b', b' ≠ B → L' b' = L b' := fun b' h => by rw [hL']; simp [h]
  clear hL'
  subst hys
  refine ⟨L', ⟨ho, ht, hu, hs, fun b' h1 h2 => hk b' (fun e => by subst e; exact h2 _ hL) h1⟩, ⟨fun b' p hp => ?_, fun b1 b2 p h1 h2 => ?_, fun b' p hp e => ?_, fun b' p hlt hp => ?_, fun b' hlt => ?_, fun b' h1 h2 => ?_⟩, fun b' p hp => ?_, fun i x u' hx hu => ?_, ?_⟩
  · by_cases e : b' = B
    · subst e; exact hBl
    · rw [l2 b' e] at hp; have := hpre.lt b' p hp; omega
  · by_cases e1 : b1 = B
    · subst e1
      rw [l1] at h1; cases h1
      by_cases e2 : b2 = b1
      · exact e2.symm
      · rw [l2 b2 e2] at h2; exact absurd h2 (hlno b2)
    · rw [l2 b1 e1] at h1
      by_cases e2 : b2 = B
      · subst e2
        rw [l1] at h2; cases h2
        exact absurd h1 (hlno b1)
      · rw [l2 b2 e2] at h2; exact hpre.inj b1 b2 p h1 h2
  · subst e
    by_cases e : b' = B
    · subst e; rw [l1] at hp; cases hp
    · rw [l2 b' e] at hp; obtain ⟨i, q, h, _⟩ := hpre.head b' [] hp; cases h
  · by_cases e : b' = B
    · subst e
      rcases hB with rfl | hB
      · exact ⟨_, hL⟩
      · omega
    · rw [l2 b' e] at hp; exact ⟨p, hp⟩
  · by_cases e : b' = B
    · subst e
      rcases hB with rfl | hB
      · rw [l1, hL]; constructor <;> intro h <;> cases h
      · omega
    · rw [l2 b' e]
  · by_cases e : b' = B
    · subst e; rw [l1] at h2; cases h2
    · rw [l2 b' e] at h2; exact hpre.new b' h1 h2
  · by_cases e : b' = B
    · subst e; rw [l1] at hp; cases hp; exact ⟨N, [], rfl, Nat.le_refl _⟩
    · rw [l2 b' e] at hp; obtain ⟨i, q, h, h2⟩ := hpre.head b' p hp; exact ⟨i, q, h, by omega⟩
  · rw [has i x hx]; exact .dead
  · refine .slO (fun o => (A[o]?).getD undef) l1 hH hnC hA hc (fun o ho => ?_) fun o y hy => ?_
    · have : o < A.size := by rw [hA]; exact Nat.lt_of_lt_of_le ho (Nat.mul_le_mul_right _ hnC)
      rw [Array.getElem?_eq_getElem this]; rfl
    · obtain ⟨u, h1, h2⟩ := hnews o y hy
      rw [hcells o u h1]; exact h2 _ _ _
/-! ### rows of plain cells -/
def simp1 : AV → Bool
  | .int _ => true
  | .str _ => true
  | _ => false
theorem toV_one {L : Nat → Lab} {w : World} {π : Option (List Nat)} {y : AV} {v : Value} (h : simp1 y = true) (hr : Rep L w π y v) : v = y.toV := by
  cases hr <;> first | rfl | (simp [simp1] at h)
theorem toV_any {L : Nat → Lab} {w : World} {π : Option (List Nat)} {y : AV} (h : simp1 y = true) : Rep L w π y y.toV := by
  cases y <;> first | exact .int | exact .str | (simp [simp1] at h)
theorem toV_cell {y : AV} (h : simp1 y = true) : y.toV.oneCell' = true := by
  cases y <;> first | rfl | (simp [simp1] at h)
theorem own_row {L : Nat → Lab} {w : World} {p c : Nat} {xs : List AV} {v : Value} (hrep : Rep L w (some [p]) (.sl true c xs) v) (hne : xs ≠ []) (hs : ∀ y ∈ flat xs, simp1 y = true) :
    ∃ b cap arr e, v = .slice (some ⟨b, 0, none⟩) xs.length cap ∧ L b = .my [p] ∧ w.heap[b]? = some (.cells arr e (0, 0)) ∧ xs.length ≤ cap ∧ arr.size = cap * c ∧ (∀ x ∈ xs, x.cells.length = c) ∧ ∀ (j : Nat) u, ((flat xs).map AV.toV)[j]? = some u → arr[j]? = some u := by
  cases hrep with
  | slE h => exact absurd rfl hne
  | @slO p c xs b cap arr e u hL hb hcap hsz hc hcell hr =>
    refine ⟨b, cap, arr, e, rfl, hL, hb, hcap, hsz, hc, fun j x hj => ?_⟩
    rw [List.getElem?_map, Option.map_eq_some_iff] at hj
    obtain ⟨y, hy, rfl⟩ := hj
    have hlt : j < xs.length * c := by rw [← flat_length hc]; exact (List.getElem?_eq_some_iff.1 hy).1
    rw [hcell j hlt, toV_one (hs y (List.mem_of_getElem? hy)) (hr j y hy)]
theorem flat_news {ys : List AV} (hs : ∀ y ∈ flat ys, simp1 y = true) : ∀ (o : Nat) y, (flat ys)[o]? = some y → ∃ u, ((flat ys).map AV.toV)[o]? = some u ∧ ∀ (L : Nat → Lab) (w : World) π, Rep L w π y u := fun o y h =>
  ⟨y.toV, by rw [List.getElem?_map, h]; rfl, fun L w π => toV_any (hs y (List.mem_of_getElem? h))⟩
theorem flat_cells {ys : List AV} (hs : ∀ y ∈ flat ys, simp1 y = true) : ∀ u ∈ (flat ys).map AV.toV, u.oneCell' = true := fun u hu => by
  obtain ⟨y, hy, rfl⟩ := List.mem_map.1 hu
  exact toV_cell (hs y hy)
theorem flat_take {c : Nat} : ∀ {xs : List AV} (_ : ∀ x ∈ xs, x.cells.length = c) (k : Nat), flat (xs.take k) = (flat xs).take (k * c)
  | [], _, k => by simp [flat]
  | x :: xs, h, 0 => by simp [flat]
  | x :: xs, h, k + 1 => by
    have hx := h x (List.mem_cons_self ..)
    have ih := flat_take (xs := xs) (fun y hy => h y (List.mem_cons_of_mem _ hy)) k
    simp only [flat, List.take_succ_cons, List.flatMap_cons] at ih ⊢
    rw [ih, List.take_append, hx, List.take_of_length_le (l := x.cells) (by rw [hx, Nat.add_mul]; omega), show (k + 1) * c - c = k * c by rw [Nat.add_mul]; omega]
theorem flat_drop {c : Nat} : ∀ {xs : List AV} (_ : ∀ x ∈ xs, x.cells.length = c) (k : Nat), flat (xs.drop k) = (flat xs).drop (k * c)
  | [], _, k => by simp [flat]
  | x :: xs, h, 0 => by simp [flat]
  | x :: xs, h, k + 1 => by
    have hx := h x (List.mem_cons_self ..)
    have ih := flat_drop (xs := xs) (fun y hy => h y (List.mem_cons_of_mem _ hy)) k
    simp only [flat, List.drop_succ_cons, List.flatMap_cons] at ih ⊢
    rw [ih, List.drop_append, hx, List.drop_eq_nil_of_le (as := x.cells) (by rw [hx, Nat.add_mul]; omega), List.nil_append, show (k + 1) * c - c = k * c by rw [Nat.add_mul]; omega]
end FM
