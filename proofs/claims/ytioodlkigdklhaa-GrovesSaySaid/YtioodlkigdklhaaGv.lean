/- Groves: the first of the best sharings. Plain law. -/
import Derived.Test.YtioodlkigdklhaaGu
namespace Go.Proofs.Ytioodlkigdklhaa
open Go FM
set_option maxHeartbeats 1600000
set_option linter.all false
def addT (T : Nat) (k : Int) : Nat := if k < 0 then T else T ||| 2 ^ k.toNat
def optK (g T : Nat) : List Int := -1 :: ((List.range g).filter fun k => !T.testBit k).map fun (k : Nat) => (k : Int)
def en (g : Nat) : Nat → Nat → List (List Int)
  | 0, _ => [[]]
  | m + 1, T => (optK g T).flatMap fun k => (en g m (addT T k)).map (k :: ·)
/-- The first of the best of a list. -/
structure Sm (f : List Int → Int) (L : List (List Int)) (s : List Int × Int) : Prop where
  le : ∀ x ∈ L, f x ≤ s.2
  fold : ∀ st, fFold f L st = if st.2 < s.2 then s else st
theorem fFold_append {f : List Int → Int} {A B : List (List Int)} {s : List Int × Int} : fFold f (A ++ B) s = fFold f B (fFold f A s) := List.foldl_append ..
theorem Sm.append {f : List Int → Int} {A B : List (List Int)} {a b : List Int × Int} (ha : Sm f A a) (hb : Sm f B b) : Sm f (A ++ B) (if a.2 < b.2 then b else a) := by
  refine ⟨fun x hx => ?_, fun st => ?_⟩
  · rcases List.mem_append.1 hx with h | h
    · have := ha.le x h; split <;> omega
    · have := hb.le x h; split <;> omega
  · rw [fFold_append, ha.fold, hb.fold]
    by_cases h1 : a.2 < b.2
    · rw [if_pos h1]
      by_cases h2 : st.2 < a.2
      · rw [if_pos h2, if_pos h1, if_pos (by omega)]
      · rw [if_neg h2]
    · rw [if_neg h1]
      by_cases h2 : st.2 < a.2
      · rw [if_pos h2, if_neg h1]
      · rw [if_neg h2, if_neg (by omega)]
theorem Sm.map {f f' : List Int → Int} {k : Int} {c : Int} (hf : ∀ r, f (k :: r) = c + f' r) {L : List (List Int)} {s : List Int × Int} (h : Sm f' L s) (hm : ∃ x ∈ L, s = (x, f' x)) : Sm f (L.map (k :: ·)) (k :: s.1, c + s.2) := by
  refine ⟨fun x hx => ?_, fun st => ?_⟩
  · obtain ⟨r, hr, rfl⟩ := List.mem_map.1 hx
    have := h.le r hr
    rw [hf]; simp only; omega
  · have key : ∀ (L : List (List Int)) (b : List Int × Int), ∀ st : List Int × Int, fFold f' L b = (if b.2 < s.2 then s else b) → True := fun _ _ _ _ => trivial
    -- the fold over the lengthened ones, next to that over the short ones
    have sim : ∀ (L : List (List Int)) (M : Int), (fFold f (L.map (k :: ·)) (st.1, c + M) = (st.1, c + M) ∧ (fFold f' L ([], M)).2 = M) ∨ (∃ x ∈ L, fFold f (L.map (k :: ·)) (st.1, c + M) = (k :: x, c + f' x) ∧ fFold f' L ([], M) = (x, f' x) ∧ M < f' x) := by
      intro L
      induction L with
      | nil => exact fun M => .inl ⟨rfl, rfl⟩
      | cons y L ih =>
        intro M
        have step : ∀ a : List Int, fFold f ((y :: L).map (k :: ·)) (a, c + M) = fFold f (L.map (k :: ·)) (if M < f' y then (k :: y, c + f' y) else (a, c + M)) := fun a => by
          simp only [fFold, List.map_cons, List.foldl_cons, fF, hf]
          congr 1
          by_cases h : M < f' y
          · rw [if_pos h, if_pos (by omega)]
          · rw [if_neg h, if_neg (by omega)]
        have step' : ∀ a : List Int, fFold f' (y :: L) (a, M) = fFold f' L (if M < f' y then (y, f' y) else (a, M)) := fun a => by
          simp only [fFold, List.foldl_cons, fF]
        rw [step, step']
        by_cases h : M < f' y
        · rw [if_pos h, if_pos h]
          -- from a start of whatever row
          have any : ∀ (L : List (List Int)) (a b a' b' : List Int) (N : Int), (fFold f (L.map (k :: ·)) (a, c + N) = (a, c + N) ∧ fFold f' L (b, N) = (b, N)) ∨ (∃ x ∈ L, fFold f (L.map (k :: ·)) (a, c + N) = (k :: x, c + f' x) ∧ fFold f' L (b, N) = (x, f' x) ∧ N < f' x) := by
            intro L
            induction L with
            | nil => exact fun a b _ _ N => .inl ⟨rfl, rfl⟩
            | cons z L ihL =>
              intro a b a' b' N
              have e1 : fFold f ((z :: L).map (k :: ·)) (a, c + N) = fFold f (L.map (k :: ·)) (if N < f' z then (k :: z, c + f' z) else (a, c + N)) := by
                simp only [fFold, List.map_cons, List.foldl_cons, fF, hf]
                congr 1
                by_cases h : N < f' z
                · rw [if_pos h, if_pos (by omega)]
                · rw [if_neg h, if_neg (by omega)]
              have e2 : fFold f' (z :: L) (b, N) = fFold f' L (if N < f' z then (z, f' z) else (b, N)) := by
                simp only [fFold, List.foldl_cons, fF]
              rw [e1, e2]
              by_cases h : N < f' z
              · rw [if_pos h, if_pos h]
                rcases ihL (k :: z) z a' b' (f' z) with ⟨h1, h2⟩ | ⟨x, hx, h1, h2, h3⟩
                · exact .inr ⟨z, List.mem_cons_self .., h1, h2, h⟩
                · exact .inr ⟨x, List.mem_cons_of_mem _ hx, h1, h2, by omega⟩
              · rw [if_neg h, if_neg h]
                rcases ihL a b a' b' N with ⟨h1, h2⟩ | ⟨x, hx, h1, h2, h3⟩
                · exact .inl ⟨h1, h2⟩
                · exact .inr ⟨x, List.mem_cons_of_mem _ hx, h1, h2, h3⟩
          rcases any L (k :: y) y [] [] (f' y) with ⟨h1, h2⟩ | ⟨x, hx, h1, h2, h3⟩
          · exact .inr ⟨y, List.mem_cons_self .., h1, h2, h⟩
          · exact .inr ⟨x, List.mem_cons_of_mem _ hx, h1, h2, by omega⟩
        · rw [if_neg h, if_neg h]
          rcases ih M with ⟨h1, h2⟩ | ⟨x, hx, h1, h2, h3⟩
          · exact .inl ⟨h1, h2⟩
          · exact .inr ⟨x, List.mem_cons_of_mem _ hx, h1, h2, h3⟩
    have h1 := sim L (st.2 - c)
    have h2 := h.fold ([], st.2 - c)
    have e : c + (st.2 - c) = st.2 := by omega
    rw [e] at h1
    have est : (st.1, st.2) = st := rfl
    rw [est] at h1
    rcases h1 with ⟨h3, h4⟩ | ⟨x, hx, h3, h4, h5⟩
    · rw [h3]
      rw [h2] at h4
      by_cases hc : st.2 - c < s.2
      · rw [if_pos hc] at h4; omega
      · rw [if_neg (by simp only; omega)]
    · rw [h3]
      rw [h2] at h4
      by_cases hc : st.2 - c < s.2
      · rw [if_pos hc] at h4
        subst h4
        rw [if_pos (by simp only at hc ⊢; omega)]
      · rw [if_neg hc] at h4
        injection h4 with _ h4
        omega
theorem fFold_mem {f : List Int → Int} : ∀ {L : List (List Int)} {st : List Int × Int}, fFold f L st = st ∨ ∃ x ∈ L, fFold f L st = (x, f x)
  | [], st => .inl rfl
  | y :: L, st => by
    have e : fFold f (y :: L) st = fFold f L (fF f st y) := rfl
    rw [e]
    unfold fF
    by_cases h : st.2 < f y
    · rw [if_pos h]
      rcases fFold_mem (f := f) (L := L) (st := (y, f y)) with h | ⟨x, hx, h⟩
      · exact .inr ⟨y, List.mem_cons_self .., h⟩
      · exact .inr ⟨x, List.mem_cons_of_mem _ hx, h⟩
    · rw [if_neg h]
      rcases fFold_mem (f := f) (L := L) (st := st) with h | ⟨x, hx, h⟩
      · exact .inl h
      · exact .inr ⟨x, List.mem_cons_of_mem _ hx, h⟩
theorem Sm.mem {f : List Int → Int} {L : List (List Int)} {s : List Int × Int} (h : Sm f L s) : ∃ x ∈ L, s = (x, f x) := by
  have h1 := h.fold ([], s.2 - 1)
  rw [if_pos (by simp only; omega)] at h1
  rcases fFold_mem (f := f) (L := L) (st := ([], s.2 - 1)) with h2 | ⟨x, hx, h2⟩
  · rw [h2] at h1
    have := congrArg Prod.snd h1
    simp only at this; omega
  · exact ⟨x, hx, by rw [← h1, h2]⟩
theorem addT_bit {T k : Nat} {x : Int} (hx : -1 ≤ x) : (addT T x).testBit k = (T.testBit k || decide ((k : Int) = x)) := by
  unfold addT
  by_cases h : x < 0
  · rw [if_pos h, decide_eq_false (by omega), Bool.or_false]
  · rw [if_neg h, Nat.testBit_or, Nat.testBit_two_pow]
    congr 1
    rw [Bool.eq_iff_iff, decide_eq_true_iff, decide_eq_true_iff]
    omega
theorem optK_mem {g T : Nat} {k : Int} : k ∈ optK g T ↔ k = -1 ∨ ∃ c : Nat, c < g ∧ T.testBit c = false ∧ k = c := by
  unfold optK
  rw [List.mem_cons, List.mem_map]
  constructor
  · rintro (h | ⟨c, hc, h⟩)
    · exact .inl h
    · obtain ⟨h1, h2⟩ := List.mem_filter.1 hc
      exact .inr ⟨c, List.mem_range.1 h1, by simpa using h2, h.symm⟩
  · rintro (h | ⟨c, h1, h2, h3⟩)
    · exact .inl h
    · exact .inr ⟨c, List.mem_filter.2 ⟨List.mem_range.2 h1, by simpa using h2⟩, h3.symm⟩
theorem en_sub {g : Nat} : ∀ (m T T' : Nat), (∀ b, T.testBit b = true → T'.testBit b = true) → ∀ x ∈ en g m T', x ∈ en g m T
  | 0, _, _, _, x, hx => hx
  | m + 1, T, T', h, x, hx => by
    unfold en at hx ⊢
    obtain ⟨k, hk, hx⟩ := List.mem_flatMap.1 hx
    obtain ⟨r, hr, rfl⟩ := List.mem_map.1 hx
    have hk1 : -1 ≤ k := by rcases optK_mem.1 hk with h | ⟨c, _, _, h⟩ <;> omega
    refine List.mem_flatMap.2 ⟨k, optK_mem.2 ?_, List.mem_map.2 ⟨r, en_sub m _ _ (fun b hb => ?_) r hr, rfl⟩⟩
    · rcases optK_mem.1 hk with h' | ⟨c, h1, h2, h3⟩
      · exact .inl h'
      · refine .inr ⟨c, h1, ?_, h3⟩
        cases hT : T.testBit c with
        | false => rfl
        | true => rw [h c hT] at h2; cases h2
    · rw [addT_bit hk1] at hb ⊢
      rcases Bool.or_eq_true .. |>.mp hb with hb | hb
      · rw [h b hb]; rfl
      · rw [hb, Bool.or_true]
theorem range_filter_succ {c : Nat} {p : Nat → Bool} : (List.range (c + 1)).filter p = (List.range c).filter p ++ if p c = true then [c] else [] := by
  rw [List.range_succ, List.filter_append]; congr 1
  by_cases h : p c = true
  · rw [if_pos h]; simp [h]
  · rw [if_neg h]; simp [h]
def tailK (g m T c : Nat) : List (List Int) := (((List.range c).filter fun k => !T.testBit k).map fun (k : Nat) => (k : Int)).flatMap fun k => (en g m (addT T k)).map (k :: ·)
theorem tailK_yes {g m T c : Nat} (h : T.testBit c = false) : tailK g m T (c + 1) = tailK g m T c ++ (en g m (T ||| 2 ^ c)).map ((c : Int) :: ·) := by
  unfold tailK
  rw [range_filter_succ, if_pos (by simpa using h), List.map_append, List.flatMap_append]
  congr 1
  have : ¬ ((c : Int) < 0) := by omega
  simp [addT, this]
theorem tailK_no {g m T c : Nat} (h : T.testBit c = true) : tailK g m T (c + 1) = tailK g m T c := by
  unfold tailK
  rw [range_filter_succ, if_neg (by simpa using h), List.append_nil]
theorem shr_testBitG (a k : Nat) : shr a k % 2 = 0 ↔ a.testBit k = false := by
  unfold shr; rw [Nat.testBit_eq_decide_div_mod_eq]; simp
theorem bst_Sm {g : Nat} {w : Nat → Nat → Int} {wo : Int} : ∀ (m i T : Nat), Sm (vl w wo i) (en g m T) (bst g w wo m i T)
  | 0, i, T => ⟨fun x hx => by rw [en, List.mem_singleton] at hx; subst hx; simp [vl, bst], fun st => rfl⟩
  | m + 1, i, T => by
    have ih := fun T => bst_Sm (g := g) (w := w) (wo := wo) m (i + 1) T
    have hen : en g (m + 1) T = (en g m T).map (-1 :: ·) ++ tailK g m T g := by
      show (optK g T).flatMap (fun k => (en g m (addT T k)).map (k :: ·)) = _
      unfold optK tailK
      rw [List.flatMap_cons, show addT T (-1) = T from if_pos (by omega)]
    have hcons : ∀ k r, vl w wo i (k :: r) = gain w wo i k + vl w wo (i + 1) r := fun k r => rfl
    have g1 : gain w wo i (-1) = 0 := if_neg (by omega)
    have h0 : Sm (vl w wo i) ((en g m T).map (-1 :: ·)) (-1 :: (bst g w wo m (i + 1) T).1, (bst g w wo m (i + 1) T).2) := by
      have := (ih T).map (f := vl w wo i) (hcons (-1)) (ih T).mem
      rwa [g1, Int.zero_add] at this
    rw [hen]
    by_cases hi : (i : Int) = wo
    · rw [bst_skip hi]
      have : ∀ c, Sm (vl w wo i) ((en g m T).map (-1 :: ·) ++ tailK g m T c) (-1 :: (bst g w wo m (i + 1) T).1, (bst g w wo m (i + 1) T).2) := fun c => by
        induction c with
        | zero => rw [show tailK g m T 0 = [] from rfl, List.append_nil]; exact h0
        | succ c ihc =>
          cases hb : T.testBit c with
          | true => rw [tailK_no hb]; exact ihc
          | false =>
            rw [tailK_yes hb, ← List.append_assoc]
            have h1 := (ih (T ||| 2 ^ c)).map (f := vl w wo i) (hcons (c : Int)) (ih _).mem
            have g2 : gain w wo i (c : Int) = 0 := if_neg (fun h => h.2 hi)
            rw [g2, Int.zero_add] at h1
            have h2 := ihc.append h1
            obtain ⟨x, hx, hxe⟩ := (ih (T ||| 2 ^ c)).mem
            have h3 := (ih T).le x (en_sub m T (T ||| 2 ^ c) (fun b hb => by rw [Nat.testBit_or, hb]; rfl) x hx)
            rw [if_neg (by rw [hxe]; simp only; omega)] at h2
            exact h2
      exact this g
    · rw [bst_take hi]
      have : ∀ c, Sm (vl w wo i) ((en g m T).map (-1 :: ·) ++ tailK g m T c) ((bstS g w wo m i T c).2.2 :: (bstS g w wo m i T c).1, (bstS g w wo m i T c).2.1) := fun c => by
        induction c with
        | zero => rw [show tailK g m T 0 = [] from rfl, List.append_nil]; exact h0
        | succ c ihc =>
          rw [bstS_succ]
          cases hb : T.testBit c with
          | true =>
            rw [tailK_no hb, if_neg (fun h => by rw [(shr_testBitG T c).1 h.1] at hb; cases hb)]; exact ihc
          | false =>
            rw [tailK_yes hb, ← List.append_assoc]
            have h1 := (ih (T ||| 2 ^ c)).map (f := vl w wo i) (hcons (c : Int)) (ih _).mem
            have g2 : gain w wo i (c : Int) = w i c := by unfold gain; rw [if_pos ⟨by omega, hi⟩, Int.toNat_natCast]
            rw [g2] at h1
            have h2 := ihc.append h1
            by_cases hc : (bstS g w wo m i T c).2.1 < w i c + (bst g w wo m (i + 1) (T ||| 2 ^ c)).2
            · rw [if_pos ⟨(shr_testBitG T c).2 hb, hc⟩]
              rw [if_pos hc] at h2
              exact h2
            · rw [if_neg (fun h => hc h.2)]
              rw [if_neg hc] at h2
              exact h2
      exact this g
/-! ### the sharings are these -/
def bitsOf (p : List Int) : Nat := p.foldl addT 0
theorem bitsOf_bit {p : List Int} (h : ∀ k ∈ p, -1 ≤ k) {c : Nat} : (bitsOf p).testBit c = decide ((c : Int) ∈ p) := by
  unfold bitsOf
  suffices ∀ (p : List Int) (T : Nat), (∀ k ∈ p, -1 ≤ k) → (p.foldl addT T).testBit c = (T.testBit c || decide ((c : Int) ∈ p)) by
    rw [this p 0 h]; simp
  intro p
  induction p with
  | nil => intro T _; simp
  | cons x p ih =>
    intro T hp
    rw [List.foldl_cons, ih _ (fun k hk => hp k (List.mem_cons_of_mem _ hk)), addT_bit (hp x (List.mem_cons_self ..)), Bool.or_assoc]
    congr 1
    rw [Bool.eq_iff_iff]
    simp [List.mem_cons]
theorem opts_eq {g : Nat} {p : List Int} (h : ∀ k ∈ p, -1 ≤ k) : opts p (g + 1) = (optK g (bitsOf p)).map fun k => p ++ [k] := by
  unfold optK
  rw [List.map_cons]
  induction g with
  | zero => rfl
  | succ g ih =>
    rw [show opts p (g + 1 + 1) = opts p (g + 1) ++ if g + 1 = 0 ∨ (((g + 1 : Nat) : Int) - 1) ∉ p then [p ++ [((g + 1 : Nat) : Int) - 1]] else [] from rfl, ih, range_filter_succ]
    have e : ((g + 1 : Nat) : Int) - 1 = (g : Int) := by omega
    rw [e, bitsOf_bit h]
    by_cases hm : (g : Int) ∈ p
    · rw [if_neg (by simp [hm]), if_neg (by simp [hm])]; simp
    · rw [if_pos (.inr hm), if_pos (by simp [hm])]; simp
theorem shg_en {g : Nat} : ∀ (j m : Nat), ((shg g j).flatMap fun p => (en g m (bitsOf p)).map (p ++ ·)) = en g (j + m) 0
  | 0, m => by simp [shg, bitsOf]
  | j + 1, m => by
    have ih := shg_en (g := g) j (m + 1)
    rw [show j + (m + 1) = j + 1 + m by omega] at ih
    rw [← ih, shg, List.flatMap_assoc]
    have hrow := shg_row (g := g) j
    have key : ∀ L : List (List Int), (∀ p ∈ L, ∀ k ∈ p, -1 ≤ k) → (L.flatMap fun p => (opts p (g + 1)).flatMap fun q => (en g m (bitsOf q)).map (q ++ ·)) = L.flatMap fun p => (en g (m + 1) (bitsOf p)).map (p ++ ·) := fun L => by
      induction L with
      | nil => intro _; rfl
      | cons p L ihL =>
        intro hL
        rw [List.flatMap_cons, List.flatMap_cons, ihL fun q hq => hL q (List.mem_cons_of_mem _ hq)]
        congr 1
        rw [opts_eq (hL p (List.mem_cons_self ..)), List.flatMap_map, en, List.map_flatMap]
        congr 1
        funext k
        rw [List.map_map]
        have : bitsOf (p ++ [k]) = addT (bitsOf p) k := by simp [bitsOf]
        rw [this]
        refine List.map_congr_left fun r _ => ?_
        simp
    exact key _ fun p hp k hk => ((hrow p hp).2 k hk).1
theorem shg_all {g n : Nat} : shg g n = en g n 0 := by
  have := shg_en (g := g) n 0
  rw [Nat.add_zero] at this
  rw [← this]
  simp [en]
theorem best_eq {g n : Nat} {w : Nat → Nat → Int} {wo : Int} (h : 0 ≤ (bst g w wo n 0 0).2) : fFold (vl w wo 0) (shg g n) ([], -1) = bst g w wo n 0 0 := by
  rw [shg_all, (bst_Sm n 0 0).fold, if_pos (by simp only; omega)]
theorem vl_without {w : Nat → Nat → Int} {l : List Int} : ∀ (o i : Nat), i < l.length → vl w (-1) o l = vl w ((o + i : Nat) : Int) o l + ownOf w (o + i) (l.getD i 0) := by
  induction l with
  | nil => intro o i h; simp at h
  | cons x l ih =>
    intro o i h
    have same : ∀ (l : List Int) (a b : Nat), b < a → vl w (b : Int) a l = vl w (-1) a l := fun l => by
      induction l with
      | nil => intro a b _; rfl
      | cons y l ihl =>
        intro a b hab
        simp only [vl]
        rw [ihl (a + 1) b (by omega)]
        congr 1
        unfold gain
        by_cases hy : 0 ≤ y
        · rw [if_pos ⟨hy, by omega⟩, if_pos ⟨hy, by omega⟩]
        · rw [if_neg (fun h => hy h.1), if_neg (fun h => hy h.1)]
    cases i with
    | zero =>
      simp only [vl, Nat.add_zero, List.getD_cons_zero]
      rw [same l (o + 1) o (by omega)]
      unfold gain ownOf
      by_cases hx : 0 ≤ x
      · rw [if_pos ⟨hx, by omega⟩, if_neg (fun h => h.2 rfl), if_pos hx]; omega
      · rw [if_neg (fun h => hx h.1), if_neg (fun h => h.2 rfl), if_neg hx]; omega
    | succ i =>
      have := ih (o + 1) i (by simpa using h)
      simp only [vl, List.getD_cons_succ]
      rw [this, show o + 1 + i = o + (i + 1) by omega]
      have : gain w (-1) o x = gain w ((o + (i + 1) : Nat) : Int) o x := by
        unfold gain
        by_cases hx : 0 ≤ x
        · rw [if_pos ⟨hx, by omega⟩, if_pos ⟨hx, by omega⟩]
        · rw [if_neg (fun h => hx h.1), if_neg (fun h => hx h.1)]
      omega
end Go.Proofs.Ytioodlkigdklhaa
