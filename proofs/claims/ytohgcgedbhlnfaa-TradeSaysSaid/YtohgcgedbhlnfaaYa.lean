/- Trades: who stands in a ring, by going on from each (the program) and by images (the reference). No program in sight. -/
import Derived.Test.YtohgcgedbhlnfaaSo
import Derived.Test.YtohgcgedbhlnfaaOt
namespace Go.Proofs.Ytohgcgedbhlnfaa
open Go FM
set_option maxRecDepth 10000
set_option linter.all false
def it (F : Int → Int) : Nat → Int → Int
  | 0, x => x
  | k + 1, x => F (it F k x)
theorem it_add {F : Int → Int} : ∀ a b x, it F (a + b) x = it F a (it F b x)
  | 0, b, x => by rw [Nat.zero_add]; rfl
  | a + 1, b, x => by rw [show a + 1 + b = (a + b) + 1 by omega]; show F _ = F _; rw [it_add a b x]
theorem it_mem {F : Int → Int} {S : List Int} (hF : ∀ x ∈ S, F x ∈ S) : ∀ k {x}, x ∈ S → it F k x ∈ S
  | 0, _, h => h
  | k + 1, _, h => hF _ (it_mem hF k h)
theorem it_mul {F : Int → Int} {k : Nat} {x : Int} (h : it F k x = x) : ∀ c, it F (c * k) x = x
  | 0 => by rw [Nat.zero_mul]; rfl
  | c + 1 => by rw [Nat.add_mul, Nat.one_mul, it_add, h]; exact it_mul h c
theorem dup {l S : List Int} (hsub : l ⊆ S) (hlen : S.length < l.length) : ∃ a b, ∃ (_ : a < b) (hb : b < l.length), l[a] = l[b] := by
  refine Classical.byContradiction fun hn => ?_
  have : l.Nodup := List.pairwise_iff_getElem.2 fun i j hi hj hij e => hn ⟨i, j, hij, hj, e⟩
  have := this.length_le_of_subset hsub
  omega
theorem pigeon {F : Int → Int} {S : List Int} (hF : ∀ x ∈ S, F x ∈ S) {x : Int} (hx : x ∈ S) : ∃ a b, a < b ∧ b ≤ S.length ∧ it F a x = it F b x := by
  obtain ⟨a, b, h1, h2, h3⟩ := dup (l := (List.range (S.length + 1)).map fun k => it F k x) (S := S) (fun y hy => by
    obtain ⟨k, _, rfl⟩ := List.mem_map.1 hy
    exact it_mem hF k hx) (by simp)
  simp only [List.length_map, List.length_range] at h2
  simp only [List.getElem_map, List.getElem_range] at h3
  exact ⟨a, b, h1, by omega, h3⟩
def Per (F : Int → Int) (x : Int) : Prop := ∃ k, 1 ≤ k ∧ it F k x = x
theorem per_short {F : Int → Int} {S : List Int} (hF : ∀ x ∈ S, F x ∈ S) {x : Int} (hx : x ∈ S) (h : Per F x) : ∃ k, 1 ≤ k ∧ k ≤ S.length ∧ it F k x = x := by
  obtain ⟨k, hk, he⟩ := h
  obtain ⟨a, b, h1, h2, h3⟩ := pigeon hF hx
  have hK := it_mul he a
  have hle : a ≤ a * k := Nat.le_mul_of_pos_right a hk
  refine ⟨b - a, by omega, by omega, ?_⟩
  have e1 : it F (a * k - a) (it F a x) = x := by rw [← it_add, show a * k - a + a = a * k by omega]; exact hK
  have e2 : it F (a * k - a) (it F b x) = it F (b - a) x := by
    rw [← it_add, show a * k - a + b = (b - a) + a * k by omega, it_add, hK]
  rw [← e2, ← h3]; exact e1
theorem per_img {F : Int → Int} {S : List Int} (hF : ∀ x ∈ S, F x ∈ S) {x : Int} : (∃ y ∈ S, it F S.length y = x) ↔ x ∈ S ∧ Per F x := by
  constructor
  · rintro ⟨y, hy, rfl⟩
    obtain ⟨a, b, h1, h2, h3⟩ := pigeon hF hy
    refine ⟨it_mem hF _ hy, b - a, by omega, ?_⟩
    have e : it F S.length y = it F (S.length - a) (it F a y) := by rw [← it_add, show S.length - a + a = S.length by omega]
    rw [← it_add, show b - a + S.length = (S.length - a) + b by omega, it_add, ← h3, ← e]
  · rintro ⟨hx, k, hk, he⟩
    have hle : S.length ≤ S.length * k := Nat.le_mul_of_pos_right _ hk
    refine ⟨it F (S.length * k - S.length) x, it_mem hF _ hx, ?_⟩
    rw [← it_add, show S.length + (S.length * k - S.length) = S.length * k by omega]
    exact it_mul he _
theorem per_ex {F : Int → Int} {S : List Int} (hF : ∀ x ∈ S, F x ∈ S) {x : Int} (hx : x ∈ S) : ∃ y ∈ S, Per F y :=
  ⟨_, (per_img hF).1 ⟨x, hx, rfl⟩⟩
theorem per_next {F : Int → Int} {x : Int} (h : Per F x) : Per F (F x) := by
  obtain ⟨k, hk, he⟩ := h
  refine ⟨k, hk, ?_⟩
  have e1 : it F k (F x) = it F (k + 1) x := by
    have := it_add (F := F) k 1 x
    exact this.symm
  rw [e1]; show F (it F k x) = F x; rw [he]
theorem per_prev {F : Int → Int} {S : List Int} (hF : ∀ x ∈ S, F x ∈ S) {x : Int} (hx : x ∈ S) (h : Per F x) : ∃ y ∈ S, Per F y ∧ F y = x := by
  obtain ⟨k, hk, he⟩ := h
  obtain ⟨j, rfl⟩ : ∃ j, k = j + 1 := ⟨k - 1, by omega⟩
  refine ⟨it F j x, it_mem hF j hx, ⟨j + 1, by omega, ?_⟩, he⟩
  rw [← it_add, show j + 1 + j = j + (j + 1) by omega, it_add, he]
/-- Where the program stands when it has gone on j times. -/
def go1 (F : Int → Int) (i : Int) : Nat → Int
  | 0 => F i
  | j + 1 => if go1 F i j = i then go1 F i j else F (go1 F i j)
theorem go1_back {F : Int → Int} {i : Int} : ∀ j, (∃ k, 1 ≤ k ∧ k ≤ j + 1 ∧ it F k i = i) → go1 F i j = i
  | 0, ⟨k, h1, h2, h3⟩ => by
    have : k = 1 := by omega
    subst this; exact h3
  | j + 1, ⟨k, h1, h2, h3⟩ => by
    unfold go1
    by_cases hj : go1 F i j = i
    · rw [if_pos hj]; exact hj
    · rw [if_neg hj]
      have hno : ∀ k, 1 ≤ k → k ≤ j + 1 → it F k i ≠ i := fun k a b c => hj (go1_back j ⟨k, a, b, c⟩)
      have hk : k = j + 2 := Classical.byContradiction fun hne => hno k h1 (by omega) h3
      have key : ∀ j, (∀ k, 1 ≤ k → k ≤ j + 1 → it F k i ≠ i) → go1 F i j = it F (j + 1) i := fun j => by
        induction j with
        | zero => intro _; rfl
        | succ j ih =>
          intro h
          have ih := ih fun k a b => h k a (by omega)
          unfold go1
          rw [ih, if_neg (h (j + 1) (by omega) (by omega))]; rfl
      rw [key j hno]
      subst hk; exact h3
theorem go1_it {F : Int → Int} {i : Int} : ∀ j, ∃ k, 1 ≤ k ∧ k ≤ j + 1 ∧ go1 F i j = it F k i
  | 0 => ⟨1, by omega, by omega, rfl⟩
  | j + 1 => by
    obtain ⟨k, h1, h2, h3⟩ := go1_it (F := F) (i := i) j
    unfold go1
    by_cases h : go1 F i j = i
    · rw [if_pos h]; exact ⟨k, h1, by omega, h3⟩
    · rw [if_neg h]; exact ⟨k + 1, by omega, by omega, by rw [h3]; rfl⟩
theorem go1_iff {F : Int → Int} {S : List Int} (hF : ∀ x ∈ S, F x ∈ S) {i : Int} (hi : i ∈ S) {n : Nat} (hn : S.length ≤ n + 1) : go1 F i n = i ↔ Per F i := by
  constructor
  · intro h
    obtain ⟨k, h1, _, h3⟩ := go1_it (F := F) (i := i) n
    exact ⟨k, h1, by rw [← h3]; exact h⟩
  · intro h
    obtain ⟨k, h1, h2, h3⟩ := per_short hF hi h
    exact go1_back n ⟨k, h1, by omega, h3⟩
/-! ### images, each once -/
def ddA (F : Int → Int) (nx : List Int) (i : Int) : List Int := if F i ∈ nx then nx else nx ++ [F i]
def dd (F : Int → Int) (r : List Int) : List Int := r.foldl (ddA F) []
theorem dd_take {F : Int → Int} {r : List Int} {j : Nat} (h : j < r.length) : dd F (r.take (j + 1)) = if F r[j] ∈ dd F (r.take j) then dd F (r.take j) else dd F (r.take j) ++ [F r[j]] := by
  unfold dd; rw [List.take_succ_eq_append_getElem h, List.foldl_append]; rfl
theorem ddF {F : Int → Int} : ∀ (r nx : List Int), nx.Nodup → (r.foldl (ddA F) nx).Nodup ∧ (∀ x, x ∈ r.foldl (ddA F) nx ↔ x ∈ nx ∨ ∃ y ∈ r, F y = x) ∧ (r.foldl (ddA F) nx).length ≤ nx.length + r.length
  | [], nx, h => ⟨h, fun x => by simp, by simp⟩
  | i :: r, nx, h => by
    rw [List.foldl_cons]
    by_cases hi : F i ∈ nx
    · obtain ⟨a, b, c⟩ := ddF r nx h
      have e : ddA F nx i = nx := if_pos hi
      rw [e]
      refine ⟨a, fun x => ?_, by simp only [List.length_cons]; omega⟩
      rw [b x]
      constructor
      · rintro (h | ⟨y, hy, rfl⟩)
        · exact .inl h
        · exact .inr ⟨y, List.mem_cons_of_mem _ hy, rfl⟩
      · rintro (h | ⟨y, hy, rfl⟩)
        · exact .inl h
        · rcases List.mem_cons.1 hy with rfl | hy
          · exact .inl hi
          · exact .inr ⟨y, hy, rfl⟩
    · have e : ddA F nx i = nx ++ [F i] := if_neg hi
      have hnd : (nx ++ [F i]).Nodup := List.nodup_append.2 ⟨h, by simp, fun a ha b hb => by rw [List.mem_singleton] at hb; subst hb; intro e; subst e; exact hi ha⟩
      obtain ⟨a, b, c⟩ := ddF r (nx ++ [F i]) hnd
      rw [e]
      refine ⟨a, fun x => ?_, by simp only [List.length_append, List.length_cons, List.length_nil] at *; omega⟩
      rw [b x, List.mem_append, List.mem_singleton]
      constructor
      · rintro ((h | h) | ⟨y, hy, rfl⟩)
        · exact .inl h
        · exact .inr ⟨i, List.mem_cons_self .., h.symm⟩
        · exact .inr ⟨y, List.mem_cons_of_mem _ hy, rfl⟩
      · rintro (h | ⟨y, hy, rfl⟩)
        · exact .inl (.inl h)
        · rcases List.mem_cons.1 hy with rfl | hy
          · exact .inl (.inr rfl)
          · exact .inr ⟨y, hy, rfl⟩
theorem dd_nodup {F : Int → Int} (r : List Int) : (dd F r).Nodup := (ddF r [] List.nodup_nil).1
theorem dd_mem {F : Int → Int} {r : List Int} {x : Int} : x ∈ dd F r ↔ ∃ y ∈ r, F y = x := by
  have := (ddF (F := F) r [] List.nodup_nil).2.1 x
  unfold dd; simpa using this
theorem dd_len {F : Int → Int} (r : List Int) : (dd F r).length ≤ r.length := by
  have := (ddF (F := F) r [] List.nodup_nil).2.2
  unfold dd; simpa using this
def ri (F : Int → Int) (S : List Int) : Nat → List Int
  | 0 => S
  | k + 1 => dd F (ri F S k)
theorem ri_mem {F : Int → Int} {S : List Int} : ∀ k {x}, x ∈ ri F S k ↔ ∃ y ∈ S, it F k y = x
  | 0, x => ⟨fun h => ⟨x, h, rfl⟩, fun ⟨y, hy, e⟩ => by subst e; exact hy⟩
  | k + 1, x => by
    show x ∈ dd F (ri F S k) ↔ _
    rw [dd_mem]
    constructor
    · rintro ⟨z, hz, rfl⟩
      obtain ⟨y, hy, rfl⟩ := (ri_mem k).1 hz
      exact ⟨y, hy, rfl⟩
    · rintro ⟨y, hy, rfl⟩
      exact ⟨_, (ri_mem k).2 ⟨y, hy, rfl⟩, rfl⟩
theorem ri_nodup {F : Int → Int} {S : List Int} (h : S.Nodup) : ∀ k, (ri F S k).Nodup
  | 0 => h
  | k + 1 => dd_nodup _
theorem ri_len {F : Int → Int} {S : List Int} : ∀ k, (ri F S k).length ≤ S.length
  | 0 => Nat.le_refl _
  | k + 1 => Nat.le_trans (dd_len _) (ri_len k)
/-! ### the rounds -/
/-- The best thing that is left. -/
def bF (lk : List (List Int)) (o : Nat → Bool) (x : Int) : Int := ((lk.getD x.toNat []).find? fun y => !(o y.toNat)).getD x
def rgB (lk : List (List Int)) (n : Nat) (o : Nat → Bool) (k : Nat) : Bool := notO o k && decide (go1 (bF lk o) k n = k)
def oN (lk : List (List Int)) (n : Nat) (o : Nat → Bool) (k : Nat) : Bool := o k || rgB lk n o k
def qN (lk : List (List Int)) (o : Nat → Bool) (q : Nat → Int) (k : Nat) : Int := if o k = true then q k else bF lk o k
def ttc (lk : List (List Int)) (n : Nat) : Nat → (Nat → Bool) → (Nat → Int) → List (List Int) → (Nat → Int) × List (List Int)
  | 0, _, q, rs => (q, rs)
  | m + 1, o, q, rs => if (fl n (notO o)).length = 0 then (q, rs) else ttc lk n m (oN lk n o) (qN lk o q) (rs ++ [fl n (rgB lk n o)])
structure LOk (n : Nat) (lk : List (List Int)) : Prop where
  n1 : 1 ≤ n
  n6 : n ≤ 6
  len : lk.length = n
  ok : ∀ p ∈ lk, okO n p
theorem left_mem {n : Nat} {o : Nat → Bool} {x : Int} : x ∈ fl n (notO o) ↔ ∃ k : Nat, x = k ∧ k < n ∧ o k = false := by
  rw [fl_mem]
  constructor
  · rintro ⟨k, a, b, c⟩; exact ⟨k, a, b, by unfold notO at c; simpa using c⟩
  · rintro ⟨k, a, b, c⟩; exact ⟨k, a, b, by unfold notO; simpa using c⟩
theorem perm_all {n : Nat} {p : List Int} (h : okO n p) {k : Nat} (hk : k < n) : (k : Int) ∈ p := by
  have hsub : p ⊆ iota n := fun x hx => iota_mem'.2 (h.1 x hx)
  have := srt_iota (n := n) (p := p) (by have := h.2.2; omega)
  have h2 := this.2 h
  exact (srt_perm p).subset (by rw [h2]; exact iota_mem'.2 ⟨by omega, by omega⟩)
theorem bF_find {n : Nat} {lk : List (List Int)} (h : LOk n lk) {o : Nat → Bool} {w : Nat} (hw : w < n) (how : o w = false) {x : Int} (hx : 0 ≤ x ∧ x < n) :
    (lk.getD x.toNat []).find? (fun y => !(o y.toNat)) = some (bF lk o x) ∧ bF lk o x ∈ fl n (notO o) := by
  have hlt : x.toNat < lk.length := by rw [h.len]; omega
  have hp := h.ok _ (List.getElem_mem hlt)
  have hg : lk.getD x.toNat [] = lk[x.toNat] := by rw [List.getD_eq_getElem?_getD, List.getElem?_eq_getElem hlt]; rfl
  unfold bF
  rw [hg]
  cases hf : lk[x.toNat].find? fun y => !(o y.toNat) with
  | none =>
    have := List.find?_eq_none.1 hf _ (perm_all hp hw)
    rw [Int.toNat_natCast, how] at this
    exact absurd rfl this
  | some y =>
    have hm := List.mem_of_find?_eq_some hf
    have ho := List.find?_some hf
    have hr := hp.1 y hm
    exact ⟨rfl, left_mem.2 ⟨y.toNat, by simp only [Option.getD_some]; omega, by omega, by simpa using ho⟩⟩
theorem left_some {n : Nat} {o : Nat → Bool} (h : (fl n (notO o)).length ≠ 0) : ∃ w, w < n ∧ o w = false := by
  cases e : fl n (notO o) with
  | nil => rw [e] at h; exact absurd rfl h
  | cons x r =>
    have hx : x ∈ fl n (notO o) := by rw [e]; exact List.mem_cons_self ..
    obtain ⟨k, _, h1, h2⟩ := left_mem.1 hx
    exact ⟨k, h1, h2⟩
section
variable {n : Nat} {lk : List (List Int)} {o : Nat → Bool}
theorem bF_left (h : LOk n lk) {x : Int} (hx : x ∈ fl n (notO o)) : bF lk o x ∈ fl n (notO o) := by
  obtain ⟨k, rfl, hk, ho⟩ := left_mem.1 hx
  exact (bF_find h hk ho ⟨by omega, by omega⟩).2
theorem rg_mem (h : LOk n lk) {x : Int} : x ∈ fl n (rgB lk n o) ↔ x ∈ fl n (notO o) ∧ Per (bF lk o) x := by
  have hF : ∀ x ∈ fl n (notO o), bF lk o x ∈ fl n (notO o) := fun x hx => bF_left h hx
  have hn : (fl n (notO o)).length ≤ n + 1 := by have := @fl_len n (notO o); omega
  rw [fl_mem]
  constructor
  · rintro ⟨k, rfl, hk, hb⟩
    unfold rgB at hb
    rw [Bool.and_eq_true, decide_eq_true_eq] at hb
    have hm : (k : Int) ∈ fl n (notO o) := fl_mem.2 ⟨k, rfl, hk, hb.1⟩
    exact ⟨hm, (go1_iff hF hm hn).1 hb.2⟩
  · rintro ⟨hm, hp⟩
    obtain ⟨k, rfl, hk, hb⟩ := fl_mem.1 hm
    refine ⟨k, rfl, hk, ?_⟩
    unfold rgB
    rw [Bool.and_eq_true, decide_eq_true_eq]
    exact ⟨hb, (go1_iff hF hm hn).2 hp⟩
theorem rg_img (h : LOk n lk) : srt (ri (bF lk o) (fl n (notO o)) (fl n (notO o)).length) = fl n (rgB lk n o) := by
  have hF : ∀ x ∈ fl n (notO o), bF lk o x ∈ fl n (notO o) := fun x hx => bF_left h hx
  refine sort_fl (ri_nodup (fl_nodup _ _) _) fun x => ?_
  rw [ri_mem, per_img hF, ← rg_mem h, fl_mem]
theorem rg_some (h : LOk n lk) (hl : (fl n (notO o)).length ≠ 0) : (fl n (rgB lk n o)).length ≠ 0 := by
  obtain ⟨w, hw, how⟩ := left_some hl
  obtain ⟨y, h1, h2⟩ := per_ex (F := bF lk o) (fun x hx => bF_left h hx) (left_mem.2 ⟨w, rfl, hw, how⟩)
  have := (rg_mem h).2 ⟨h1, h2⟩
  intro e
  rw [List.eq_nil_of_length_eq_zero e] at this
  cases this
/-- What those of the ring get is what they had. -/
theorem rg_maps (h : LOk n lk) {x : Nat} (hx : x < n) : ((x : Int) ∈ (fl n (rgB lk n o)).map (bF lk o)) ↔ rgB lk n o x = true := by
  have hF : ∀ x ∈ fl n (notO o), bF lk o x ∈ fl n (notO o) := fun x hx => bF_left h hx
  have e : rgB lk n o x = true ↔ (x : Int) ∈ fl n (rgB lk n o) := by
    rw [fl_mem]
    constructor
    · intro h; exact ⟨x, rfl, hx, h⟩
    · rintro ⟨k, e, _, h⟩
      have : k = x := by omega
      subst this; exact h
  rw [e, rg_mem h, List.mem_map]
  constructor
  · rintro ⟨y, hy, hyx⟩
    obtain ⟨h1, h2⟩ := (rg_mem h).1 hy
    rw [← hyx]
    exact ⟨hF _ h1, per_next h2⟩
  · rintro ⟨h1, h2⟩
    obtain ⟨y, h3, h4, h5⟩ := per_prev hF h1 h2
    exact ⟨y, (rg_mem h).2 ⟨h3, h4⟩, h5⟩
theorem fl_split (f g : Nat → Bool) : ∀ n, (fl n fun k => f k && g k).length + (fl n fun k => f k && !(g k)).length = (fl n f).length
  | 0 => rfl
  | n + 1 => by
    have ih := fl_split f g n
    cases hf : f n with
    | false => rw [fl_no (f := f) hf, fl_no (f := fun k => f k && g k) (by simp only [hf, Bool.false_and]), fl_no (f := fun k => f k && !(g k)) (by simp only [hf, Bool.false_and])]; exact ih
    | true =>
      cases hg : g n with
      | true => rw [fl_yes (f := f) hf, fl_yes (f := fun k => f k && g k) (by simp only [hf, hg]; rfl), fl_no (f := fun k => f k && !(g k)) (by simp only [hf, hg]; rfl)]; simp only [List.length_append, List.length_cons, List.length_nil]; omega
      | false => rw [fl_yes (f := f) hf, fl_no (f := fun k => f k && g k) (by simp only [hf, hg]; rfl), fl_yes (f := fun k => f k && !(g k)) (by simp only [hf, hg]; rfl)]; simp only [List.length_append, List.length_cons, List.length_nil]; omega
theorem left_oN : (fl n (notO (oN lk n o))).length + (fl n (rgB lk n o)).length = (fl n (notO o)).length := by
  have := fl_split (notO o) (fun k => decide (go1 (bF lk o) k n = k)) n
  rw [← this, Nat.add_comm]
  congr 1
  refine congrArg List.length (fl_congr fun k _ => ?_)
  unfold notO oN rgB notO
  cases o k <;> simp
theorem left_filter : ((fl n (notO o)).filter fun x => !(decide (x ∈ fl n (rgB lk n o)))) = fl n (notO (oN lk n o)) := by
  rw [fl_filter]
  refine fl_congr fun k hk => ?_
  have e : decide ((k : Int) ∈ fl n (rgB lk n o)) = rgB lk n o k := by
    rw [Bool.eq_iff_iff, decide_eq_true_eq, fl_mem]
    constructor
    · rintro ⟨j, e, _, h⟩
      have : j = k := by omega
      subst this; exact h
    · intro h; exact ⟨k, rfl, hk, h⟩
  rw [e]
  unfold notO oN
  cases o k <;> simp
end
end Go.Proofs.Ytohgcgedbhlnfaa
