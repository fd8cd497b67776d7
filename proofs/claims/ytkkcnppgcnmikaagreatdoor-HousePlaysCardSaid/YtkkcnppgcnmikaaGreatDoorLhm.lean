/- Check sums: two ways of reckoning them, bit by bit; frames; and where a scan goes. No program in sight. -/
import Derived.Test.YtkkcnppgcnmikaaGreatDoorFrm
import Derived.Test.YtkkcnppgcnmikaaGreatDoorTam
namespace Go.Proofs.YtkkcnppgcnmikaaGreatDoor
open Go FM
set_option linter.all false
/-- One step of the program's way. -/
def st1 (y : Nat) : Nat := if shr y 15 = 1 then sl16 y 1 ^^^ 4129 else sl16 y 1
def st1s (y : Nat) : Nat → Nat
  | 0 => y
  | j + 1 => st1 (st1s y j)
/-- One step of the reference's way, at bit i. -/
def st2 (c x i : Nat) : Nat := if x / 32768 ^^^ (shr c i % 2) = 1 then (x * 2 % 65536) ^^^ 4129 else x * 2 % 65536
def st2s (c x : Nat) : Nat → Nat
  | 0 => x
  | j + 1 => st2 c (st2s c x j) (7 - j)
theorem shl_xor {a b : Nat} : (a ^^^ b) * 2 % 65536 = (a * 2 % 65536) ^^^ (b * 2 % 65536) := by
  have h1 : (a ^^^ b) * 2 = a * 2 ^^^ b * 2 := by
    have := Nat.shiftLeft_xor_distrib (a := a) (b := b) (i := 1)
    simpa [Nat.shiftLeft_eq] using this
  have h2 := Nat.xor_mod_two_pow (a := a * 2) (b := b * 2) (n := 16)
  rw [h1]; exact h2
theorem st2_lt {c x i : Nat} : st2 c x i < 65536 := by
  unfold st2; split
  · exact xor_u16 (by omega) (by omega)
  · omega
theorem st1_lt {y : Nat} : st1 y < 65536 := by
  unfold st1; split
  · exact xor_u16 (sl16_lt _ _) (by decide)
  · exact sl16_lt _ _
theorem st2s_lt {c x : Nat} (h : x < 65536) : ∀ j, st2s c x j < 65536
  | 0 => h
  | j + 1 => st2_lt
theorem st1s_lt {y : Nat} (h : y < 65536) : ∀ j, st1s y j < 65536
  | 0 => h
  | j + 1 => st1_lt
theorem top_bit : ∀ c, c < 256 → ∀ j, j < 8 → (c * 2 ^ (8 + j) % 65536) / 2 ^ 15 = c / 2 ^ (7 - j) % 2 ∧ (c * 2 ^ (8 + j) % 65536) * 2 % 65536 = c * 2 ^ (9 + j) % 65536 := by decide +kernel
theorem st_both {c x : Nat} (hc : c < 256) (hx : x < 65536) : ∀ j, j ≤ 8 → st1s (x ^^^ sl16 c 8) j = st2s c x j ^^^ (c * 2 ^ (8 + j) % 65536)
  | 0, _ => rfl
  | j + 1, hj => by
    have ih := st_both hc hx j (by omega)
    obtain ⟨t1, t2⟩ := top_bit c hc j (by omega)
    have hlt := st2s_lt (c := c) hx j
    show st1 (st1s _ j) = st2 c (st2s c x j) (7 - j) ^^^ _
    rw [ih]
    generalize st2s c x j = X at *
    generalize c * 2 ^ (8 + j) % 65536 = C at *
    have e1 : (X ^^^ C) / 2 ^ 15 = X / 32768 ^^^ (c / 2 ^ (7 - j) % 2) := by rw [Nat.xor_div_two_pow, t1]
    have e2 : (X ^^^ C) * 2 ^ 1 % 65536 = (X * 2 % 65536) ^^^ (c * 2 ^ (8 + (j + 1)) % 65536) := by
      rw [Nat.pow_one, shl_xor, t2, show 9 + j = 8 + (j + 1) by omega]
    unfold st1 st2 shr sl16
    rw [e1, e2]
    split
    · rw [Nat.xor_assoc, Nat.xor_comm (c * 2 ^ (8 + (j + 1)) % 65536), ← Nat.xor_assoc]
    · rfl
theorem st_eq {c x : Nat} (hc : c < 256) (hx : x < 65536) : st1s (x ^^^ sl16 c 8) 8 = st2s c x 8 := by
  rw [st_both hc hx 8 (Nat.le_refl _)]
  have : c * 2 ^ (8 + 8) % 65536 = 0 := by omega
  rw [this, Nat.xor_zero]
/-- The sum. -/
def crc (s : List UInt8) : Nat := s.foldl (fun x c => st2s c.toNat x 8) 65535
theorem crc_lt (s : List UInt8) : crc s < 65536 := by
  unfold crc
  have : ∀ (s : List UInt8) x, x < 65536 → s.foldl (fun x c => st2s c.toNat x 8) x < 65536 := fun s => by
    induction s with
    | nil => intro x h; exact h
    | cons c s ih => intro x h; exact ih _ (st2s_lt h 8)
  exact this s _ (by decide)
theorem crc_take {s : List UInt8} {k : Nat} (h : k < s.length) : crc (s.take (k + 1)) = st2s s[k].toNat (crc (s.take k)) 8 := by
  unfold crc; rw [List.take_succ_eq_append_getElem h, List.foldl_append]; rfl
theorem crc_take1 {s : List UInt8} {k : Nat} (h : k < s.length) : crc (s.take (k + 1)) = st1s (crc (s.take k) ^^^ sl16 s[k].toNat 8) 8 := by
  rw [crc_take h, st_eq s[k].toNat_lt (crc_lt _)]
/-- A frame. -/
def body (rec : List UInt8) : List UInt8 := [UInt8.ofNat (rec.length % 256)] ++ rec
def hiB (x : Nat) : UInt8 := UInt8.ofNat (x / 256 % 256)
def loB (x : Nat) : UInt8 := UInt8.ofNat (x % 256)
def frm (rec : List UInt8) : List UInt8 := body rec ++ [hiB (crc (body rec)), loB (crc (body rec))]
theorem frm_length (rec : List UInt8) : (frm rec).length = rec.length + 3 := by simp [frm, body]
/-- The record that a text begins with. -/
def nx : List UInt8 → Option (List UInt8)
  | [] => none
  | b :: r => if 64 < b.toNat ∨ r.length < b.toNat + 2 then none else if frm (r.take b.toNat) = (b :: r).take (b.toNat + 3) then some (r.take b.toNat) else none
theorem nx_cons (b : UInt8) (r : List UInt8) : nx (b :: r) = if 64 < b.toNat ∨ r.length < b.toNat + 2 then none else if frm (r.take b.toNat) = (b :: r).take (b.toNat + 3) then some (r.take b.toNat) else none := rfl
theorem nx_some {s rec : List UInt8} (h : nx s = some rec) : rec.length ≤ 64 ∧ rec.length + 3 ≤ s.length ∧ s.take (rec.length + 3) = frm rec := by
  cases s with
  | nil => cases h
  | cons b r =>
    rw [nx_cons] at h
    split at h
    · cases h
    · split at h
      · rename_i h1 h2
        injection h with h
        subst h
        have hl : (r.take b.toNat).length = b.toNat := by rw [List.length_take]; omega
        rw [hl, List.length_cons]
        exact ⟨by omega, by omega, h2.symm⟩
      · cases h
def scn : Nat → List UInt8 → List (List UInt8) × Nat
  | 0, _ => ([], 0)
  | f + 1, s => match nx s with
    | none => ([], 0)
    | some rec => (rec :: (scn f (s.drop (rec.length + 3))).1, (scn f (s.drop (rec.length + 3))).2 + (rec.length + 3))
abbrev scan (s : List UInt8) : List (List UInt8) × Nat := scn s.length s
theorem scn_fuel : ∀ (f g : Nat) (s : List UInt8), s.length ≤ f → s.length ≤ g → scn f s = scn g s
  | 0, 0, _, _, _ => rfl
  | 0, g + 1, s, h, _ => by
    have : s = [] := List.eq_nil_of_length_eq_zero (by omega)
    subst this; rfl
  | f + 1, 0, s, _, h => by
    have : s = [] := List.eq_nil_of_length_eq_zero (by omega)
    subst this; rfl
  | f + 1, g + 1, s, h1, h2 => by
    unfold scn
    cases h : nx s with
    | none => rfl
    | some rec =>
      have := nx_some h
      simp only
      rw [scn_fuel f g (s.drop (rec.length + 3)) (by rw [List.length_drop]; omega) (by rw [List.length_drop]; omega)]
theorem scan_none {s : List UInt8} (h : nx s = none) : scan s = ([], 0) := by
  unfold scan
  cases hs : s.length with
  | zero => rfl
  | succ n => unfold scn; rw [h]
theorem scan_some {s rec : List UInt8} (h : nx s = some rec) : scan s = (rec :: (scan (s.drop (rec.length + 3))).1, (scan (s.drop (rec.length + 3))).2 + (rec.length + 3)) := by
  have h1 := nx_some h
  unfold scan
  cases hs : s.length with
  | zero => omega
  | succ n =>
    rw [scn, h]
    simp only
    rw [scn_fuel n (s.drop (rec.length + 3)).length _ (by rw [List.length_drop]; omega) (Nat.le_refl _)]
theorem scan_le : ∀ (n : Nat) (s : List UInt8), s.length ≤ n → (scan s).2 ≤ s.length
  | 0, s, h => by
    have : s = [] := List.eq_nil_of_length_eq_zero (by omega)
    subst this; exact Nat.le_refl _
  | n + 1, s, h => by
    cases hn : nx s with
    | none => rw [scan_none hn]; exact Nat.zero_le _
    | some rec =>
      have h1 := nx_some hn
      have ih := scan_le n (s.drop (rec.length + 3)) (by rw [List.length_drop]; omega)
      rw [scan_some hn]
      rw [List.length_drop] at ih
      simp only; omega
/-- The test as the program makes it. -/
theorem nx_test {s : List UInt8} {b : UInt8} {p q : UInt8} (h0 : s[0]? = some b) (h1 : ¬ 64 < b.toNat) (h2 : b.toNat + 3 ≤ s.length) (hp : s[b.toNat + 1]? = some p) (hq : s[b.toNat + 2]? = some q) :
    (p = hiB (crc (s.take (b.toNat + 1))) ∧ q = loB (crc (s.take (b.toNat + 1))) → nx s = some ((s.take (b.toNat + 1)).drop 1)) ∧ (¬ (p = hiB (crc (s.take (b.toNat + 1))) ∧ q = loB (crc (s.take (b.toNat + 1)))) → nx s = none) := by
  cases s with
  | nil => cases h0
  | cons b' r =>
    simp only [List.getElem?_cons_zero, Option.some.injEq] at h0
    subst h0
    rw [List.length_cons] at h2
    rw [List.getElem?_cons_succ] at hp hq
    have hl : (r.take b'.toNat).length = b'.toNat := by rw [List.length_take]; omega
    have hb : body (r.take b'.toNat) = (b' :: r).take (b'.toNat + 1) := by
      unfold body
      rw [hl, List.take_succ_cons]
      have : UInt8.ofNat (b'.toNat % 256) = b' := by rw [Nat.mod_eq_of_lt b'.toNat_lt]; exact UInt8.ofNat_toNat
      rw [this]; rfl
    have ht : (b' :: r).take (b'.toNat + 3) = (b' :: r).take (b'.toNat + 1) ++ [p, q] := by
      rw [show b'.toNat + 3 = b'.toNat + 2 + 1 by omega, List.take_succ_cons, List.take_succ_cons]
      have e1 : r.take (b'.toNat + 1) = r.take b'.toNat ++ [p] := by rw [List.take_succ, hp]; rfl
      have e2 : r.take (b'.toNat + 1 + 1) = r.take (b'.toNat + 1) ++ [q] := by rw [List.take_succ, hq]; rfl
      rw [show b'.toNat + 2 = b'.toNat + 1 + 1 by omega, e2, e1]
      simp
    have hd : ((b' :: r).take (b'.toNat + 1)).drop 1 = r.take b'.toNat := by rw [List.take_succ_cons]; rfl
    have hiff : frm (r.take b'.toNat) = (b' :: r).take (b'.toNat + 3) ↔ (p = hiB (crc ((b' :: r).take (b'.toNat + 1))) ∧ q = loB (crc ((b' :: r).take (b'.toNat + 1)))) := by
      unfold frm
      rw [hb, ht, List.append_cancel_left_eq]
      constructor
      · intro h; injection h with h1 h2; injection h2 with h2 _; exact ⟨h1.symm, h2.symm⟩
      · rintro ⟨rfl, rfl⟩; rfl
    rw [nx_cons, if_neg (by omega)]
    constructor
    · intro h; rw [if_pos (hiff.2 h), hd]
    · intro h; rw [if_neg (fun e => h (hiff.1 e))]
end Go.Proofs.YtkkcnppgcnmikaaGreatDoor

/- Check sums, walked. -/
namespace Go.Proofs.YtkkcnppgcnmikaaGreatDoor
open Go FM
set_option maxRecDepth 10000
set_option maxHeartbeats 1600000
set_option linter.all false
theorem logSum_spec (s : List UInt8) (hl : s.length ≤ 9223372036854775807) : FnSpec Sy.P 131 [.str s] [.str s] (u16 (crc s)) := by
  refine FnSpec.enter (S := Sy) 0 Tryz.func131 rfl rfl rfl Tryz.ntmps131 rfl rfl rfl rfl fun v0 => ?_
  (repeat' (first | refine w9x ?_ | (refine w9c ?_ ?_ <;> intro _ <;> try exact w9o) | (refine w9d ?_ ?_ <;> intro _ <;> try exact w9s) | (refine w9q ?_; intro bnil hbnil)))
  refine CW.loop (fun k : Nat => [(0, .av (.str s)), (3, .av (u16 (crc (s.take k)))), (7, .av (.sl false 1 (s.map b8))), (8, .av (.int (s.length))), (9, .av (.int (k)))]) (fun k => k ≤ s.length) (fun k => s.length - k) (0) ?_ (by exact w9a) ?_
  · exact Nat.zero_le _
  intro k hk
  have hx := crc_lt (s.take k)
  by_cases hlt : k < s.length
  · have hg : s[k]? = some s[k] := List.getElem?_eq_getElem hlt
    have ht := crc_take1 hlt
    have hc := s[k].toNat_lt
    have hm := sl16_lt s[k].toNat 8
    generalize s[k] = c at *
    generalize crc (s.take k) = x at *
    (repeat' (first | refine w9x ?_ | (refine w9c ?_ ?_ <;> intro _ <;> try exact w9o) | (refine w9d ?_ ?_ <;> intro _ <;> try exact w9s) | (refine w9q ?_; intro bnil hbnil)))
    have hy := xor_u16 hx hm
    generalize x ^^^ sl16 c.toNat 8 = y at *
    refine CW.loop (fun j : Nat => [(0, .av (.str s)), (3, .av (u16 (st1s y j))), (7, .av (.sl false 1 (s.map b8))), (8, .av (.int (s.length))), (9, .av (.int (k))), (18, .av (.int (j)))]) (fun j => j ≤ 8) (fun j => 8 - j) (0) ?_ (by exact w9a) ?_
    · exact Nat.zero_le _
    intro j hj
    by_cases hj8 : j < 8
    · have hz := st1s_lt hy j
      have hs : st1s y (j + 1) = st1 (st1s y j) := rfl
      generalize st1s y j = z at *
      have hm2 := sl16_lt z 1
      by_cases ht : shr z 15 = 1
      · unfold st1 at hs
        rw [if_pos ht] at hs
        (repeat' (first | refine w9x ?_ | (refine w9c ?_ ?_ <;> intro _ <;> try exact w9o) | (refine w9d ?_ ?_ <;> intro _ <;> try exact w9s) | (refine w9q ?_; intro bnil hbnil)))
        all_goals first | (exfalso; omega) | skip
        refine ⟨j+1, ?_, by first | omega | (simp only; omega), by (repeat' (first | exact trivial | rfl | refine And.intro ?_ ?_ | exact int_congr (by omega) | exact int_congr (by dsimp only; omega) | exact ints_congr (by first | assumption | exact Eq.symm (by assumption)) | exact int_congr (by assumption) | exact bool_congr (by first | assumption | exact Eq.symm (by assumption)) | exact map_congr' (by first | assumption | exact Eq.symm (by assumption)) | (rw [hs])))⟩
        omega
      · unfold st1 at hs
        rw [if_neg ht] at hs
        (repeat' (first | refine w9x ?_ | (refine w9c ?_ ?_ <;> intro _ <;> try exact w9o) | (refine w9d ?_ ?_ <;> intro _ <;> try exact w9s) | (refine w9q ?_; intro bnil hbnil)))
        all_goals first | (exfalso; omega) | skip
        refine ⟨j+1, ?_, by first | omega | (simp only; omega), by (repeat' (first | exact trivial | rfl | refine And.intro ?_ ?_ | exact int_congr (by omega) | exact int_congr (by dsimp only; omega) | exact ints_congr (by first | assumption | exact Eq.symm (by assumption)) | exact int_congr (by assumption) | exact bool_congr (by first | assumption | exact Eq.symm (by assumption)) | exact map_congr' (by first | assumption | exact Eq.symm (by assumption)) | (rw [hs])))⟩
        omega
    · obtain rfl : j = 8 := by omega
      rw [← ht]
      (repeat' (first | refine w9x ?_ | (refine w9c ?_ ?_ <;> intro _ <;> try exact w9o) | (refine w9d ?_ ?_ <;> intro _ <;> try exact w9s) | (refine w9q ?_; intro bnil hbnil)))
      refine ⟨k+1, ?_, by first | omega | (simp only; omega), by exact w9a⟩
      omega
  · obtain rfl : k = s.length := by omega
    rw [List.take_length]
    (repeat' (first | refine w9x ?_ | (refine w9c ?_ ?_ <;> intro _ <;> try exact w9o) | (refine w9d ?_ ?_ <;> intro _ <;> try exact w9s) | (refine w9q ?_; intro bnil hbnil)))
    exact .mk rfl rfl rfl
section
variable {S : FM.Sys} {σ : FM.St} {d ty t t2 a : Nat} {pos : String} {aft : Array Edge} {g : Option (Nat × Bool)} {x y : Operand}
theorem s_quo32768 (hx : ov σ x = .av (.int (a : Int))) (hy : ov σ y = .av (.int 32768)) (ha : a < 65536) : Step S ⟨some d, .binOp .quo t x y t2, ty, pos, aft, g⟩ σ (σ.put d (.av (.int ((a / 32768 : Nat) : Int)))) := by
  have e : Int.tdiv (a : Int) 32768 = ((a / 32768 : Nat) : Int) := rfl
  have := s_quo (S := S) (d := d) (ty := ty) (t := t) (t2 := t2) (pos := pos) (aft := aft) (g := g) hx hy (by decide) (by rw [e]; exact InR.mk (by omega))
  rwa [e] at this
theorem s_mulN2 (hx : ov σ x = .av (.int (a : Int))) (hy : ov σ y = .av (.int 2)) (ha : a < 65536) : Step S ⟨some d, .binOp .mul t x y t2, ty, pos, aft, g⟩ σ (σ.put d (.av (.int ((a * 2 : Nat) : Int)))) := by
  have := s_mul (S := S) (d := d) (ty := ty) (t := t) (t2 := t2) (pos := pos) (aft := aft) (g := g) hx hy (InR.mk (by omega))
  rwa [show (a : Int) * 2 = ((a * 2 : Nat) : Int) by omega] at this
theorem s_rem65536 (hx : ov σ x = .av (.int (a : Int))) (hy : ov σ y = .av (.int 65536)) : Step S ⟨some d, .binOp .rem t x y t2, ty, pos, aft, g⟩ σ (σ.put d (.av (.int ((a % 65536 : Nat) : Int)))) := by
  have e : Int.tmod (a : Int) 65536 = ((a % 65536 : Nat) : Int) := rfl
  have := s_rem (S := S) (d := d) (ty := ty) (t := t) (t2 := t2) (pos := pos) (aft := aft) (g := g) hx hy (by decide)
  rwa [e] at this
theorem s_xor4129 (hx : ov σ x = .av (.int (a : Int))) (hy : ov σ y = .av (.int 4129)) (ha : a < 65536) : Step S ⟨some d, .binOp .xor t x y t2, ty, pos, aft, g⟩ σ (σ.put d (.av (.int ((a ^^^ 4129 : Nat) : Int)))) :=
  s_xorN (b := 4129) hx hy (InR.mk (by omega)) (InR.mk (by omega))
end
theorem sumOf_spec (s : List UInt8) (hl : s.length ≤ 9223372036854775807) : FnSpec Sy.P 139 [.str s] [.str s] (u16 (crc s)) := by
  refine FnSpec.enter (S := Sy) 0 Tryz.func139 rfl rfl rfl Tryz.ntmps139 rfl rfl rfl rfl fun v0 => ?_
  (repeat' (first | refine w9x ?_ | (refine w9c ?_ ?_ <;> intro _ <;> try exact w9o) | (refine w9d ?_ ?_ <;> intro _ <;> try exact w9s) | (refine w9q ?_; intro bnil hbnil)))
  refine CW.loop (fun k : Nat => [(0, .av (.str s)), (3, .av (.int (((crc (s.take k) : Nat) : Int)))), (8, .av (.int (s.length))), (9, .av (.int (k)))]) (fun k => k ≤ s.length) (fun k => s.length - k) (0) ?_ (by exact w9a) ?_
  · exact Nat.zero_le _
  intro k hk
  have hx := crc_lt (s.take k)
  by_cases hlt : k < s.length
  · have hg : s[k]? = some s[k] := List.getElem?_eq_getElem hlt
    have ht := crc_take hlt
    have hc := s[k].toNat_lt
    generalize s[k] = c at *
    generalize crc (s.take k) = x at *
    (repeat' (first | refine w9x ?_ | (refine w9c ?_ ?_ <;> intro _ <;> try exact w9o) | (refine w9d ?_ ?_ <;> intro _ <;> try exact w9s) | (refine w9q ?_; intro bnil hbnil)))
    refine CW.loop (fun j : Nat => [(0, .av (.str s)), (3, .av (.int (((st2s c.toNat x j : Nat) : Int)))), (4, .av (.int (k))), (5, .av (.int (7 - (j : Int)))), (8, .av (.int (s.length))), (9, .av (.int (k)))]) (fun j => j ≤ 8) (fun j => 8 - j) (0) ?_ (by exact w9a) ?_
    · exact Nat.zero_le _
    intro j hj
    by_cases hj8 : j < 8
    · have hz := st2s_lt (c := c.toNat) hx j
      have hs : st2s c.toNat x (j + 1) = st2 c.toNat (st2s c.toNat x j) (7 - j) := rfl
      generalize st2s c.toNat x j = z at *
      obtain ⟨m, hm⟩ : ∃ m, m = 7 - j := ⟨_, rfl⟩
      rw [← hm] at hs
      rw [show (7 : Int) - (j : Int) = (m : Int) by omega]
      have hbit : shr c.toNat m % 2 < 2 := Nat.mod_lt _ (by decide)
      have hc2 := shr_le c.toNat m
      have hmz : z * 2 % 65536 < 65536 := Nat.mod_lt _ (by decide)
      unfold st2 at hs
      by_cases ht2 : z / 32768 ^^^ (shr c.toNat m % 2) = 1
      · rw [if_pos ht2] at hs
        (repeat' (first | ((with_reducible apply J.step); rfl; (exact s_quo32768 rfl rfl hz)) | ((with_reducible apply J.step); rfl; (exact s_mulN2 rfl rfl hz)) | ((with_reducible apply J.step); rfl; (exact s_rem65536 rfl rfl)) | ((with_reducible apply J.step); rfl; (exact s_xor4129 rfl rfl hmz)) | refine w9x ?_ | (refine w9c ?_ ?_ <;> intro _ <;> try exact w9o) | (refine w9d ?_ ?_ <;> intro _ <;> try exact w9s) | (refine w9q ?_; intro bnil hbnil)))
        all_goals first | (exfalso; omega) | skip
        refine ⟨j+1, ?_, by first | omega | (simp only; omega), by (repeat' (first | exact trivial | rfl | refine And.intro ?_ ?_ | exact int_congr (by omega) | exact int_congr (by dsimp only; omega) | exact ints_congr (by first | assumption | exact Eq.symm (by assumption)) | exact int_congr (by assumption) | exact bool_congr (by first | assumption | exact Eq.symm (by assumption)) | exact map_congr' (by first | assumption | exact Eq.symm (by assumption)) | (rw [hs])))⟩
        omega
      · rw [if_neg ht2] at hs
        (repeat' (first | ((with_reducible apply J.step); rfl; (exact s_quo32768 rfl rfl hz)) | ((with_reducible apply J.step); rfl; (exact s_mulN2 rfl rfl hz)) | ((with_reducible apply J.step); rfl; (exact s_rem65536 rfl rfl)) | ((with_reducible apply J.step); rfl; (exact s_xor4129 rfl rfl hmz)) | refine w9x ?_ | (refine w9c ?_ ?_ <;> intro _ <;> try exact w9o) | (refine w9d ?_ ?_ <;> intro _ <;> try exact w9s) | (refine w9q ?_; intro bnil hbnil)))
        all_goals first | (exfalso; omega) | skip
        refine ⟨j+1, ?_, by first | omega | (simp only; omega), by (repeat' (first | exact trivial | rfl | refine And.intro ?_ ?_ | exact int_congr (by omega) | exact int_congr (by dsimp only; omega) | exact ints_congr (by first | assumption | exact Eq.symm (by assumption)) | exact int_congr (by assumption) | exact bool_congr (by first | assumption | exact Eq.symm (by assumption)) | exact map_congr' (by first | assumption | exact Eq.symm (by assumption)) | (rw [hs])))⟩
        omega
    · obtain rfl : j = 8 := by omega
      rw [← ht]
      (repeat' (first | refine w9x ?_ | (refine w9c ?_ ?_ <;> intro _ <;> try exact w9o) | (refine w9d ?_ ?_ <;> intro _ <;> try exact w9s) | (refine w9q ?_; intro bnil hbnil)))
      refine ⟨k+1, ?_, by first | omega | (simp only; omega), by exact w9a⟩
      omega
  · obtain rfl : k = s.length := by omega
    rw [List.take_length]
    have hcl := crc_lt s
    generalize crc s = x at *
    (repeat' (first | refine w9x ?_ | (refine w9c ?_ ?_ <;> intro _ <;> try exact w9o) | (refine w9d ?_ ?_ <;> intro _ <;> try exact w9s) | (refine w9q ?_; intro bnil hbnil)))
    exact .mk rfl (by rw [Nat.mod_eq_of_lt hcl]; rfl) rfl
theorem logFrame_spec (rec : List UInt8) (hl : rec.length ≤ 9223372036854775807) : FnSpec Sy.P 124 [.str rec] [.str rec] (if 64 < rec.length then .tup [.str [], .int 2] else .tup [.str (frm rec), .int 0]) := by
  refine FnSpec.enter (S := Sy) 0 Tryz.func124 rfl rfl rfl Tryz.ntmps124 rfl rfl rfl rfl fun v0 => ?_
  by_cases h : 64 < rec.length
  · rw [if_pos h]
    (repeat' (first | refine w9x ?_ | (refine w9c ?_ ?_ <;> intro _ <;> try exact w9o) | (refine w9d ?_ ?_ <;> intro _ <;> try exact w9s) | (refine w9q ?_; intro bnil hbnil)))
    exact .mk rfl rfl rfl
  · rw [if_neg h]
    have hb : (body rec).length = rec.length + 1 := by simp [body]
    have hS := logSum_spec (body rec) (by omega)
    have hx := crc_lt (body rec)
    have hf : frm rec = body rec ++ [UInt8.ofNat (shr (crc (body rec)) 8 % 256), UInt8.ofNat (crc (body rec) % 256)] := rfl
    rw [hf]
    have hb2 : [UInt8.ofNat (rec.length % 256)] ++ rec = body rec := rfl
    generalize crc (body rec) = x at *
    (repeat' (first | refine w9x ?_ | refine w9p (hS) ?_ | (refine w9c ?_ ?_ <;> intro _ <;> try exact w9o) | (refine w9d ?_ ?_ <;> intro _ <;> try exact w9s) | (refine w9q ?_; intro bnil hbnil)))
    exact .mk rfl rfl rfl
theorem frameOf_spec (rec : List UInt8) (hl : rec.length ≤ 1000000) : FnSpec Sy.P 81 [.str rec] [.str rec] (.str (frm rec)) := by
  refine FnSpec.enter (S := Sy) 0 Tryz.func81 rfl rfl rfl Tryz.ntmps81 rfl rfl rfl rfl fun v0 => ?_
  have hb : (body rec).length = rec.length + 1 := by simp [body]
  have hS := sumOf_spec (body rec) (by omega)
  have hx := crc_lt (body rec)
  have hf : frm rec = body rec ++ [UInt8.ofNat (crc (body rec) / 256 % 256), UInt8.ofNat (crc (body rec) % 256 % 256)] := by rw [Nat.mod_mod]; rfl
  rw [hf]
  generalize crc (body rec) = x at *
  (repeat' (first | refine w9x ?_ | refine w9p (hS) ?_ | (refine w9c ?_ ?_ <;> intro _ <;> try exact w9o) | (refine w9d ?_ ?_ <;> intro _ <;> try exact w9s) | (refine w9q ?_; intro bnil hbnil)))
  exact .mk rfl rfl rfl
end Go.Proofs.YtkkcnppgcnmikaaGreatDoor
