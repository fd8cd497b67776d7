/- Check sums: two ways of reckoning them, bit by bit; frames; and where a scan goes. No program in sight. -/
import Derived.Test.YtkkcnppgcnmikaaGreatDoorFrnm
namespace Go.Proofs.YtkkcnppgcnmikaaGreatDoor
open Go FM
set_option linter.all false
/-- One step of the program's way. -/
def st1 (y : Nat) : Nat := if shr y 15 = 1 then sl16 y 1 ^^^ 4129 else sl16 y 1
def st1s (y : Nat) : Nat → Nat
  | 0 => y
  | j + 1 => st1 (st1s y j)
/-- One step of the reference's way, at bit i. -/
def st2 (c x i : Nat) : Nat := if x / 32768 ^^^ (shr c i % 2) = 1 then (x * 2 % 65536) ^^^ 4129 else x * 2 % 65536
def st2s (c x : Nat) : Nat → Nat
  | 0 => x
  | j + 1 => st2 c (st2s c x j) (7 - j)
theorem shl_xor {a b : Nat} : (a ^^^ b) * 2 % 65536 = (a * 2 % 65536) ^^^ (b * 2 % 65536) := by
  have h1 : (a ^^^ b) * 2 = a * 2 ^^^ b * 2 := by
    have := Nat.shiftLeft_xor_distrib (a := a) (b := b) (i := 1)
    simpa [Nat.shiftLeft_eq] using this
  have h2 := Nat.xor_mod_two_pow (a := a * 2) (b := b * 2) (n := 16)
  rw [h1]; exact h2
theorem st2_lt {c x i : Nat} : st2 c x i < 65536 := by
  unfold st2; split
  · exact xor_u16 (by omega) (by omega)
  · omega
theorem st1_lt {y : Nat} : st1 y < 65536 := by
  unfold st1; split
  · exact xor_u16 (sl16_lt _ _) (by decide)
  · exact sl16_lt _ _
theorem st2s_lt {c x : Nat} (h : x < 65536) : ∀ j, st2s c x j < 65536
  | 0 => h
  | j + 1 => st2_lt
theorem st1s_lt {y : Nat} (h : y < 65536) : ∀ j, st1s y j < 65536
  | 0 => h
  | j + 1 => st1_lt
theorem top_bit : ∀ c, c < 256 → ∀ j, j < 8 → (c * 2 ^ (8 + j) % 65536) / 2 ^ 15 = c / 2 ^ (7 - j) % 2 ∧ (c * 2 ^ (8 + j) % 65536) * 2 % 65536 = c * 2 ^ (9 + j) % 65536 := by decide +kernel
theorem st_both {c x : Nat} (hc : c < 256) (hx : x < 65536) : ∀ j, j ≤ 8 → st1s (x ^^^ sl16 c 8) j = st2s c x j ^^^ (c * 2 ^ (8 + j) % 65536)
  | 0, _ => rfl
  | j + 1, hj => by
    have ih := st_both hc hx j (by omega)
    obtain ⟨t1, t2⟩ := top_bit c hc j (by omega)
    have hlt := st2s_lt (c := c) hx j
    show st1 (st1s _ j) = st2 c (st2s c x j) (7 - j) ^^^ _
    rw [ih]
    generalize st2s c x j = X at *
    generalize c * 2 ^ (8 + j) % 65536 = C at *
    have e1 : (X ^^^ C) / 2 ^ 15 = X / 32768 ^^^ (c / 2 ^ (7 - j) % 2) := by rw [Nat.xor_div_two_pow, t1]
    have e2 : (X ^^^ C) * 2 ^ 1 % 65536 = (X * 2 % 65536) ^^^ (c * 2 ^ (8 + (j + 1)) % 65536) := by
      rw [Nat.pow_one, shl_xor, t2, show 9 + j = 8 + (j + 1) by omega]
    unfold st1 st2 shr sl16
    rw [e1, e2]
    split
    · rw [Nat.xor_assoc, Nat.xor_comm (c * 2 ^ (8 + (j + 1)) % 65536), ← Nat.xor_assoc]
    · rfl
theorem st_eq {c x : Nat} (hc : c < 256) (hx : x < 65536) : st1s (x ^^^ sl16 c 8) 8 = st2s c x 8 := by
  rw [st_both hc hx 8 (Nat.le_refl _)]
  have : c * 2 ^ (8 + 8) % 65536 = 0 := by omega
  rw [this, Nat.xor_zero]
/-- The sum. -/
def crc (s : List UInt8) : Nat := s.foldl (fun x c => st2s c.toNat x 8) 65535
theorem crc_lt (s : List UInt8) : crc s < 65536 := by
  unfold crc
  have : ∀ (s : List UInt8) x, x < 65536 → s.foldl (fun x c => st2s c.toNat x 8) x < 65536 := fun s => by
    induction s with
    | nil => intro x h; exact h
    | cons c s ih => intro x h; exact ih _ (st2s_lt h 8)
  exact this s _ (by decide)
theorem crc_take {s : List UInt8} {k : Nat} (h : k < s.length) : crc (s.take (k + 1)) = st2s s[k].toNat (crc (s.take k)) 8 := by
  unfold crc; rw [List.take_succ_eq_append_getElem h, List.foldl_append]; rfl
theorem crc_take1 {s : List UInt8} {k : Nat} (h : k < s.length) : crc (s.take (k + 1)) = st1s (crc (s.take k) ^^^ sl16 s[k].toNat 8) 8 := by
  rw [crc_take h, st_eq s[k].toNat_lt (crc_lt _)]
/-- A frame. -/
def body (rec : List UInt8) : List UInt8 := [UInt8.ofNat (rec.length % 256)] ++ rec
def hiB (x : Nat) : UInt8 := UInt8.ofNat (x / 256 % 256)
def loB (x : Nat) : UInt8 := UInt8.ofNat (x % 256)
def frm (rec : List UInt8) : List UInt8 := body rec ++ [hiB (crc (body rec)), loB (crc (body rec))]
theorem frm_length (rec : List UInt8) : (frm rec).length = rec.length + 3 := by simp [frm, body]
/-- The record that a text begins with. -/
def nx : List UInt8 → Option (List UInt8)
  | [] => none
  | b :: r => if 64 < b.toNat ∨ r.length < b.toNat + 2 then none else if frm (r.take b.toNat) = (b :: r).take (b.toNat + 3) then some (r.take b.toNat) else none
def scn : Nat → List UInt8 → List (List UInt8) × Nat
  | 0, _ => ([], 0)
  | f + 1, s => match nx s with
    | none => ([], 0)
    | some rec => (rec :: (scn f (s.drop (rec.length + 3))).1, (scn f (s.drop (rec.length + 3))).2 + (rec.length + 3))
abbrev scan (s : List UInt8) : List (List UInt8) × Nat := scn s.length s
end Go.Proofs.YtkkcnppgcnmikaaGreatDoor

/- A disk of records: scanned, and cut. No program in sight. -/
namespace Go.Proofs.YtkkcnppgcnmikaaGreatDoor
open Go FM
set_option linter.all false
/-- Frames, one behind the other. -/
def dk : List (List UInt8) → List UInt8
  | [] => []
  | r :: l => frm r ++ dk l
theorem dk_append : ∀ a b : List (List UInt8), dk (a ++ b) = dk a ++ dk b
  | [], b => rfl
  | r :: a, b => by rw [List.cons_append, dk, dk_append a b, dk, List.append_assoc]
theorem dk_one (r : List UInt8) : dk [r] = frm r := List.append_nil _
theorem dk_take_drop (l : List (List UInt8)) (j : Nat) : dk (l.take j) ++ dk (l.drop j) = dk l := by rw [← dk_append, List.take_append_drop]
end Go.Proofs.YtkkcnppgcnmikaaGreatDoor
