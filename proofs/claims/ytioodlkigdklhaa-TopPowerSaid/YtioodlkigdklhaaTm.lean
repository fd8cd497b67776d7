/- Who turns a vote how often is the share of a game in which what wins is worth one. Plain law. -/
import Derived.Test.YtioodlkigdklhaaPw6
import Derived.Test.YtioodlkigdklhaaWo
namespace Go.Proofs.Ytioodlkigdklhaa
open Go FM
set_option maxRecDepth 100000
set_option linter.all false
/-- What wins is worth one. -/
def vAt (w : List Int) (q : Int) (k s : Nat) : Int := if s < k ∧ q ≤ hv w s then 1 else 0
def vL (w : List Int) (q : Int) (k : Nat) : List Int := tb (2 ^ w.length) (vAt w q k)
def bitOk (n j s : Nat) : Bool := bif Nat.beq (shr s j % 2) 0 then Nat.beq (s ^^^ 2 ^ j) (s ||| 2 ^ j) && (Nat.beq (shr (s ||| 2 ^ j) j % 2) 1 && (Nat.beq (off (s ||| 2 ^ j) j) s && (Nat.beq (pc n (s ||| 2 ^ j)) (pc n s + 1) && Nat.blt (s ||| 2 ^ j) (2 ^ n)))) else Nat.beq (shr (s ^^^ 2 ^ j) j % 2) 0
theorem bitsAll : ((List.range 7).all fun n => (List.range n).all fun j => (List.range (2 ^ n)).all fun s => bitOk n j s) = true := by decide +kernel
theorem bitsOk {n : Nat} (hn : n < 7) {j : Nat} (hj : j < n) {s : Nat} (hs : s < 2 ^ n) : bitOk n j s = true :=
  List.all_eq_true.1 (List.all_eq_true.1 (List.all_eq_true.1 bitsAll n (List.mem_range.2 hn)) j (List.mem_range.2 hj)) s (List.mem_range.2 hs)
theorem bitsA (n : Nat) (hn : n < 7) (j : Nat) (hj : j < n) (s : Nat) (hs : s < 2 ^ n) (hb : shr s j % 2 = 0) : s ^^^ 2 ^ j = s ||| 2 ^ j ∧ shr (s ||| 2 ^ j) j % 2 = 1 ∧ off (s ||| 2 ^ j) j = s ∧ pc n (s ||| 2 ^ j) = pc n s + 1 ∧ s ||| 2 ^ j < 2 ^ n := by
  have h := bitsOk hn hj hs
  unfold bitOk at h
  rw [hb, show Nat.beq 0 0 = true from rfl, cond_true] at h
  simp only [Bool.and_eq_true] at h
  exact ⟨Nat.eq_of_beq_eq_true h.1, Nat.eq_of_beq_eq_true h.2.1, Nat.eq_of_beq_eq_true h.2.2.1, Nat.eq_of_beq_eq_true h.2.2.2.1, Nat.le_of_ble_eq_true h.2.2.2.2⟩
theorem bitsB (n : Nat) (hn : n < 7) (j : Nat) (hj : j < n) (s : Nat) (hs : s < 2 ^ n) (hb : shr s j % 2 = 1) : shr (s ^^^ 2 ^ j) j % 2 = 0 := by
  have h := bitsOk hn hj hs
  unfold bitOk at h
  rw [hb, show Nat.beq 1 0 = false from rfl, cond_false] at h
  exact Nat.eq_of_beq_eq_true h
theorem bitsPall : ((List.range 7).all fun n => (List.range n).all fun j => ((List.range (2 ^ n)).map (· ^^^ 2 ^ j)).isPerm (List.range (2 ^ n))) = true := by decide +kernel
theorem bitsP (n : Nat) (hn : n < 7) (j : Nat) (hj : j < n) : ((List.range (2 ^ n)).map (· ^^^ 2 ^ j)).isPerm (List.range (2 ^ n)) = true :=
  List.all_eq_true.1 (List.all_eq_true.1 bitsPall n (List.mem_range.2 hn)) j (List.mem_range.2 hj)
theorem sum_perm {l m : List Int} (h : l.Perm m) : l.sum = m.sum := by
  induction h with
  | nil => rfl
  | cons x _ ih => rw [List.sum_cons, List.sum_cons, ih]
  | swap x y l => simp only [List.sum_cons]; omega
  | trans _ _ h1 h2 => rw [h1, h2]
theorem gT_gW {w : List Int} {q : Int} (hw : okW w) {s j : Nat} (hj : j < w.length) (hs : s < 2 ^ w.length) : gT w q (s ^^^ 2 ^ j) j = gW w.length (vL w q (2 ^ w.length)) s j := by
  have hn : w.length < 7 := Nat.lt_succ_of_le hw.1
  have hm := Nat.mod_two_eq_zero_or_one (shr s j)
  rcases hm with hm | hm
  · obtain ⟨e1, e2, e3, e4, e5⟩ := bitsA _ hn j hj s hs hm
    rw [e1, gW_yes hm]
    have g1 : (vL w q (2 ^ w.length)).getD (s ||| 2 ^ j) 0 = if q ≤ hv w (s ||| 2 ^ j) then 1 else 0 := by
      rw [List.getD_eq_getElem?_getD]; unfold vL; rw [tb_get e5]; simp [vAt, e5]
    have g2 : (vL w q (2 ^ w.length)).getD s 0 = if q ≤ hv w s then 1 else 0 := by
      rw [List.getD_eq_getElem?_getD]; unfold vL; rw [tb_get hs]; simp [vAt, hs]
    rw [g1, g2]
    have ho := hv_off w (s ||| 2 ^ j) j hj e2
    rw [e3] at ho
    have hx := hw.2 _ (List.getElem_mem hj)
    have hwt : ((fact (pc w.length (s ||| 2 ^ j) - 1) * fact (w.length - pc w.length (s ||| 2 ^ j)) : Nat) : Int) = wt w.length (pc w.length s) := by
      rw [e4]; unfold wt
      rw [show pc w.length s + 1 - 1 = pc w.length s by omega, show w.length - (pc w.length s + 1) = w.length - 1 - pc w.length s by omega]
      exact Int.natCast_mul ..
    by_cases c1 : q ≤ hv w (s ||| 2 ^ j)
    · by_cases c2 : q ≤ hv w s
      · rw [if_pos c1, if_pos c2, gT_neg (fun h => h.2.2 (by rw [e3]; exact c2))]; simp
      · rw [if_pos c1, if_neg c2, gT_pos ⟨e2, c1, by rw [e3]; exact c2⟩, hwt]; simp
    · rw [if_neg c1, if_neg (by omega), gT_neg (fun h => c1 h.2.1)]; simp
  · have e := bitsB _ hn j hj s hs hm
    rw [gW_no (by omega), gT_neg (fun h => by have := h.1; omega)]
theorem turns_share (w : List Int) (q : Int) (hw : okW w) : turnsL w q = shareL w.length (vL w q (2 ^ w.length)) := by
  have hn : w.length < 7 := Nat.lt_succ_of_le hw.1
  unfold turnsL shareL
  apply List.ext_getElem?
  intro j
  by_cases hj : j < w.length
  · rw [accW_get hj, accW_get hj, if_neg (Nat.not_lt_zero _)]
    congr 1
    have hp := List.isPerm_iff.1 (bitsP _ hn j hj)
    have h1 := sum_perm (hp.map fun s => gT w q s j)
    rw [← h1, List.map_map]
    congr 1
    exact List.map_congr_left fun s hs => gT_gW hw hj (List.mem_range.1 hs)
  · rw [List.getElem?_eq_none (by rw [accW_length]; omega), List.getElem?_eq_none (by rw [accW_length]; omega)]
theorem vL_ok (w : List Int) (q : Int) (hw : okW w) (h1 : 1 ≤ w.length) (hq : 1 ≤ q) : VOk w.length (vL w q (2 ^ w.length)) := by
  refine ⟨h1, hw.1, tb_length, fun x hx => ?_, ?_⟩
  · unfold vL tb at hx
    obtain ⟨s, _, rfl⟩ := List.mem_map.1 hx
    unfold vAt; split <;> omega
  · have hp : 0 < 2 ^ w.length := Nat.two_pow_pos _
    have hz : hv w 0 = 0 := by
      have : ∀ w : List Int, hv w 0 = 0 := fun w => by
        induction w with
        | nil => rfl
        | cons x r ih => simp [hv, ih]
      exact this w
    rw [List.getD_eq_getElem?_getD]; unfold vL; rw [tb_get hp]
    simp only [vAt, Option.getD_some]
    rw [if_neg (by omega)]
end Go.Proofs.Ytioodlkigdklhaa
