/- Scans, walked. -/
import Derived.Test.YtkkcnppgcnmikaaGreatDoorLhm
namespace Go.Proofs.YtkkcnppgcnmikaaGreatDoor
open Go FM
set_option maxRecDepth 10000
set_option maxHeartbeats 1600000
set_option linter.all false
abbrev strs (o : Bool) (l : List (List UInt8)) : AV := .sl o 1 (l.map .str)
theorem ofNat_iff {p : UInt8} {m : Nat} (h : m < 256) : p = UInt8.ofNat m ↔ ((p.toNat : Nat) : Int) = ((m : Nat) : Int) := by
  constructor
  · rintro rfl; rw [UInt8.toNat_ofNat', Nat.mod_eq_of_lt h]
  · intro e
    have : p.toNat = m := by omega
    rw [← this]; exact UInt8.ofNat_toNat.symm
theorem nx_large {s : List UInt8} {b : UInt8} (h0 : s[0]? = some b) (h : 64 < b.toNat ∨ s.length < b.toNat + 3) : nx s = none := by
  cases s with
  | nil => cases h0
  | cons b' r =>
    simp only [List.getElem?_cons_zero, Option.some.injEq] at h0
    subst h0
    rw [List.length_cons] at h
    rw [nx_cons, if_pos (by omega)]
theorem logScan_spec (s : List UInt8) (hl : s.length ≤ 1000000000) : FnSpec Sy.P 71 [.str s] [.str s] (.tup [strs true (scan s).1, .int ((scan s).2 : Nat)]) := by
  refine FnSpec.enter (S := Sy) 0 Tryz.func71 rfl rfl rfl Tryz.ntmps71 rfl rfl rfl rfl fun v0 => ?_
  (repeat' (first | refine w9x ?_ | (refine w9c ?_ ?_ <;> intro _ <;> try exact w9o) | (refine w9d ?_ ?_ <;> intro _ <;> try exact w9s) | (refine w9q ?_; intro bnil hbnil)))
  refine CW.own 4 1 rfl ?_
  refine CW.loop (fun z : Nat × List (List UInt8) => [(0, .av (.str s)), (4, .av (strs true z.2)), (5, .av (.int (z.1)))]) (fun z => z.1 ≤ s.length ∧ z.2 ++ (scan (s.drop z.1)).1 = (scan s).1 ∧ z.1 + (scan (s.drop z.1)).2 = (scan s).2 ∧ z.2.length ≤ z.1) (fun z => s.length - z.1) ((0, [])) ?_ (by exact w9a) ?_
  · simp
  intro ⟨k, out⟩ ⟨hk, h1, h2, ho⟩
  dsimp only at hk h1 h2 ho ⊢
  by_cases hlt : k < s.length
  · have hg : s[k]? = some s[k] := List.getElem?_eq_getElem hlt
    have hd0 : (s.drop k)[0]? = some s[k] := by rw [List.getElem?_drop, Nat.add_zero]; exact hg
    have hdl : (s.drop k).length = s.length - k := List.length_drop
    have hb := s[k].toNat_lt
    generalize s[k] = b at *
    have hb256 : b.toNat < 256 := hb
    by_cases hc : 64 < b.toNat ∨ s.length - k < b.toNat + 3
    · rw [scan_none (nx_large hd0 (by rw [hdl]; exact hc))] at h1 h2
      simp only [List.append_nil, Nat.add_zero] at h1 h2
      rw [← h1, ← h2]
      (repeat' (first | refine w9x ?_ | (refine w9c ?_ ?_ <;> intro _ <;> try exact w9o) | (refine w9d ?_ ?_ <;> intro _ <;> try exact w9s) | (refine w9q ?_; intro bnil hbnil)))
      all_goals first | (exfalso; omega) | exact .mk rfl rfl rfl
    · have hp : s[((k : Int) + (b.toNat : Int) + 1).toNat]? = some (s[k + b.toNat + 1]'(by omega)) := by
        rw [show ((k : Int) + (b.toNat : Int) + 1).toNat = k + b.toNat + 1 by omega]; exact List.getElem?_eq_getElem _
      have hq : s[((k : Int) + (b.toNat : Int) + 2).toNat]? = some (s[k + b.toNat + 2]'(by omega)) := by
        rw [show ((k : Int) + (b.toNat : Int) + 2).toNat = k + b.toNat + 2 by omega]; exact List.getElem?_eq_getElem _
      have hp' : (s.drop k)[b.toNat + 1]? = some (s[k + b.toNat + 1]'(by omega)) := by
        rw [List.getElem?_drop, show k + (b.toNat + 1) = k + b.toNat + 1 by omega]; exact List.getElem?_eq_getElem _
      have hq' : (s.drop k)[b.toNat + 2]? = some (s[k + b.toNat + 2]'(by omega)) := by
        rw [List.getElem?_drop, show k + (b.toNat + 2) = k + b.toNat + 2 by omega]; exact List.getElem?_eq_getElem _
      obtain ⟨t1, t2⟩ := nx_test hd0 (by omega) (by omega) hp' hq'
      have hT : (s.take ((k : Int) + (b.toNat : Int) + 1).toNat).drop (k : Int).toNat = (s.drop k).take (b.toNat + 1) := by
        rw [show ((k : Int) + (b.toNat : Int) + 1).toNat = k + (b.toNat + 1) by omega, Int.toNat_natCast, List.take_add, List.drop_append]
        have : (List.take k s).length = k := by rw [List.length_take]; omega
        rw [List.drop_of_length_le (by omega), this, Nat.sub_self, List.drop_zero, List.nil_append]
      have hR : (s.take ((k : Int) + 1 + (b.toNat : Int)).toNat).drop ((k : Int) + 1).toNat = ((s.drop k).take (b.toNat + 1)).drop 1 := by
        rw [← hT, show ((k : Int) + 1 + (b.toNat : Int)).toNat = ((k : Int) + (b.toNat : Int) + 1).toNat by omega, List.drop_drop]
        congr 1
      have hTl : ((s.take ((k : Int) + (b.toNat : Int) + 1).toNat).drop (k : Int).toNat).length ≤ 9223372036854775807 := by rw [hT, List.length_take]; omega
      have hS := logSum_spec _ hTl
      have hx := crc_lt ((s.take ((k : Int) + (b.toNat : Int) + 1).toNat).drop (k : Int).toNat)
      rw [← hT] at t1 t2
      generalize s[k + b.toNat + 1]'(by omega) = p at *
      generalize s[k + b.toNat + 2]'(by omega) = q at *
      generalize hxx : crc ((s.take ((k : Int) + (b.toNat : Int) + 1).toNat).drop (k : Int).toNat) = x at *
      have ep := ofNat_iff (p := p) (m := shr x 8 % 256) (by omega)
      have eq := ofNat_iff (p := q) (m := x % 256) (by omega)
      have ehi : hiB x = UInt8.ofNat (shr x 8 % 256) := rfl
      have elo : loB x = UInt8.ofNat (x % 256) := rfl
      rw [ehi, elo, ep, eq] at t1 t2
      by_cases hpq : ((p.toNat : Nat) : Int) = ((shr x 8 % 256 : Nat) : Int) ∧ ((q.toNat : Nat) : Int) = ((x % 256 : Nat) : Int)
      · have hn := t1 hpq
        have hnl := nx_some hn
        have hrl : (((s.take ((k : Int) + (b.toNat : Int) + 1).toNat).drop (k : Int).toNat).drop 1).length = b.toNat := by rw [hT, List.length_drop, List.length_take]; omega
        rw [scan_some hn, hrl] at h1 h2
        have hdd : (s.drop k).drop (b.toNat + 3) = s.drop (k + b.toNat + 3) := by rw [List.drop_drop, Nat.add_assoc]
        rw [hdd] at h1 h2
        rw [hT, ← hR] at h1
        obtain ⟨hpq1, hpq2⟩ := hpq
        clear t1 t2 ep eq ehi elo hn hnl
        (repeat' (first | refine w9x ?_ | refine w9p (hS) ?_ | (refine w9c ?_ ?_ <;> intro _ <;> try exact w9o) | (refine w9d ?_ ?_ <;> intro _ <;> try exact w9s) | (refine w9q ?_; intro bnil hbnil)))
        all_goals first | (exfalso; omega) | skip
        refine ⟨(k + b.toNat + 3, out ++ [(s.take ((k : Int) + 1 + (b.toNat : Int)).toNat).drop ((k : Int) + 1).toNat]), ?_, by first | omega | (simp only; omega), by exact w9a⟩
        refine ⟨by simp only; omega, ?_, ?_, by simp only [List.length_append, List.length_cons, List.length_nil]; omega⟩
        · simp only [List.append_assoc, List.singleton_append]
          exact h1
        · simp only
          omega
      · rw [scan_none (t2 hpq)] at h1 h2
        simp only [List.append_nil, Nat.add_zero] at h1 h2
        rw [← h1, ← h2]
        clear t1 t2 ep eq ehi elo
        (repeat' (first | refine w9x ?_ | refine w9p (hS) ?_ | (refine w9c ?_ ?_ <;> intro _ <;> try exact w9o) | (refine w9d ?_ ?_ <;> intro _ <;> try exact w9s) | (refine w9q ?_; intro bnil hbnil)))
        all_goals first | (exfalso; omega) | exact .mk rfl rfl rfl
  · obtain rfl : k = s.length := by omega
    rw [List.drop_length] at h1 h2
    have : scan [] = ([], 0) := rfl
    rw [this] at h1 h2
    simp only [List.append_nil, Nat.add_zero] at h1 h2
    rw [← h1, ← h2]
    (repeat' (first | refine w9x ?_ | (refine w9c ?_ ?_ <;> intro _ <;> try exact w9o) | (refine w9d ?_ ?_ <;> intro _ <;> try exact w9s) | (refine w9q ?_; intro bnil hbnil)))
    exact .mk rfl rfl rfl
theorem scan_len : ∀ (n : Nat) (s : List UInt8), s.length ≤ n → (scan s).1.length ≤ s.length
  | 0, s, h => by
    have : s = [] := List.eq_nil_of_length_eq_zero (by omega)
    subst this; exact Nat.le_refl _
  | n + 1, s, h => by
    cases hn : nx s with
    | none => rw [scan_none hn]; exact Nat.zero_le _
    | some rec =>
      have h1 := nx_some hn
      have ih := scan_len n (s.drop (rec.length + 3)) (by rw [List.length_drop]; omega)
      rw [scan_some hn]
      rw [List.length_drop] at ih
      simp only [List.length_cons]; omega
theorem nx_frame {s : List UInt8} {b : UInt8} (h0 : s[0]? = some b) (h1 : ¬ 64 < b.toNat) (h2 : b.toNat + 3 ≤ s.length) :
    (frm ((s.take (b.toNat + 1)).drop 1) = s.take (b.toNat + 3) → nx s = some ((s.take (b.toNat + 1)).drop 1)) ∧ (frm ((s.take (b.toNat + 1)).drop 1) ≠ s.take (b.toNat + 3) → nx s = none) := by
  cases s with
  | nil => cases h0
  | cons b' r =>
    simp only [List.getElem?_cons_zero, Option.some.injEq] at h0
    subst h0
    rw [List.length_cons] at h2
    have hd : ((b' :: r).take (b'.toNat + 1)).drop 1 = r.take b'.toNat := by rw [List.take_succ_cons]; rfl
    rw [nx_cons, if_neg (by omega), hd]
    exact ⟨fun h => if_pos h, fun h => if_neg h⟩
theorem scanOf_spec : ∀ (n : Nat) (s : List UInt8), s.length ≤ n → n ≤ 1000000000 → FnSpec Sy.P 45 [.str s] [.str s] (.tup [strs true (scan s).1, .int ((scan s).2 : Nat)]) := by
  intro n
  induction n with
  | zero =>
    intro s hs _
    have : s = [] := List.eq_nil_of_length_eq_zero (by omega)
    subst this
    have e : scan [] = ([], 0) := rfl
    rw [e]
    refine FnSpec.enter (S := Sy) 0 Tryz.func45 rfl rfl rfl Tryz.ntmps45 rfl rfl rfl rfl fun v0 => ?_
    (repeat' (first | refine w9x ?_ | (refine w9c ?_ ?_ <;> intro _ <;> try exact w9o) | (refine w9d ?_ ?_ <;> intro _ <;> try exact w9s) | (refine w9q ?_; intro bnil hbnil)))
    all_goals first | contradiction | (exact .mkL rfl (le_tup2 .nil (.refl _)) rfl)
  | succ n ih =>
    intro s hs hn
    by_cases h0 : s = []
    · subst h0; exact ih [] (by simp) (by omega)
    have hpos : 0 < s.length := List.length_pos_iff.2 h0
    have hg : s[0]? = some s[0] := List.getElem?_eq_getElem hpos
    have hb := s[0].toNat_lt
    generalize s[0] = b at *
    have hb256 : b.toNat < 256 := hb
    refine FnSpec.enter (S := Sy) 0 Tryz.func45 rfl rfl rfl Tryz.ntmps45 rfl rfl rfl rfl fun v0 => ?_
    by_cases hc : 64 < b.toNat ∨ s.length < b.toNat + 3
    · rw [scan_none (nx_large hg hc)]
      (repeat' (first | refine w9x ?_ | (refine w9c ?_ ?_ <;> intro _ <;> try exact w9o) | (refine w9d ?_ ?_ <;> intro _ <;> try exact w9s) | (refine w9q ?_; intro bnil hbnil)))
      all_goals first | (exfalso; omega) | contradiction | (exact .mkL rfl (le_tup2 .nil (.refl _)) rfl)
    · obtain ⟨t1, t2⟩ := nx_frame hg (by omega) (by omega)
      have hR : (s.take ((1 : Int) + (b.toNat : Int)).toNat).drop (1 : Int).toNat = (s.take (b.toNat + 1)).drop 1 := by
        rw [show ((1 : Int) + (b.toNat : Int)).toNat = b.toNat + 1 by omega]; rfl
      have hT : s.take ((b.toNat : Int) + 3).toNat = s.take (b.toNat + 3) := by
        rw [show ((b.toNat : Int) + 3).toNat = b.toNat + 3 by omega]
      have hD : s.drop ((b.toNat : Int) + 3).toNat = s.drop (b.toNat + 3) := by
        rw [show ((b.toNat : Int) + 3).toNat = b.toNat + 3 by omega]
      have hrl : ((s.take (b.toNat + 1)).drop 1).length = b.toNat := by rw [List.length_drop, List.length_take]; omega
      have hF := frameOf_spec ((s.take ((1 : Int) + (b.toNat : Int)).toNat).drop (1 : Int).toNat) (by rw [hR, hrl]; omega)
      rw [← hR, ← hT] at t1 t2
      have hI := ih (s.drop ((b.toNat : Int) + 3).toNat) (by rw [hD, List.length_drop]; omega) (by omega)
      by_cases hf : frm ((s.take ((1 : Int) + (b.toNat : Int)).toNat).drop (1 : Int).toNat) = s.take ((b.toNat : Int) + 3).toNat
      · have hsc := scan_some (t1 hf)
        rw [hR, hrl, ← hD] at hsc
        have hzl := scan_len _ (s.drop ((b.toNat : Int) + 3).toNat) (Nat.le_refl _)
        have hle := scan_le _ (s.drop ((b.toNat : Int) + 3).toNat) (Nat.le_refl _)
        have hdl : (s.drop ((b.toNat : Int) + 3).toNat).length ≤ s.length := by rw [hD, List.length_drop]; omega
        rw [hsc, ← hR]
        generalize scan (s.drop ((b.toNat : Int) + 3).toNat) = z at *
        obtain ⟨zl, zk⟩ := z
        dsimp only at *
        clear t1 t2 hsc
        (repeat' (first | refine w9x ?_ | refine w9p (hF) ?_ | refine w9p (hI) ?_ | (refine w9c ?_ ?_ <;> intro _ <;> try exact w9o) | (refine w9d ?_ ?_ <;> intro _ <;> try exact w9s) | (refine w9q ?_; intro bnil hbnil)))
        all_goals first | (exfalso; omega) | contradiction | skip
        exact .mk rfl (by rw [show (zk : Int) + (b.toNat : Int) + 3 = ((zk + (b.toNat + 3) : Nat) : Int) by omega]; rfl) rfl
      · rw [scan_none (t2 hf)]
        clear t1 t2
        (repeat' (first | refine w9x ?_ | refine w9p (hF) ?_ | (refine w9c ?_ ?_ <;> intro _ <;> try exact w9o) | (refine w9d ?_ ?_ <;> intro _ <;> try exact w9s) | (refine w9q ?_; intro bnil hbnil)))
        all_goals first | (exfalso; omega) | contradiction | (exact .mkL rfl (le_tup2 .nil (.refl _)) rfl)
end Go.Proofs.YtkkcnppgcnmikaaGreatDoor
