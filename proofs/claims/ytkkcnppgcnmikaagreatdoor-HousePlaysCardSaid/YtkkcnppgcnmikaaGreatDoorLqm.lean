/- A log's methods, walked. -/
import Derived.Test.YtkkcnppgcnmikaaGreatDoorLkm
import Derived.Test.YtkkcnppgcnmikaaGreatDoorFsm
namespace Go.Proofs.YtkkcnppgcnmikaaGreatDoor
open Go FM
set_option maxRecDepth 10000
set_option maxHeartbeats 1600000
set_option linter.all false
abbrev lgO (d : List UInt8) (n : Int) : AV := .pt true [.str d, .int n]
abbrev lgS (d : List UInt8) (n : Int) : AV := .pt false [.str d, .int n]
abbrev lgA (d : List UInt8) (n : Int) : AV := .agg [.str d, .int n]
theorem logNew_spec : FnSpec Sy.P 26 [] [] (lgO [] 0) := by
  refine FnSpec.enter (S := Sy) 0 Tryz.func26 rfl rfl rfl Tryz.ntmps26 rfl rfl rfl rfl fun v0 => ?_
  (repeat' (first | refine w9x ?_ | (refine w9c ?_ ?_ <;> intro _ <;> try exact w9o) | (refine w9d ?_ ?_ <;> intro _ <;> try exact w9s) | (refine w9q ?_; intro bnil hbnil)))
  exact .mk rfl rfl rfl
theorem rest3_spec (n : Int) (hn : InR n) : FnSpec Sy.P 54 [.int n, .int 3] [.int n, .int 3] (.int (n % 3)) := by
  refine FnSpec.enter (S := Sy) 0 Tryz.func54 rfl rfl rfl Tryz.ntmps54 rfl rfl rfl rfl fun v0 => ?_
  have e : n % 3 = if n.tmod 3 < 0 then n.tmod 3 + 3 else n.tmod 3 := by
    rw [Int.tmod_eq_emod]; split <;> split <;> omega
  have hb : -3 < n.tmod 3 ∧ n.tmod 3 < 3 := by rw [Int.tmod_eq_emod]; split <;> omega
  rw [e]
  by_cases h : n.tmod 3 < 0
  · rw [if_pos h]
    (repeat' (first | refine w9x ?_ | (refine w9c ?_ ?_ <;> intro _ <;> try exact w9o) | (refine w9d ?_ ?_ <;> intro _ <;> try exact w9s) | (refine w9q ?_; intro bnil hbnil)))
    all_goals first | (exfalso; omega) | exact .mk rfl rfl rfl
  · rw [if_neg h]
    (repeat' (first | refine w9x ?_ | (refine w9c ?_ ?_ <;> intro _ <;> try exact w9o) | (refine w9d ?_ ?_ <;> intro _ <;> try exact w9s) | (refine w9q ?_; intro bnil hbnil)))
    all_goals first | (exfalso; omega) | exact .mk rfl rfl rfl
def appE (d rec : List UInt8) : Int := if 64 < rec.length then 2 else if 4000 < d.length + rec.length + 3 then 8 else 0
def appD (d rec : List UInt8) : List UInt8 := if 64 < rec.length then d else if 4000 < d.length + rec.length + 3 then d else d ++ frm rec
theorem logAppend_spec (d rec : List UInt8) (n : Int) (hd : d.length ≤ 4000) (hr : rec.length ≤ 9223372036854775807) : FnSpec Sy.P 65 [lgO d n, .str rec] [lgO (appD d rec) n, .str rec] (.int (appE d rec)) := by
  have h1 := logFrame_spec rec hr
  have hfl := frm_length rec
  unfold appE appD
  refine FnSpec.enter (S := Sy) 1 Tryz.func65 rfl rfl rfl Tryz.ntmps65 rfl rfl rfl rfl fun v0 => ?_
  by_cases hc : 64 < rec.length
  · rw [if_pos hc] at h1
    rw [if_pos hc, if_pos hc]
    (repeat' (first | refine w9x ?_ | refine w9p (h1) ?_ | (refine w9c ?_ ?_ <;> intro _ <;> try exact w9o) | (refine w9d ?_ ?_ <;> intro _ <;> try exact w9s) | (refine w9q ?_; intro bnil hbnil)))
    all_goals first | (exfalso; omega) | exact ⟨rfl, ⟨_, rfl, .refl _⟩, rfl, args_start (args_mu rfl rfl (args_pl rfl args_nil))⟩
  · rw [if_neg hc] at h1
    rw [if_neg hc, if_neg hc]
    generalize frm rec = fr at *
    by_cases hc2 : 4000 < d.length + rec.length + 3
    · rw [if_pos hc2, if_pos hc2]
      (repeat' (first | refine w9x ?_ | refine w9p (h1) ?_ | (refine w9c ?_ ?_ <;> intro _ <;> try exact w9o) | (refine w9d ?_ ?_ <;> intro _ <;> try exact w9s) | (refine w9q ?_; intro bnil hbnil)))
      all_goals first | (exfalso; omega) | exact ⟨rfl, ⟨_, rfl, .refl _⟩, rfl, args_start (args_mu rfl rfl (args_pl rfl args_nil))⟩
    · rw [if_neg hc2, if_neg hc2]
      (repeat' (first | refine w9x ?_ | refine w9p (h1) ?_ | (refine w9c ?_ ?_ <;> intro _ <;> try exact w9o) | (refine w9d ?_ ?_ <;> intro _ <;> try exact w9s) | (refine w9q ?_; intro bnil hbnil)))
      all_goals first | (exfalso; omega) | exact ⟨rfl, ⟨_, rfl, .refl _⟩, rfl, args_start (args_mu rfl rfl (args_pl rfl args_nil))⟩
theorem appendOf_spec (d rec : List UInt8) (n : Int) (hd : d.length ≤ 4000) (hr : rec.length ≤ 9223372036854775807) : FnSpec Sy.P 36 [lgA d n, .str rec] [lgA d n, .str rec] (.tup [lgA (appD d rec) n, .int (appE d rec)]) := by
  unfold appE appD
  refine FnSpec.enter (S := Sy) 0 Tryz.func36 rfl rfl rfl Tryz.ntmps36 rfl rfl rfl rfl fun v0 => ?_
  by_cases hc : 64 < rec.length
  · rw [if_pos hc, if_pos hc]
    (repeat' (first | refine w9x ?_ | (refine w9c ?_ ?_ <;> intro _ <;> try exact w9o) | (refine w9d ?_ ?_ <;> intro _ <;> try exact w9s) | (refine w9q ?_; intro bnil hbnil)))
    all_goals first | (exfalso; omega) | exact .mk rfl rfl rfl
  · have h1 := frameOf_spec rec (by omega)
    have hfl := frm_length rec
    rw [if_neg hc, if_neg hc]
    generalize frm rec = fr at *
    by_cases hc2 : 4000 < d.length + rec.length + 3
    · rw [if_pos hc2, if_pos hc2]
      (repeat' (first | refine w9x ?_ | refine w9p (h1) ?_ | (refine w9c ?_ ?_ <;> intro _ <;> try exact w9o) | (refine w9d ?_ ?_ <;> intro _ <;> try exact w9s) | (refine w9q ?_; intro bnil hbnil)))
      all_goals first | (exfalso; omega) | exact .mk rfl rfl rfl
    · rw [if_neg hc2, if_neg hc2]
      (repeat' (first | refine w9x ?_ | refine w9p (h1) ?_ | (refine w9c ?_ ?_ <;> intro _ <;> try exact w9o) | (refine w9d ?_ ?_ <;> intro _ <;> try exact w9s) | (refine w9q ?_; intro bnil hbnil)))
      all_goals first | (exfalso; omega) | exact .mk rfl rfl rfl
theorem logSync_spec (d : List UInt8) (n : Int) : FnSpec Sy.P 30 [lgO d n] [lgO d d.length] (.tup []) := by
  refine FnSpec.enter (S := Sy) 1 Tryz.func30 rfl rfl rfl Tryz.ntmps30 rfl rfl rfl rfl fun v0 => ?_
  (repeat' (first | refine w9x ?_ | (refine w9c ?_ ?_ <;> intro _ <;> try exact w9o) | (refine w9d ?_ ?_ <;> intro _ <;> try exact w9s) | (refine w9q ?_; intro bnil hbnil)))
  exact ⟨rfl, ⟨_, rfl, .refl _⟩, rfl, args_start (args_mu rfl rfl args_nil)⟩
theorem logSize_spec (d : List UInt8) (n : Int) : FnSpec Sy.P 48 [lgS d n] [lgS d n] (.tup [.int d.length, .int n]) := by
  refine FnSpec.enter (S := Sy) 0 Tryz.func48 rfl rfl rfl Tryz.ntmps48 rfl rfl rfl rfl fun v0 => ?_
  (repeat' (first | refine w9x ?_ | (refine w9c ?_ ?_ <;> intro _ <;> try exact w9o) | (refine w9d ?_ ?_ <;> intro _ <;> try exact w9s) | (refine w9q ?_; intro bnil hbnil)))
  exact .mk rfl rfl rfl
theorem logAll_spec (d : List UInt8) (n : Int) (hd : d.length ≤ 4000) : FnSpec Sy.P 72 [lgS d n] [lgS d n] (strs true (scan d).1) := by
  have h1 := logScan_spec d (by omega)
  generalize scan d = z at *
  obtain ⟨zl, zk⟩ := z
  refine FnSpec.enter (S := Sy) 0 Tryz.func72 rfl rfl rfl Tryz.ntmps72 rfl rfl rfl rfl fun v0 => ?_
  (repeat' (first | refine w9x ?_ | refine w9p (h1) ?_ | (refine w9c ?_ ?_ <;> intro _ <;> try exact w9o) | (refine w9d ?_ ?_ <;> intro _ <;> try exact w9s) | (refine w9q ?_; intro bnil hbnil)))
  exact .mk rfl rfl rfl
def crE (d : List UInt8) (n k : Int) : Int := if k < 0 ∨ (d.length : Int) - n < k then 1 else 0
def crD (d : List UInt8) (n k : Int) : List UInt8 := if k < 0 ∨ (d.length : Int) - n < k then d else (d.take (n + k).toNat).take (scan (d.take (n + k).toNat)).2
def crN (d : List UInt8) (n k : Int) : Int := if k < 0 ∨ (d.length : Int) - n < k then n else ((scan (d.take (n + k).toNat)).2 : Nat)
theorem logCrash_spec (d : List UInt8) (n k : Int) (hd : d.length ≤ 4000) (hn : 0 ≤ n ∧ n ≤ d.length) : FnSpec Sy.P 31 [lgO d n, .int k] [lgO (crD d n k) (crN d n k), .int k] (.int (crE d n k)) := by
  unfold crE crD crN
  refine FnSpec.enter (S := Sy) 1 Tryz.func31 rfl rfl rfl Tryz.ntmps31 rfl rfl rfl rfl fun v0 => ?_
  by_cases hc : k < 0 ∨ (d.length : Int) - n < k
  · rw [if_pos hc, if_pos hc, if_pos hc]
    (repeat' (first | refine w9x ?_ | (refine w9c ?_ ?_ <;> intro _ <;> try exact w9o) | (refine w9d ?_ ?_ <;> intro _ <;> try exact w9s) | (refine w9q ?_; intro bnil hbnil)))
    all_goals first | (exfalso; omega) | exact ⟨rfl, ⟨_, rfl, .refl _⟩, rfl, args_start (args_mu rfl rfl (args_pl rfl args_nil))⟩
  · rw [if_neg hc, if_neg hc, if_neg hc]
    have hl : (d.take (n + k).toNat).length ≤ 4000 := by rw [List.length_take]; omega
    have h1 := logScan_spec (d.take (n + k).toNat) (by omega)
    have h2 := scan_le _ (d.take (n + k).toNat) (Nat.le_refl _)
    generalize scan (d.take (n + k).toNat) = z at *
    obtain ⟨zl, zk⟩ := z
    dsimp only at *
    (repeat' (first | refine w9x ?_ | refine w9p (h1) ?_ | (refine w9c ?_ ?_ <;> intro _ <;> try exact w9o) | (refine w9d ?_ ?_ <;> intro _ <;> try exact w9s) | (refine w9q ?_; intro bnil hbnil)))
    all_goals first | (exfalso; omega) | exact ⟨rfl, ⟨_, rfl, .refl _⟩, rfl, args_start (args_mu rfl rfl (args_pl rfl args_nil))⟩
theorem crashOf_spec (d : List UInt8) (n k : Int) (hd : d.length ≤ 4000) (hn : 0 ≤ n ∧ n ≤ d.length) : FnSpec Sy.P 44 [lgA d n, .int k] [lgA d n, .int k] (.tup [lgA (crD d n k) (crN d n k), .int (crE d n k)]) := by
  unfold crE crD crN
  refine FnSpec.enter (S := Sy) 0 Tryz.func44 rfl rfl rfl Tryz.ntmps44 rfl rfl rfl rfl fun v0 => ?_
  by_cases hc : k < 0 ∨ (d.length : Int) - n < k
  · rw [if_pos hc, if_pos hc, if_pos hc]
    (repeat' (first | refine w9x ?_ | (refine w9c ?_ ?_ <;> intro _ <;> try exact w9o) | (refine w9d ?_ ?_ <;> intro _ <;> try exact w9s) | (refine w9q ?_; intro bnil hbnil)))
    all_goals first | (exfalso; omega) | exact .mk rfl rfl rfl
  · rw [if_neg hc, if_neg hc, if_neg hc]
    have hl : (d.take (n + k).toNat).length ≤ 4000 := by rw [List.length_take]; omega
    have h1 := scanOf_spec _ (d.take (n + k).toNat) (Nat.le_refl _) (by omega)
    have h2 := scan_le _ (d.take (n + k).toNat) (Nat.le_refl _)
    generalize scan (d.take (n + k).toNat) = z at *
    obtain ⟨zl, zk⟩ := z
    dsimp only at *
    (repeat' (first | refine w9x ?_ | refine w9p (h1) ?_ | (refine w9c ?_ ?_ <;> intro _ <;> try exact w9o) | (refine w9d ?_ ?_ <;> intro _ <;> try exact w9s) | (refine w9q ?_; intro bnil hbnil)))
    all_goals first | (exfalso; omega) | exact .mk rfl rfl rfl
end Go.Proofs.YtkkcnppgcnmikaaGreatDoor
