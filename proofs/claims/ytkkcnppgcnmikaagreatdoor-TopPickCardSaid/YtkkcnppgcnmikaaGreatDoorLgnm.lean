/- Check sums, walked. -/
import Derived.Test.YtkkcnppgcnmikaaGreatDoorLhnm
import Derived.Test.YtkkcnppgcnmikaaGreatDoorTanm
import Derived.Test.YtkkcnppgcnmikaaGreatDoorFrnm
import Derived.Test.YtkkcnppgcnmikaaGreatDoorFsnm
namespace Go.Proofs.YtkkcnppgcnmikaaGreatDoor
open Go FM
set_option maxRecDepth 10000
set_option maxHeartbeats 1600000
set_option linter.all false
theorem logSum_spec (s : List UInt8) (hl : s.length ≤ 9223372036854775807) : FnSpec Sy.P 131 [.str s] [.str s] (u16 (crc s)) := by
  refine FnSpec.enter (S := Sy) 0 Tryz.func131 rfl rfl rfl Tryz.ntmps131 rfl rfl rfl rfl fun v0 => ?_
  (repeat' (first | refine w9x ?_ | (refine w9c ?_ ?_ <;> intro _ <;> try exact w9o) | (refine w9d ?_ ?_ <;> intro _ <;> try exact w9s) | (refine w9q ?_; intro bnil hbnil)))
  refine CW.loop (fun k : Nat => [(0, .av (.str s)), (3, .av (u16 (crc (s.take k)))), (7, .av (.sl false 1 (s.map b8))), (8, .av (.int (s.length))), (9, .av (.int (k)))]) (fun k => k ≤ s.length) (fun k => s.length - k) (0) ?_ (by exact w9a) ?_
  · exact Nat.zero_le _
  intro k hk
  have hx := crc_lt (s.take k)
  by_cases hlt : k < s.length
  · have hg : s[k]? = some s[k] := List.getElem?_eq_getElem hlt
    have ht := crc_take1 hlt
    have hc := s[k].toNat_lt
    have hm := sl16_lt s[k].toNat 8
    generalize s[k] = c at *
    generalize crc (s.take k) = x at *
    (repeat' (first | refine w9x ?_ | (refine w9c ?_ ?_ <;> intro _ <;> try exact w9o) | (refine w9d ?_ ?_ <;> intro _ <;> try exact w9s) | (refine w9q ?_; intro bnil hbnil)))
    have hy := xor_u16 hx hm
    generalize x ^^^ sl16 c.toNat 8 = y at *
    refine CW.loop (fun j : Nat => [(0, .av (.str s)), (3, .av (u16 (st1s y j))), (7, .av (.sl false 1 (s.map b8))), (8, .av (.int (s.length))), (9, .av (.int (k))), (18, .av (.int (j)))]) (fun j => j ≤ 8) (fun j => 8 - j) (0) ?_ (by exact w9a) ?_
    · exact Nat.zero_le _
    intro j hj
    by_cases hj8 : j < 8
    · have hz := st1s_lt hy j
      have hs : st1s y (j + 1) = st1 (st1s y j) := rfl
      generalize st1s y j = z at *
      have hm2 := sl16_lt z 1
      by_cases ht : shr z 15 = 1
      · unfold st1 at hs
        rw [if_pos ht] at hs
        (repeat' (first | refine w9x ?_ | (refine w9c ?_ ?_ <;> intro _ <;> try exact w9o) | (refine w9d ?_ ?_ <;> intro _ <;> try exact w9s) | (refine w9q ?_; intro bnil hbnil)))
        all_goals first | (exfalso; omega) | skip
        refine ⟨j+1, ?_, by first | omega | (simp only; omega), by (repeat' (first | exact trivial | rfl | refine And.intro ?_ ?_ | exact int_congr (by omega) | exact int_congr (by dsimp only; omega) | exact ints_congr (by first | assumption | exact Eq.symm (by assumption)) | exact int_congr (by assumption) | exact bool_congr (by first | assumption | exact Eq.symm (by assumption)) | exact map_congr' (by first | assumption | exact Eq.symm (by assumption)) | (rw [hs])))⟩
        omega
      · unfold st1 at hs
        rw [if_neg ht] at hs
        (repeat' (first | refine w9x ?_ | (refine w9c ?_ ?_ <;> intro _ <;> try exact w9o) | (refine w9d ?_ ?_ <;> intro _ <;> try exact w9s) | (refine w9q ?_; intro bnil hbnil)))
        all_goals first | (exfalso; omega) | skip
        refine ⟨j+1, ?_, by first | omega | (simp only; omega), by (repeat' (first | exact trivial | rfl | refine And.intro ?_ ?_ | exact int_congr (by omega) | exact int_congr (by dsimp only; omega) | exact ints_congr (by first | assumption | exact Eq.symm (by assumption)) | exact int_congr (by assumption) | exact bool_congr (by first | assumption | exact Eq.symm (by assumption)) | exact map_congr' (by first | assumption | exact Eq.symm (by assumption)) | (rw [hs])))⟩
        omega
    · obtain rfl : j = 8 := by omega
      rw [← ht]
      (repeat' (first | refine w9x ?_ | (refine w9c ?_ ?_ <;> intro _ <;> try exact w9o) | (refine w9d ?_ ?_ <;> intro _ <;> try exact w9s) | (refine w9q ?_; intro bnil hbnil)))
      refine ⟨k+1, ?_, by first | omega | (simp only; omega), by exact w9a⟩
      omega
  · obtain rfl : k = s.length := by omega
    rw [List.take_length]
    (repeat' (first | refine w9x ?_ | (refine w9c ?_ ?_ <;> intro _ <;> try exact w9o) | (refine w9d ?_ ?_ <;> intro _ <;> try exact w9s) | (refine w9q ?_; intro bnil hbnil)))
    exact .mk rfl rfl rfl
section
variable {S : FM.Sys} {σ : FM.St} {d ty t t2 a : Nat} {pos : String} {aft : Array Edge} {g : Option (Nat × Bool)} {x y : Operand}
end
theorem logFrame_spec (rec : List UInt8) (hl : rec.length ≤ 9223372036854775807) : FnSpec Sy.P 124 [.str rec] [.str rec] (if 64 < rec.length then .tup [.str [], .int 2] else .tup [.str (frm rec), .int 0]) := by
  refine FnSpec.enter (S := Sy) 0 Tryz.func124 rfl rfl rfl Tryz.ntmps124 rfl rfl rfl rfl fun v0 => ?_
  by_cases h : 64 < rec.length
  · rw [if_pos h]
    (repeat' (first | refine w9x ?_ | (refine w9c ?_ ?_ <;> intro _ <;> try exact w9o) | (refine w9d ?_ ?_ <;> intro _ <;> try exact w9s) | (refine w9q ?_; intro bnil hbnil)))
    exact .mk rfl rfl rfl
  · rw [if_neg h]
    have hb : (body rec).length = rec.length + 1 := by simp [body]
    have hS := logSum_spec (body rec) (by omega)
    have hx := crc_lt (body rec)
    have hf : frm rec = body rec ++ [UInt8.ofNat (shr (crc (body rec)) 8 % 256), UInt8.ofNat (crc (body rec) % 256)] := rfl
    rw [hf]
    have hb2 : [UInt8.ofNat (rec.length % 256)] ++ rec = body rec := rfl
    generalize crc (body rec) = x at *
    (repeat' (first | refine w9x ?_ | refine w9p (hS) ?_ | (refine w9c ?_ ?_ <;> intro _ <;> try exact w9o) | (refine w9d ?_ ?_ <;> intro _ <;> try exact w9s) | (refine w9q ?_; intro bnil hbnil)))
    exact .mk rfl rfl rfl
end Go.Proofs.YtkkcnppgcnmikaaGreatDoor

/- Scans, walked. -/
namespace Go.Proofs.YtkkcnppgcnmikaaGreatDoor
open Go FM
set_option maxRecDepth 10000
set_option maxHeartbeats 1600000
set_option linter.all false
abbrev strs (o : Bool) (l : List (List UInt8)) : AV := .sl o 1 (l.map .str)
end Go.Proofs.YtkkcnppgcnmikaaGreatDoor

/- A log's methods, walked. -/
namespace Go.Proofs.YtkkcnppgcnmikaaGreatDoor
open Go FM
set_option maxRecDepth 10000
set_option maxHeartbeats 1600000
set_option linter.all false
abbrev lgO (d : List UInt8) (n : Int) : AV := .pt true [.str d, .int n]
abbrev lgS (d : List UInt8) (n : Int) : AV := .pt false [.str d, .int n]
theorem logNew_spec : FnSpec Sy.P 26 [] [] (lgO [] 0) := by
  refine FnSpec.enter (S := Sy) 0 Tryz.func26 rfl rfl rfl Tryz.ntmps26 rfl rfl rfl rfl fun v0 => ?_
  (repeat' (first | refine w9x ?_ | (refine w9c ?_ ?_ <;> intro _ <;> try exact w9o) | (refine w9d ?_ ?_ <;> intro _ <;> try exact w9s) | (refine w9q ?_; intro bnil hbnil)))
  exact .mk rfl rfl rfl
def appE (d rec : List UInt8) : Int := if 64 < rec.length then 2 else if 4000 < d.length + rec.length + 3 then 8 else 0
def appD (d rec : List UInt8) : List UInt8 := if 64 < rec.length then d else if 4000 < d.length + rec.length + 3 then d else d ++ frm rec
theorem logAppend_spec (d rec : List UInt8) (n : Int) (hd : d.length ≤ 4000) (hr : rec.length ≤ 9223372036854775807) : FnSpec Sy.P 65 [lgO d n, .str rec] [lgO (appD d rec) n, .str rec] (.int (appE d rec)) := by
  have h1 := logFrame_spec rec hr
  have hfl := frm_length rec
  unfold appE appD
  refine FnSpec.enter (S := Sy) 1 Tryz.func65 rfl rfl rfl Tryz.ntmps65 rfl rfl rfl rfl fun v0 => ?_
  by_cases hc : 64 < rec.length
  · rw [if_pos hc] at h1
    rw [if_pos hc, if_pos hc]
    (repeat' (first | refine w9x ?_ | refine w9p (h1) ?_ | (refine w9c ?_ ?_ <;> intro _ <;> try exact w9o) | (refine w9d ?_ ?_ <;> intro _ <;> try exact w9s) | (refine w9q ?_; intro bnil hbnil)))
    all_goals first | (exfalso; omega) | exact ⟨rfl, ⟨_, rfl, .refl _⟩, rfl, args_start (args_mu rfl rfl (args_pl rfl args_nil))⟩
  · rw [if_neg hc] at h1
    rw [if_neg hc, if_neg hc]
    generalize frm rec = fr at *
    by_cases hc2 : 4000 < d.length + rec.length + 3
    · rw [if_pos hc2, if_pos hc2]
      (repeat' (first | refine w9x ?_ | refine w9p (h1) ?_ | (refine w9c ?_ ?_ <;> intro _ <;> try exact w9o) | (refine w9d ?_ ?_ <;> intro _ <;> try exact w9s) | (refine w9q ?_; intro bnil hbnil)))
      all_goals first | (exfalso; omega) | exact ⟨rfl, ⟨_, rfl, .refl _⟩, rfl, args_start (args_mu rfl rfl (args_pl rfl args_nil))⟩
    · rw [if_neg hc2, if_neg hc2]
      (repeat' (first | refine w9x ?_ | refine w9p (h1) ?_ | (refine w9c ?_ ?_ <;> intro _ <;> try exact w9o) | (refine w9d ?_ ?_ <;> intro _ <;> try exact w9s) | (refine w9q ?_; intro bnil hbnil)))
      all_goals first | (exfalso; omega) | exact ⟨rfl, ⟨_, rfl, .refl _⟩, rfl, args_start (args_mu rfl rfl (args_pl rfl args_nil))⟩
theorem logSize_spec (d : List UInt8) (n : Int) : FnSpec Sy.P 48 [lgS d n] [lgS d n] (.tup [.int d.length, .int n]) := by
  refine FnSpec.enter (S := Sy) 0 Tryz.func48 rfl rfl rfl Tryz.ntmps48 rfl rfl rfl rfl fun v0 => ?_
  (repeat' (first | refine w9x ?_ | (refine w9c ?_ ?_ <;> intro _ <;> try exact w9o) | (refine w9d ?_ ?_ <;> intro _ <;> try exact w9s) | (refine w9q ?_; intro bnil hbnil)))
  exact .mk rfl rfl rfl
end Go.Proofs.YtkkcnppgcnmikaaGreatDoor
