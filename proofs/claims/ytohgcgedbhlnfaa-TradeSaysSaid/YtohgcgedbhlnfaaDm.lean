/- DeleteFunc on what a slot owns, by the kit's contract. -/
import Derived.Test.YtohgcgedbhlnfaaDc
import Derived.Test.YtohgcgedbhlnfaaBx
namespace Go.Proofs.Ytohgcgedbhlnfaa
open Go FM Go.Proofs
set_option linter.all false
theorem del_ok : FnOk Sy.P 11 := ⟨_, Try.func11, rfl, rfl⟩
theorem delJ {m : Nat} {v : Nat → Value} {N : Nat} {σ : St} {l : List Int} {p : Int → Bool} {t1 t2 s d g0 ty : Nat} {caps : List Nat} {ops : Array Oper} {k : List Oper} {K : St → Prop} {ts : Array Nat} {pos : String} {aft : Array Edge} {g : Option (Nat × Bool)} (hg : live ops g σ = some true)
    (h1 : slotAt σ (.tmp t1) = some s) (h2 : FM.get σ s = .av (.sl true 1 (l.map .int))) (hne : l ≠ []) (hl : l.length ≤ 9223372036854775807) (h3 : Nat.beq s d = false) (ht2 : FM.get σ t2 = .clo g0 caps)
    (eg : ∀ args w, (callFunc g0 args).run Try.prog w = .ok (.enter g0 args) w)
    (hp : ∀ w0 L0 a w L, RelL (Sy.fixed m v) w0 L0 N σ a w L → ∀ blk, L blk = .my [s] → PredAt Try.prog g0 (caps.map fun s => a.tmps.getD s undef).toArray (Value.int .i64) p w ∧ PredOver Try.prog g0 (caps.map fun s => a.tmps.getD s undef).toArray (Value.int .i64) p blk 0 l.length w)
    (h : J false (Sy.fixed m v) N ops k K (putM [(s, 0)] [.dead, .dead] (σ.put d (.av (.sl true 1 ((l.filter fun x => !p x).map .int)))))) :
    J false (Sy.fixed m v) N ops (⟨some d, .call ⟨.value (.func 11), #[.tmp t1, .tmp t2], ts⟩, ty, pos, aft, g⟩ :: k) K σ := by
  refine J.callML (xs := [.tmp t2]) (op := .tmp t1) del_ok rfl hg h1 h2 h3 (fun w0 L0 a w L hR hpre hrep => ?_) noSh_ints ⟨.dead, rfl, .dead⟩ h
  obtain ⟨blk, cap, hv, hH, hb, hL, hcap, hB⟩ := back_del (f := a.eval (.tmp t2)) hpre hrep hne
  have hLs : L blk = .my [s] := by
    obtain ⟨t, i, q, e1, e2, e3⟩ := inM_my hL
    cases e3
    simp only [idxM] at e2
    cases hb' : Nat.beq s t with
    | false => rw [hb', cond_false] at e2; cases e2
    | true => have := Nat.eq_of_beq_eq_true hb'; subst this; exact e1
  obtain ⟨p1, p2⟩ := hp w0 L0 a w L hR blk hLs
  have hf := hR.hold t2 (own_lt hR ht2 (by simp))
  rw [ht2] at hf
  simp only [Hold] at hf
  have hfe : a.eval (.tmp t2) = .func (.func g0) #[] (caps.map fun s => a.tmps.getD s undef).toArray := hf
  have hcon := AnyE.slices_DeleteFunc ldel (Value.int .i64) (fun _ => rfl) p g0 _ eg 0 (fun w => Try.zeroValue3 w) blk 0 cap l.toArray w p1 (by simpa using p2) hH (by simpa using hl) (by simpa using hcap)
  change Calls Try.prog 11 #[.slice (some ⟨blk, 0, none⟩) l.length cap, .func (.func g0) #[] (caps.map fun s => a.tmps.getD s undef).toArray] w (fun e w' => e = .returned (.slice (some ⟨blk, 0, none⟩) (l.filter fun x => !p x).length cap) ∧ ∃ q, w' = Go.Sort.putRow (Value.int .i64) (Go.Sort.ahead w q) blk 0 ((l.filter fun x => !p x) ++ List.replicate (l.length - (l.filter fun x => !p x).length) 0).toArray) at hcon
  simp only [List.map_cons, List.map_nil, hv, hfe]
  refine hcon.mono fun e w' ⟨he, q, hw⟩ => ?_
  subst hw
  obtain ⟨L', hB'⟩ := hB (l.filter fun x => !p x) q (List.length_filter_le ..)
  rw [hv, hfe] at hB'
  exact ⟨_, L', he, hB'⟩
end Go.Proofs.Ytohgcgedbhlnfaa
