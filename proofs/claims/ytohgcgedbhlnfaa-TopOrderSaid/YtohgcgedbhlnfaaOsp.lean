/- The reference: what is an order. -/
import Derived.Test.YtohgcgedbhlnfaaOr
import Derived.Test.YtohgcgedbhlnfaaSt
import Derived.Test.YtohgcgedbhlnfaaAp
namespace Go.Proofs.Ytohgcgedbhlnfaa
open Go FM
set_option maxRecDepth 10000
set_option maxHeartbeats 1600000
set_option linter.all false
theorem inc_len : ∀ (l : List Int) (a b : Int), l.Pairwise (· < ·) → (∀ x ∈ l, a ≤ x ∧ x < b) → (l.length : Int) ≤ b - a ∨ l = []
  | [], _, _, _, _ => .inr rfl
  | x :: r, a, b, hp, hm => by
    left
    obtain ⟨h1, h2⟩ := List.pairwise_cons.1 hp
    have hx := hm x (List.mem_cons_self ..)
    rcases inc_len r (x + 1) b h2 (fun y hy => by have := h1 y hy; have := hm y (List.mem_cons_of_mem _ hy); omega) with h | h
    · rw [List.length_cons]; omega
    · subst h; simp; omega
theorem inc_eq : ∀ (l : List Int) (a : Int), l.Pairwise (· < ·) → (∀ x ∈ l, a ≤ x ∧ x < a + l.length) → ∀ (k : Nat) (h : k < l.length), l[k] = a + k
  | [], _, _, _, k, h => by simp at h
  | x :: r, a, hp, hm, k, h => by
    obtain ⟨h1, h2⟩ := List.pairwise_cons.1 hp
    have hx := hm x (List.mem_cons_self ..)
    rw [List.length_cons] at hx
    have hlow : ∀ y ∈ r, x + 1 ≤ y ∧ y < a + (r.length + 1 : Nat) := fun y hy => by
      have := h1 y hy; have := hm y (List.mem_cons_of_mem _ hy); rw [List.length_cons] at this; omega
    have hxa : x = a := by
      rcases inc_len r (x + 1) (a + (r.length + 1 : Nat)) h2 hlow with h | h
      · omega
      · subst h; simp at hx; omega
    subst hxa
    cases k with
    | zero => simp
    | succ k =>
      have := inc_eq r (x + 1) h2 (fun y hy => by have := hlow y hy; omega) k (by simpa using h)
      rw [List.getElem_cons_succ, this]; omega
theorem iota_get {n k : Nat} (h : k < n) : (iota n)[k]'(by rw [iota_length]; exact h) = k := by simp [iota]
theorem iota_mem' {n : Nat} {x : Int} : x ∈ iota n ↔ 0 ≤ x ∧ x < n := by
  simp only [iota, List.mem_map, List.mem_range]
  constructor
  · rintro ⟨k, hk, rfl⟩; omega
  · intro h; exact ⟨x.toNat, by omega, by omega⟩
theorem iota_nodup (n : Nat) : (iota n).Nodup := by
  unfold iota
  rw [List.nodup_iff_pairwise_ne, List.pairwise_map]
  exact List.pairwise_lt_range.imp fun h e => by omega
theorem srt_perm (l : List Int) : (srt l).Perm l := List.mergeSort_perm l _
theorem srt_length (l : List Int) : (srt l).length = l.length := List.length_mergeSort l
theorem srt_sorted (l : List Int) : (srt l).Pairwise (· ≤ ·) := by
  have := List.pairwise_mergeSort (le := fun (x y : Int) => decide (x ≤ y)) (fun a b c h1 h2 => by simp at *; omega) (fun a b => by simp; omega) l
  exact this.imp fun h => of_decide_eq_true h
theorem srt_iota {n : Nat} {p : List Int} (hl : p.length = n) : srt p = iota n ↔ okO n p := by
  constructor
  · intro h
    have hp := srt_perm p
    rw [h] at hp
    refine ⟨fun x hx => ?_, ?_, by rw [hl]⟩
    · exact iota_mem'.1 (hp.mem_iff.2 hx)
    · exact hp.nodup_iff.1 (iota_nodup n)
  · rintro ⟨h1, h2, _⟩
    have hp := srt_perm p
    have hnd : (srt p).Nodup := hp.nodup_iff.2 h2
    have hlt : (srt p).Pairwise (· < ·) := by
      have := List.Pairwise.and (srt_sorted p) (List.nodup_iff_pairwise_ne.1 hnd)
      exact this.imp fun ⟨a, b⟩ => by omega
    have hlen : (srt p).length = n := by rw [srt_length, hl]
    apply List.ext_getElem
    · rw [hlen, iota_length]
    · intro k hk1 hk2
      rw [inc_eq (srt p) 0 hlt (fun x hx => by have := h1 x (hp.mem_iff.1 hx); omega) k hk1, iota_get (by omega)]
      omega
end Go.Proofs.Ytohgcgedbhlnfaa
