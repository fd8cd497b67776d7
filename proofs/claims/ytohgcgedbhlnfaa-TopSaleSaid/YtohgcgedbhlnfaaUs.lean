/- A stable sort of few by a closure: the library's insertion sort does as it would by the order in which equals keep their places. -/
import Derived.Test.YtohgcgedbhlnfaaRk
import Derived.Test.YtohgcgedbhlnfaaLf
import Derived.Shelf.SlSortCmp.NoneTotal
namespace Go.Proofs.Ytohgcgedbhlnfaa
open Go Go.Proofs Go.Shelf Go.RowKit Go.Lib Go.Sort
set_option linter.all false
section
variable {α : Type} [Inhabited α] (f : α → Nat) {lt1 lt2 lt : α → α → Bool}
theorem inn_facts (a : Nat) : ∀ (j : Nat) (d : Array α), j < d.size → (insInner lt a j d).size = d.size ∧ (∀ q, j < q → (insInner lt a j d)[q]! = d[q]!) ∧ ∀ p, p ≤ j → ∃ p', p' ≤ j ∧ (insInner lt a j d)[p]! = d[p']!
  | 0, d, _ => ⟨rfl, fun _ _ => rfl, fun p hp => ⟨p, hp, rfl⟩⟩
  | j + 1, d, h => by
    rw [insInner]
    split
    · have hs : (swp d (j + 1) j).size = d.size := size_swp _ _ _
      have g := swp_get d h (show j < d.size by omega)
      obtain ⟨h1, h2, h3⟩ := inn_facts a j (swp d (j + 1) j) (by omega)
      refine ⟨h1.trans hs, fun q hq => ?_, fun p hp => ?_⟩
      · rw [h2 q (by omega), g, if_neg (by omega), if_neg (by omega)]
      · by_cases hpj : p ≤ j
        · obtain ⟨p', hp', e⟩ := h3 p hpj
          rw [e, g]
          split
          · exact ⟨_, by omega, rfl⟩
          · split
            · exact ⟨_, by omega, rfl⟩
            · exact ⟨p', by omega, rfl⟩
        · rw [h2 p (by omega), g]
          split
          · exact ⟨_, by omega, rfl⟩
          · split
            · exact ⟨_, by omega, rfl⟩
            · exact ⟨p, by omega, rfl⟩
    · exact ⟨rfl, fun _ _ => rfl, fun p hp => ⟨p, hp, rfl⟩⟩
theorem inn_eq (h : ∀ x y, f y < f x → lt1 x y = lt2 x y) : ∀ (j : Nat) (d : Array α), j < d.size → (∀ p, p < j → f d[p]! < f d[j]!) → insInner lt1 0 j d = insInner lt2 0 j d
  | 0, d, _, _ => rfl
  | j + 1, d, hj, hp => by
    rw [insInner, insInner, h _ _ (hp j (by omega))]
    have g := swp_get d hj (show j < d.size by omega)
    split
    · refine inn_eq h j _ (by rw [size_swp]; omega) fun p hpj => ?_
      rw [g, g, if_neg (by omega), if_neg (by omega), if_pos rfl]
      exact hp p (by omega)
    · rfl
theorem out_eq (h : ∀ x y, f y < f x → lt1 x y = lt2 x y) (b : Nat) : ∀ (k i : Nat) (d : Array α), b - i = k → b ≤ d.size → (∀ p q, p < q → q < b → i ≤ q → f d[p]! < f d[q]!) → insOuter lt1 0 b i d = insOuter lt2 0 b i d
  | 0, i, d, hk, hb, hp => by
    rw [insOuter_stop lt1 0 b i d (by omega), insOuter_stop lt2 0 b i d (by omega)]
  | k + 1, i, d, hk, hb, hp => by
    have hib : i < b := by omega
    rw [insOuter_go lt1 0 b i d hib, insOuter_go lt2 0 b i d hib, inn_eq f h i d (by omega) (fun p hpi => hp p i hpi hib (Nat.le_refl _))]
    obtain ⟨h1, h2, h3⟩ := inn_facts (lt := lt2) 0 i d (by omega)
    refine out_eq h b k (i + 1) _ (by omega) (by omega) fun p q hpq hqb hiq => ?_
    rw [h2 q (by omega)]
    by_cases hpi : p ≤ i
    · obtain ⟨p', hp', e⟩ := h3 p hpi
      rw [e]
      exact hp p' q (by omega) hqb (by omega)
    · rw [h2 p (by omega)]
      exact hp p q hpq hqb (by omega)
theorem ins_eq (h : ∀ x y, f y < f x → lt1 x y = lt2 x y) (d : Array α) (hd : ∀ p q, p < q → q < d.size → f d[p]! < f d[q]!) : insertionSort lt1 d 0 d.size = insertionSort lt2 d 0 d.size := by
  unfold insertionSort
  exact out_eq f h d.size _ _ d rfl (Nat.le_refl _) fun p q h1 h2 _ => hd p q h1 h2
end
set_option maxHeartbeats 2000000 in
set_option maxRecDepth 100000 in
theorem stable_calls {α : Type} [Inhabited α] (enc : α → Value) (hO : OneCell enc) (cf : α → α → Int) (g : Nat) (cb : Array Value) (blk cap : Nat) (d : Array α) (w : World)
    (eg : ∀ args w, (callFunc g args).run Try.prog w = .ok (.enter g args) w) (hcmp : CmpLays1 Try.prog g cb enc cf blk 0 d.size w) (hH : Holds enc w blk 0 d) (hblk : blk < w.heap.size) (hsz : d.size < 20) :
    Calls Try.prog 114 #[.slice (some ⟨blk, 0, none⟩) d.size cap, .int .i64 d.size, .func (.func g) #[] cb] w fun e w' => e = .returned (.tuple #[]) ∧ SW enc w blk 0 (insertionSort (ltOf cf) d 0 d.size) w' := by
  have hi := Any.insertionSortCmpFunc_s (P := Try.prog) (ρ := lsf_ren) { lsf with } enc cf g cb blk 0 cap 0 d.size d d w w eg hcmp ⟨hO, hH, hblk⟩ rfl (SW.start hH) (Nat.zero_le _) (Nat.le_refl _) (by omega)
  have h20 : ¬ (20 : Int) ≤ (d.size : Int) := by omega
  have h21 : ¬ (20 : Int) < (d.size : Int) := by omega
  clear hH hcmp
  have hi : Calls Try.prog 136 #[.slice (some ⟨blk, 0, none⟩) d.size cap, .int .i64 0, .int .i64 d.size, .func (.func g) #[] cb] w fun e w' => e = .returned (.tuple #[]) ∧ SW enc w blk 0 (insertionSort (ltOf cf) d 0 d.size) w' := hi
  go_enter Try.func114, Try.ntmps114
  go_wp2
  refine wp_loop_rounds 1 ?_
  rw [rounds_succ]
  go_wp2_with fail
  refine hi.mono ?_
  rintro e w' ⟨rfl, hS⟩
  go_wp2
  refine wp_loop_rounds 1 ?_
  rw [rounds_succ]
  go_wp2
  go_end0
  exact ⟨rfl, hS⟩
end Go.Proofs.Ytohgcgedbhlnfaa
