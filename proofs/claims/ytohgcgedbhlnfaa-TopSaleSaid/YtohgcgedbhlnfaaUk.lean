/- units.Sell, walked: its closure, its stable sort. -/
import Derived.Test.YtohgcgedbhlnfaaUs
import Derived.Test.YtohgcgedbhlnfaaRj
import Derived.Test.YtohgcgedbhlnfaaCt
import Derived.Test.YtohgcgedbhlnfaaRz
import Derived.Test.YtohgcgedbhlnfaaAk
namespace Go.Proofs.Ytohgcgedbhlnfaa
open Go FM Go.Proofs Go.Shelf Go.RowKit Go.Lib
set_option maxRecDepth 10000
set_option maxHeartbeats 1600000
set_option linter.all false
theorem sell1 (n i k off cap B b : Nat) (x y : Int) (hi : i < n) (hk : k < n) (W : World) (hc : W.cell? ⟨B, 0, none⟩ = some (.slice (some ⟨b, off, none⟩) n cap)) (hx : W.cell? ⟨b, off + i, none⟩ = some (.int .i64 x)) (hy : W.cell? ⟨b, off + k, none⟩ = some (.int .i64 y))
    (hx0 : 0 ≤ x ∧ x ≤ 1000000) (hy0 : 0 ≤ y ∧ y ≤ 1000000) (hn : n ≤ 1000000) :
    Calls Try.prog 97 #[.int .i64 i, .int .i64 k, .pointer (some ⟨B, 0, none⟩)] W fun e w' => e = .returned (.int .i64 (y - x)) ∧ ∃ q, w' = W.drewN q := by
  have hi' : (i : Int) < (n : Int) := by omega
  have hk' : (k : Int) < (n : Int) := by omega
  have hi0 : (0 : Int) ≤ (i : Int) := by omega
  have hk0 : (0 : Int) ≤ (k : Int) := by omega
  have w1 : IntKind.i64.wrap (y - x) = y - x := IntWalk.i64_in _ (by omega)
  go_enter Try.func97, Try.ntmps97
  go_wp2
  go_quiet (fail)
  go_wp2
  all_goals (go_ret; exact ⟨by simp_all, _, rfl⟩)
theorem sell_cmp (bids : List Int) (m : Nat) (hm : bids.length = m + 1) (hr : ∀ i, 0 ≤ at0 bids i ∧ at0 bids i ≤ 1000000) (hbig : m ≤ 100000) (w : World) (blk B b off cap : Nat) (h1 : B ≠ blk) (h2 : b ≠ blk) (h3 : B < w.heap.size) (h4 : b < w.heap.size)
    (hc : w.cell? ⟨B, 0, none⟩ = some (.slice (some ⟨b, off, none⟩) bids.length cap)) (hz : ∀ j, (hj : j < bids.length) → w.cell? ⟨b, off + j, none⟩ = some (.int .i64 bids[j])) (sz : Nat) :
    CmpLays1 Try.prog 97 #[.pointer (some ⟨B, 0, none⟩)] (fun x : Fin (m + 1) => .int .i64 (x.val : Int)) (fun x y => at0 bids y.val - at0 bids x.val) blk 0 sz w := by
  intro q os dk _ x y
  have hx : x.val < bids.length := by omega
  have hy : y.val < bids.length := by omega
  have := sell1 bids.length x.val y.val off cap B b (at0 bids x.val) (at0 bids y.val) hx hy (Go.Proofs.sortWorld (fun x : Fin (m + 1) => .int .i64 (x.val : Int)) w blk 0 q dk os) (cell_sortE _ h3 h1 hc) (by rw [at0_get hx]; exact cell_sortE _ h4 h2 (hz _ hx)) (by rw [at0_get hy]; exact cell_sortE _ h4 h2 (hz _ hy)) (hr _) (hr _) (by omega)
  exact this.mono fun e w' ⟨he, k, hw⟩ => ⟨he, k, #[], by rw [hw, Go.Sort.grow_empty]⟩
theorem sorts_calls {α : Type} [Inhabited α] (enc : α → Value) (hO : Go.Proofs.OneCell enc) (cf : α → α → Int) (g : Nat) (cb : Array Value) (blk cap : Nat) (d : Array α) (w : World)
    (eg : ∀ args w, (callFunc g args).run Try.prog w = .ok (.enter g args) w) (hcmp : CmpLays1 Try.prog g cb enc cf blk 0 d.size w) (hH : Go.Sort.Holds enc w blk 0 d) (hblk : blk < w.heap.size) (hsz : d.size < 20) :
    Calls Try.prog 96 #[.slice (some ⟨blk, 0, none⟩) d.size cap, .func (.func g) #[] cb] w fun e w' => e = .returned (.tuple #[]) ∧ SW enc w blk 0 (Go.Sort.insertionSort (ltOf cf) d 0 d.size) w' := by
  have hi := stable_calls enc hO cf g cb blk cap d w eg hcmp hH hblk hsz
  clear hH hcmp
  go_enter Try.func96, Try.ntmps96
  go_wp2_with fail
  refine hi.mono ?_
  rintro e w' ⟨rfl, hS⟩
  go_wp2
  go_end0
  exact ⟨rfl, hS⟩
theorem sorts_none (p : Option Addr) (cap : Nat) (fv : Value) (w : World) : Calls Try.prog 96 #[.slice p 0 cap, fv] w fun e w' => e = .returned (.tuple #[]) ∧ w' = w := by
  have hi : Calls Try.prog 136 #[.slice p 0 cap, .int .i64 0, .int .i64 0, fv] w fun e w' => e = .returned (.tuple #[]) ∧ w' = w := AnyF.insertionSortCmpFunc_none (P := Try.prog) (ρ := lsf_ren) { lsf with } p cap fv w
  have hs : Calls Try.prog 114 #[.slice p 0 cap, .int .i64 0, fv] w fun e w' => e = .returned (.tuple #[]) ∧ w' = w := by
    go_enter Try.func114, Try.ntmps114
    go_wp2
    refine wp_loop_rounds 1 ?_
    rw [rounds_succ]
    go_wp2_with fail
    refine hi.mono ?_
    rintro e w' ⟨rfl, rfl⟩
    go_wp2
    refine wp_loop_rounds 1 ?_
    rw [rounds_succ]
    go_wp2
    go_end0
    exact ⟨rfl, rfl⟩
  go_enter Try.func96, Try.ntmps96
  go_wp2_with fail
  refine hs.mono ?_
  rintro e w' ⟨rfl, rfl⟩
  go_wp2
  go_end0
  exact ⟨rfl, rfl⟩
theorem sorts_fin (bids : List Int) (n : Nat) : (Go.Sort.insertionSort (ltOf fun x y : Fin (n + 1) => at0 bids y.val - at0 bids x.val) (List.finRange (n + 1)).toArray 0 (List.finRange (n + 1)).toArray.size) = ((List.finRange (n + 1)).mergeSort fun x y => rkLe bids x.val y.val).toArray := by
  have hd : ∀ j, (hj : j < n + 1) → (List.finRange (n + 1)).toArray[j]! = (⟨j, hj⟩ : Fin (n + 1)) := fun j hj => by
    rw [getElem!_pos (List.finRange (n + 1)).toArray j (by simpa using hj)]; simp
  have e := ins_eq (fun x : Fin (n + 1) => x.val) (lt1 := ltOf fun x y : Fin (n + 1) => at0 bids y.val - at0 bids x.val) (lt2 := ltOf fun x y : Fin (n + 1) => rkF bids x.val y.val) (fun x y h => by
    unfold ltOf rkF
    rw [decide_eq_decide]
    dsimp only
    split <;> constructor <;> intro <;> omega) (List.finRange (n + 1)).toArray (fun p q h1 h2 => by
    have h2' : q < n + 1 := by simpa using h2
    rw [hd p (by omega), hd q h2']; exact h1)
  rw [e]
  obtain ⟨h1, h2⟩ := Go.Sort.insertionSort_holds (lt := ltOf fun x y : Fin (n + 1) => rkF bids x.val y.val) (rank_swo bids n) (List.finRange (n + 1)).toArray 0 _ (Nat.zero_le _) (Nat.le_refl _)
  have := Go.Sort.sorted_unique_holds (rank_swo bids n) (fun x y h1 h2 => by
      unfold ltOf rkF at h1 h2
      simp only [decide_eq_false_iff_not] at h1 h2
      apply Fin.ext
      split at h1 <;> split at h2 <;> omega) _ _ h1 h2
  apply Array.toList_inj.1
  rw [this]
  rfl
theorem sorts_ok : FnOk Sy.P 96 := ⟨_, Try.func96, rfl, rfl⟩
theorem stabJ {m : Nat} {v : Nat → Value} {N : Nat} {σ : FM.St} {bids : List Int} {t1 t2 s c d ty : Nat} {ops : Array Oper} {k : List Oper} {K : FM.St → Prop} {ts : Array Nat} {pos : String} {aft : Array Edge} {g : Option (Nat × Bool)} (hg : live ops g σ = some true)
    (h1 : slotAt σ (.tmp t1) = some s) (h2 : FM.get σ s = .av (.sl true 1 ((iota bids.length).map .int))) (hB : BOk bids 0) (h3 : Nat.beq s d = false) (ht2 : FM.get σ t2 = .clo 97 [c]) (hbx : FM.get σ c = .av (.pt true [.sl false 1 (bids.map .int)])) (hsc : Nat.beq s c = false)
    (h : J false (Sy.fixed m v) N ops k K (putM [(s, 0)] [.sl true 1 ((rk bids).map .int), .dead] (σ.put d (.av (.tup []))))) :
    J false (Sy.fixed m v) N ops (⟨some d, .call ⟨.value (.func 96), #[.tmp t1, .tmp t2], ts⟩, ty, pos, aft, g⟩ :: k) K σ := by
  refine J.callML (xs := [.tmp t2]) (op := .tmp t1) sorts_ok rfl hg h1 h2 h3 (fun w0 L0 a w L hR hpre hrep => ?_) noSh_unit ⟨_, rfl, noSh_ints⟩ h
  have hlen := hB.len
  have hfe := clo_eval ht2 hR
  by_cases hne : bids = []
  · subst hne
    have : ∃ x cap, a.eval (.tmp t1) = .slice x 0 cap := sl_inv hrep
    obtain ⟨x, cap, hv⟩ := this
    simp only [List.map_cons, List.map_nil, hv]
    refine (sorts_none x cap (a.eval (.tmp t2)) w).mono fun e w' ⟨he, hw⟩ => ?_
    subst hw
    refine ⟨_, inM [(s, 0)] L, he, ⟨rfl, rfl, rfl, Nat.le_refl _, fun _ _ _ => rfl⟩, ⟨hpre.lt, hpre.inj, fun b' p hp e => ?_, fun b' p _ hp => ⟨p, hp⟩, fun b' _ => Iff.rfl, hpre.new⟩, fun b' p hp => ?_, fun i x u hx hu => ?_, .tup rfl fun i x v h => by simp at h⟩
    · subst e; obtain ⟨i, q, h, _⟩ := hpre.head b' [] hp; cases h
    · obtain ⟨i, q, h, h2⟩ := hpre.head b' p hp; exact ⟨i, q, h, Nat.le_of_lt h2⟩
    · match i with
      | 0 =>
        simp only [List.getElem?_cons_zero, Option.some.injEq] at hx hu
        subst hx; subst hu
        have e0 : rk ([] : List Int) = iota ([] : List Int).length := by
          have a1 : rk ([] : List Int) = [] := List.eq_nil_of_length_eq_zero (by simpa using (rk_ok ([] : List Int)).length)
          have a2 : iota ([] : List Int).length = [] := List.eq_nil_of_length_eq_zero (iota_length _)
          rw [a1, a2]
        rw [← hv, e0]; exact hrep
      | 1 => simp only [List.getElem?_cons_succ, List.getElem?_cons_zero, Option.some.injEq] at hx; subst hx; exact .dead
      | i + 2 => simp at hx
  obtain ⟨n, hn⟩ : ∃ n, bids.length = n + 1 := ⟨bids.length - 1, by have := List.length_pos_iff.2 hne; omega⟩
  have hil : (iota bids.length).length = bids.length := iota_length _
  have hrl : (rk bids).length = bids.length := (rk_ok bids).length
  obtain ⟨blk, cap, hv, hH, hb, hL, hBk⟩ := back_row (l := iota bids.length) (l' := rk bids) (n := 2) (rest := [.dead]) (vrest := [a.eval (.tmp t2)]) hpre hrep (by rw [hrl, hil]) (fun e => by rw [e] at hil; simp at hil; omega) rfl rfl (fun i x u hx hu => by
    match i with
    | 0 => simp only [List.getElem?_cons_zero, Option.some.injEq] at hx; subst hx; exact ⟨.dead, rfl⟩
    | i + 1 => simp at hx)
  have hLs := inM_one hL
  have hh := hR.hold c (own_lt hR hbx (by simp))
  rw [hbx] at hh
  simp only [Hold] at hh
  obtain ⟨B, hLB, hpv, hlt, hcc⟩ := pt_at hh
  obtain ⟨u, hu, hru⟩ := hcc 0 _ rfl
  obtain ⟨b, off, cap2, hub, hLb, hbl, hcells⟩ := sh_row hru hne
  subst hub
  have e1 : B ≠ blk := fun e => by subst e; rw [hLB] at hLs; cases hLs; rw [Nat.beq_refl] at hsc; cases hsc
  have e2 : b ≠ blk := fun e => by subst e; rw [hLb] at hLs; cases hLs
  have hcb : ((List.map Operand.tmp [c]).map a.eval).toArray = #[.pointer (some ⟨B, 0, none⟩)] := by
    show #[a.tmps.getD c undef] = _
    rw [hpv]
  rw [hcb] at hfe
  have hcmp := sell_cmp bids n hn hB.at (by omega) w blk B b off cap2 e1 e2 hlt hbl hu hcells (List.finRange (n + 1)).toArray.size
  have hHF : Go.Sort.Holds (fun x : Fin (n + 1) => .int .i64 (x.val : Int)) w blk 0 (List.finRange (n + 1)).toArray := fun j hj => by
    have hj' : j < n + 1 := by simpa using hj
    have := hH j (by simp [hil]; omega)
    have e3 : (List.finRange (n + 1)).toArray[j]! = ⟨j, hj'⟩ := by
      rw [getElem!_pos (List.finRange (n + 1)).toArray j hj]; simp
    have e4 : (iota bids.length).toArray[j]! = (j : Int) := by
      rw [getElem!_pos (iota bids.length).toArray j (by simp [hil]; omega)]; simp [iota]
    rw [e4] at this
    rw [e3]
    exact this
  have eg : ∀ args w, (callFunc 97 args).run Try.prog w = .ok (.enter 97 args) w := enters_of Try.func97 (by kernel_rfl) rfl
  have hcon := sorts_calls (fun x : Fin (n + 1) => .int .i64 (x.val : Int)) (fun _ => rfl) (fun x y : Fin (n + 1) => at0 bids y.val - at0 bids x.val) 97 _ blk cap (List.finRange (n + 1)).toArray w eg hcmp hHF hb (by simp; omega)
  have hsz : (List.finRange (n + 1)).toArray.size = (iota bids.length).length := by rw [hil, hn]; simp
  rw [sorts_fin bids n, hsz] at hcon
  simp only [List.map_cons, List.map_nil, hv, hfe]
  rw [hv, hfe] at hBk
  refine Calls.mono hcon fun e w' ⟨he, q, os, hw⟩ => ?_
  have hpr : w' = Go.Sort.grow (Go.Sort.putRow (Value.int .i64) (Go.Sort.ahead w q) blk 0 (rk bids).toArray) os := by
    rw [hw, rk_fin bids n hn]
    unfold Go.Proofs.sortWorld
    rw [putRow_val (f := fun x : Fin (n + 1) => (x.val : Int)) (fun _ => rfl)]
  obtain ⟨L', hB'⟩ := hBk q os
  rw [← hpr] at hB'
  exact ⟨_, L', he, hB'⟩
end Go.Proofs.Ytohgcgedbhlnfaa
