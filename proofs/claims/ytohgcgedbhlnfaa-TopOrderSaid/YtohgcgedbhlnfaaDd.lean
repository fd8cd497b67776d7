/- slices.Delete of one element, on what a slot owns: walked here (the shelf's contract asks for a bound on the capacity that nothing tells). -/
import Derived.Test.YtohgcgedbhlnfaaDl
import Derived.Test.YtohgcgedbhlnfaaCl
import Derived.Deep.RegionLaw
import Derived.Lib.SliceRun
import Derived.Lib.SlicesDelete
import Derived.Shelf.SlicesE.Kit
import Derived.Sort.WalkB12
namespace FM
open Go Go.RowKit
set_option linter.all false
theorem back_del3 {L : Nat → Lab} {w : World} {v f f2 : Value} {l : List Int} (hpre : FM.Pre 3 L w) (hrep : Rep L w (some [0]) (.sl true 1 (l.map .int)) v) (hne : l ≠ []) :
    ∃ blk cap, v = .slice (some ⟨blk, 0, none⟩) l.length cap ∧ Go.Sort.Holds (Value.int .i64) w blk 0 l.toArray ∧ blk < w.heap.size ∧ L blk = .my [0] ∧ l.length ≤ cap ∧
      ∀ (fl : List Int) (k : Nat), fl.length ≤ l.length → ∃ L', FM.Back 3 [.dead, .dead, .dead] (.sl true 1 (fl.map .int)) L w [v, f, f2] (.slice (some ⟨blk, 0, none⟩) fl.length cap) (Go.Sort.putRow (Value.int .i64) (Go.Sort.ahead w k) blk 0 (fl ++ List.replicate (l.length - fl.length) 0).toArray) L' := by
  cases hl0 : l with
  | nil => exact absurd hl0 hne
  | cons x0 l0 =>
  rw [← hl0]
  generalize hxs : l.map AV.int = xs at hrep
  cases hrep with
  | slE h => rw [hl0] at hxs; cases hxs
  | @slO p c xs b cap arr e u hL hb hcap hsz hc hcell hr =>
    subst hxs
    have hbl : b < w.heap.size := (Array.getElem?_eq_some_iff.1 hb).1
    have hval : ∀ j, (hj : j < l.length) → arr[j]? = some (.int .i64 l[j]) := fun j hj => by
      have h1 := hcell j (by rw [List.length_map]; omega)
      have h2 := hr j (.int l[j]) (by rw [flat_single (fun x hx => by obtain ⟨y, _, rfl⟩ := List.mem_map.1 hx; rfl), List.getElem?_map, List.getElem?_eq_getElem hj]; rfl)
      rw [h1]
      generalize u j = z at h2
      cases h2; rfl
    rw [List.length_map] at hcap ⊢
    rw [Nat.mul_one] at hsz
    refine ⟨b, cap, rfl, fun j hj => ?_, hbl, hL, hcap, fun fl k hfl => ?_⟩
    · have hj' : j < l.length := by simpa using hj
      refine ⟨?_, ?_⟩
      · rw [cell_of_row w b (0 + j) arr e (0, 0) hb, Nat.zero_add, hval j hj']
        simp [hj']
      · simp only [World.frozen?, hb]; simp
    · obtain ⟨W, hW⟩ : ∃ W, W = Go.Sort.putRow (Value.int .i64) (Go.Sort.ahead w k) b 0 (fl ++ List.replicate (l.length - fl.length) 0).toArray := ⟨_, rfl⟩
      rw [← hW]
      have hWs : W.heap.size = w.heap.size := by rw [hW]; simp [Go.Sort.putRow, Go.Sort.mapBlock, Go.Sort.ahead]
      have hWo : W.os = w.os := by rw [hW]; rfl
      have hWt : W.tape = w.tape := by rw [hW]; rfl
      have hWu : W.output = w.output := by rw [hW]; rfl
      have hWb : W.heap[b]? = some (.cells (Go.Sort.putCells (Value.int .i64) 0 (fl ++ List.replicate (l.length - fl.length) 0).toArray arr) e (0, 0)) := by
        rw [hW]
        simp only [Go.Sort.putRow, Go.Sort.mapBlock, Go.Sort.ahead]
        rw [Array.getElem?_modify, if_pos rfl, hb]; rfl
      have hWk : ∀ b', b' ≠ b → W.heap[b']? = w.heap[b']? := fun b' h2 => by
        rw [hW]
        simp only [Go.Sort.putRow, Go.Sort.mapBlock, Go.Sort.ahead]
        rw [Array.getElem?_modify, if_neg (fun e => h2 e.symm)]
      clear hW
      obtain ⟨L', hL'⟩ : ∃ L' : Nat → Lab, L' = fun b' => if b' = b then .my [3] else L b' := ⟨_, rfl⟩
      have l1 : L' b = .my [3] := by rw [hL']; simp
      have l2 : ∀ b', b' ≠ b → L' b' = L b' := fun b' h => by rw [hL']; simp [h]
      clear hL'
      have lno : ∀ b', L b' ≠ .my [3] := fun b' h => by obtain ⟨i, q, e1, e2⟩ := hpre.head b' _ h; cases e1; omega
      refine ⟨L', ⟨hWo, hWt, hWu, by omega, fun b' h1 h2 => hWk b' (fun e => by subst e; exact h2 _ hL)⟩, ⟨fun b' p hp => ?_, fun b1 b2 p h1 h2 => ?_, fun b' p hp e => ?_, fun b' p _ hp => ?_, fun b' _ => ?_, fun b' h1 h2 => ?_⟩, fun b' p hp => ?_, fun i x u' hx hu => ?_, ?_⟩
      · by_cases e : b' = b
        · subst e; omega
        · rw [l2 b' e] at hp; have := hpre.lt b' p hp; omega
      · by_cases e1 : b1 = b
        · subst e1
          rw [l1] at h1; cases h1
          by_cases e2 : b2 = b1
          · exact e2.symm
          · rw [l2 b2 e2] at h2; exact absurd h2 (lno b2)
        · rw [l2 b1 e1] at h1
          by_cases e2 : b2 = b
          · subst e2
            rw [l1] at h2; cases h2
            exact absurd h1 (lno b1)
          · rw [l2 b2 e2] at h2; exact hpre.inj b1 b2 p h1 h2
      · subst e
        by_cases e : b' = b
        · subst e; rw [l1] at hp; cases hp
        · rw [l2 b' e] at hp; obtain ⟨i, q, h, _⟩ := hpre.head b' [] hp; cases h
      · by_cases e : b' = b
        · subst e; exact ⟨_, hL⟩
        · rw [l2 b' e] at hp; exact ⟨p, hp⟩
      · by_cases e : b' = b
        · subst e; rw [l1, hL]; constructor <;> intro h <;> cases h
        · rw [l2 b' e]
      · by_cases e : b' = b
        · subst e; omega
        · rw [l2 b' e] at h2; exact hpre.new b' h1 h2
      · by_cases e : b' = b
        · subst e; rw [l1] at hp; cases hp; exact ⟨3, [], rfl, Nat.le_refl _⟩
        · rw [l2 b' e] at hp; obtain ⟨i, q, h, h2⟩ := hpre.head b' p hp; exact ⟨i, q, h, by omega⟩
      · match i, hx with
        | 0, hx => cases hx; exact .dead
        | 1, hx => cases hx; exact .dead
        | 2, hx => cases hx; exact .dead
        | i + 3, hx => simp at hx
      · have hsl : (fl.map AV.int).length = fl.length := List.length_map _
        rw [← hsl]
        refine .slO (fun o => .int .i64 (fl.getD o 0)) l1 hWb (by rw [hsl]; omega) (by simp [Go.Sort.putCells, hsz]) (fun y hy => by obtain ⟨z, _, rfl⟩ := List.mem_map.1 hy; rfl) (fun o ho => ?_) fun o y hy => ?_
        · rw [hsl, Nat.mul_one] at ho
          have hoa : o < arr.size := by omega
          simp only [Go.Sort.putCells, Array.getElem?_mapIdx, Array.getElem?_eq_getElem hoa, Option.map_some]
          rw [if_pos ⟨Nat.zero_le _, by simp; omega⟩]
          have hg : (fl ++ List.replicate (l.length - fl.length) 0).toArray[o - 0]! = fl.getD o 0 := by
            rw [Nat.sub_zero, getElem!_pos _ _ (by simp; omega)]
            simp only [List.getElem_toArray]
            rw [List.getElem_append_left ho, List.getD_eq_getElem?_getD, List.getElem?_eq_getElem ho]; rfl
          rw [hg]
        · rw [flat_single (fun x hx => by obtain ⟨y, _, rfl⟩ := List.mem_map.1 hx; rfl), List.getElem?_map, Option.map_eq_some_iff] at hy
          obtain ⟨z, hz, rfl⟩ := hy
          rw [List.getD_eq_getElem?_getD, hz]; exact .int
end FM
namespace Go.Proofs.Ytohgcgedbhlnfaa
open Go FM Go.Proofs Go.RowKit Go.Lib Go.Sort Go.Shelf
set_option linter.all false
set_option maxHeartbeats 4000000
set_option maxRecDepth 100000
theorem int_of {L : Nat → Lab} {w : World} {π : Option (List Nat)} {n : Int} {u : Value} (h : Rep L w π (.int n) u) : u = .int .i64 n := by cases h; rfl
theorem del_cells (l : List Int) (k : Nat) (hk : k < l.length) : l.take k ++ l.drop (k + 1) = l.eraseIdx k := by
  rw [List.eraseIdx_eq_take_drop_succ]
theorem del1 (blk cap k : Nat) (l : List Int) (w : World) (hH : Holds (Value.int .i64) w blk 0 l.toArray) (hcap : l.length ≤ cap) (hl : l.length ≤ 1000) (hk : k < l.length) :
    Calls Try.prog 65 #[.slice (some ⟨blk, 0, none⟩) l.length cap, .int .i64 k, .int .i64 ((k + 1 : Nat) : Int)] w fun e w' => e = .returned (.slice (some ⟨blk, 0, none⟩) (l.length - 1) cap) ∧ ∃ q, w' = Go.Sort.putRow (Value.int .i64) (Go.Sort.ahead w q) blk 0 (l.take k ++ l.drop (k + 1) ++ List.replicate 1 0).toArray := by
  obtain ⟨i0, zv, hi0, hz1, _, _, _, _, _⟩ := (Sy.ok 3 ⟨.int .i64, 1, 8, [.int 0]⟩ rfl).info
  have h1 : OneCell (Value.int .i64) := fun _ => rfl
  obtain ⟨j, hj⟩ : ∃ j, j = k + 1 := ⟨_, rfl⟩
  rw [← hj]
  obtain ⟨n, hn⟩ : ∃ n, n = l.length := ⟨_, rfl⟩
  rw [← hn] at hcap hl hk ⊢
  have hHj : ∀ t, (ht : t < n) → w.cell? ⟨blk, t, none⟩ = some (.int .i64 (l[t]'(by omega))) ∧ w.frozen? ⟨blk, t, none⟩ = false := fun t ht => by
    have := hH t (by simp; omega)
    rw [Nat.zero_add] at this
    rw [this.1]
    exact ⟨by rw [getElem!_pos _ _ (by simp; omega)]; simp, this.2⟩
  obtain ⟨news, hnews⟩ : ∃ news, news = (l.drop j).map (Value.int .i64) := ⟨_, rfl⟩
  have hlen : news.length = n - j := by rw [hnews]; simp [hn]
  obtain ⟨A, hA, hsrc⟩ : ∃ A : Addr, (if cap = j then some (⟨blk, 0, none⟩ : Addr) else some ⟨blk, j, none⟩) = some A ∧ Hid (∀ (t : Nat) u, news[t]? = some u → w.drew.cell? (A.add t) = some u) := by
    by_cases h : cap = j
    · refine ⟨⟨blk, 0, none⟩, by simp [h], fun t u hu => ?_⟩
      have h0 : news.length = 0 := by omega
      rw [List.length_eq_zero_iff.1 h0] at hu
      simp at hu
    · refine ⟨⟨blk, j, none⟩, by simp [h], fun t u hu => ?_⟩
      have ht : t < news.length := (List.getElem?_eq_some_iff.1 hu).1
      rw [addr_add]
      rw [hnews, List.getElem?_map, List.getElem?_drop, List.getElem?_eq_getElem (by omega)] at hu
      cases hu
      exact (hHj (j + t) (by omega)).1
  have s1 : Hid (news.length = (n - j) * 1) := by rw [Nat.mul_one]; exact hlen
  have s2 : Hid (∀ u ∈ news, u.oneCell' = true) := by
    intro u hu
    rw [hnews] at hu
    obtain ⟨x, _, rfl⟩ := List.mem_map.1 hu
    rfl
  have s3 : Hid (∀ t, t < news.length → (w.drew.cell? ⟨blk, 0 + k * 1 + t, none⟩).isSome = true ∧ w.drew.frozen? ⟨blk, 0 + k * 1 + t, none⟩ = false) := by
    intro t ht
    rw [Nat.mul_one, Nat.zero_add]
    exact ⟨by show (w.cell? _).isSome = true; rw [(hHj (k + t) (by omega)).1]; rfl, (hHj (k + t) (by omega)).2⟩
  obtain ⟨W1, hW1⟩ : ∃ W1, W1 = w.drew.setCells blk (0 + k * 1) news := ⟨_, rfl⟩
  have hda : l.toArray.toList.drop j = l.drop j := rfl
  have hW1' : W1 = Go.Sort.putRow (Value.int .i64) (Go.Sort.ahead w 1) blk 0 (lay l.toArray k (l.drop j)) := by
    rw [hW1, hnews, Nat.mul_one, ← putRow_setCells (Value.int .i64) (Go.Sort.ahead w 1) blk 0 _ l.toArray k (by simp; omega), putRow_self (Value.int .i64) (Go.Sort.ahead w 1) blk 0 l.toArray (holds_ahead (Value.int .i64) w 1 blk 0 l.toArray hH)]
    rfl
  have hH1 : Holds (Value.int .i64) W1 blk 0 (lay l.toArray k (l.drop j)) := by rw [hW1']; exact holds_putRow (Value.int .i64) _ blk 0 l.toArray _ (holds_ahead (Value.int .i64) w 1 blk 0 l.toArray hH) (lay_size _ _ _)
  have hcl : ∀ ty, (Builtin.clear_ #[26] ty #[.slice (some ⟨blk, k + (n - j), none⟩) (n - (k + (n - j))) (cap - (k + (n - j)))]).run Try.prog W1 = .ok (.tuple #[]) (W1.setCells blk (k + (n - j)) (List.replicate (n - (k + (n - j))) (.int .i64 0))) :=
    fun ty => Lib.run_clear_slice W1 _ _ ty _ Try.underlying26 (fun w => Try.zeroValue3 w) (h1.cells 0) (h1 0) blk (k + (n - j)) _ _ (by omega) (fun t ht => by rw [show k + (n - j) + t = 0 + (k + (n - j) + t) by omega, (hH1 _ (by rw [lay_size]; simp; omega)).1]; rfl) (fun t ht => by rw [show k + (n - j) + t = 0 + (k + (n - j) + t) by omega]; exact (hH1 _ (by rw [lay_size]; simp; omega)).2)
  have X : Aside (W1.setCells blk (k + (n - j)) (List.replicate (n - (k + (n - j))) (.int .i64 0)) = Go.Sort.putRow (Value.int .i64) (Go.Sort.ahead w 1) blk 0 (l.take k ++ l.drop j ++ List.replicate 1 0).toArray) := by
    show W1.setCells blk (k + (n - j)) (List.replicate (n - (k + (n - j))) (.int .i64 0)) = _
    have hd := delete_arr l.toArray k j 0 (by omega) (by simp; omega)
    rw [show (l.toArray.size - j) = n - j by simp; omega, show j - k = 1 by omega] at hd
    have e : (l.take k ++ l.drop j ++ List.replicate 1 0).toArray = lay (lay l.toArray k (l.drop j)) (k + (n - j)) (List.replicate 1 0) := hd.symm
    rw [e, ← putRow_setCells (Value.int .i64) _ blk 0 _ (lay l.toArray k (l.drop j)) (k + (n - j)) (by rw [lay_size]; simp; omega), ← hW1', Nat.zero_add, show n - (k + (n - j)) = 1 by omega]
    rfl
  have hres : Aside (k + (n - j) = n - 1) := by show k + (n - j) = n - 1; omega
  have hW : Hid (W1 = w.drew.setCells blk (0 + k * 1) news) := hW1
  have Y : Aside (n = l.length) := hn
  have hic : k ≤ cap := by omega
  have hjc : j ≤ cap := by omega
  have hkj : k ≤ j := by omega
  have hjn : j ≤ n := by omega
  have hne : ¬ k = j := by omega
  have Z : Aside (j = k + 1) := hj
  clear hW1 hW1' hH1 hH hHj hnews hlen hda hn hj
  go_enter Try.func65, Try.ntmps65
  go_wp2_with fail
  go_region_law (refine step_append_room rfl (.tmp 22) (.tmp 25) 26 rfl 3 i0 1 Try.underlying26 hi0 hz1 blk 0 k cap (by simp [Act.eval, Act.put]) A (n - j) (cap - j) news (by simp [Act.eval, Act.put]) s1.out hsrc.out s2.out (by omega) s3.out ?_; rw [← hW.out])
  go_wp2
  go_ret
  exact ⟨by rw [← show k + (n - j) = n - 1 from hres]; rfl, 1, X⟩
/-- The deletion of one element, where it stands. -/
theorem delOneJ {m : Nat} {v : Nat → Value} {N : Nat} {σ : St} {l : List Int} {k : Nat} {t1 t2 t3 s d ty : Nat} {ops : Array Oper} {kk : List Oper} {K : St → Prop} {ts : Array Nat} {pos : String} {aft : Array Edge} {g : Option (Nat × Bool)} (hg : live ops g σ = some true)
    (h1 : slotAt σ (.tmp t1) = some s) (h2 : FM.get σ s = .av (.sl true 1 (l.map .int))) (hk : k < l.length) (hl : l.length ≤ 1000) (h3 : Nat.beq s d = false) (ht2 : FM.get σ t2 = .av (.int k)) (ht3 : FM.get σ t3 = .av (.int ((k : Int) + 1)))
    (h : J false (Sy.fixed m v) N ops kk K (putM [(s, 0)] [.dead, .dead, .dead] (σ.put d (.av (.sl true 1 ((l.take k ++ l.drop (k + 1)).map .int)))))) :
    J false (Sy.fixed m v) N ops (⟨some d, .call ⟨.value (.func 65), #[.tmp t1, .tmp t2, .tmp t3], ts⟩, ty, pos, aft, g⟩ :: kk) K σ := by
  refine J.callML (xs := [.tmp t2, .tmp t3]) (op := .tmp t1) (⟨_, Try.func65, rfl, rfl⟩ : FnOk Sy.P 65) rfl hg h1 h2 h3 (fun w0 L0 a w L hR hpre hrep => ?_) noSh_ints ⟨.dead, rfl, .dead⟩ h
  obtain ⟨blk, cap, hv, hH, hb, hL, hcap, hB⟩ := back_del3 (f := a.eval (.tmp t2)) (f2 := a.eval (.tmp t3)) hpre hrep (by intro e; subst e; simp at hk)
  have hf2 := hR.hold t2 (own_lt hR ht2 (by simp))
  have hf3 := hR.hold t3 (own_lt hR ht3 (by simp))
  rw [ht2] at hf2
  rw [ht3] at hf3
  simp only [Hold] at hf2 hf3
  have he2 : a.eval (.tmp t2) = .int .i64 k := int_of hf2
  have he3 : a.eval (.tmp t3) = .int .i64 ((k + 1 : Nat) : Int) := by rw [show ((k + 1 : Nat) : Int) = (k : Int) + 1 by omega]; exact int_of hf3
  have hcon := del1 blk cap k l w hH hcap hl hk
  simp only [List.map_cons, List.map_nil, hv, he2, he3]
  refine hcon.mono fun e w' ⟨he, q, hw⟩ => ?_
  subst hw
  have hlen : (l.take k ++ l.drop (k + 1)).length = l.length - 1 := by rw [List.length_append, List.length_take, List.length_drop]; omega
  obtain ⟨L', hB'⟩ := hB (l.take k ++ l.drop (k + 1)) q (by omega)
  rw [hv, he2, he3, hlen, show l.length - (l.length - 1) = 1 by omega] at hB'
  exact ⟨_, L', he, hB'⟩
end Go.Proofs.Ytohgcgedbhlnfaa
