/- DeleteFunc on what the caller owns: a call whose contract holds where it stands. No program in sight. -/
import Derived.Test.YtohgcgedbhlnfaaSt
import Derived.Shelf.SlicesE.DeleteFunc
namespace FM
open Go Go.RowKit
set_option linter.all false
/-- The frame behind a deletion: the row is handed on, cut. -/
theorem back_del {L : Nat → Lab} {w : World} {v f : Value} {l : List Int} (hpre : FM.Pre 2 L w) (hrep : Rep L w (some [0]) (.sl true 1 (l.map .int)) v) (hne : l ≠ []) :
    ∃ blk cap, v = .slice (some ⟨blk, 0, none⟩) l.length cap ∧ Go.Sort.Holds (Value.int .i64) w blk 0 l.toArray ∧ blk < w.heap.size ∧ L blk = .my [0] ∧ l.length ≤ cap ∧
      ∀ (fl : List Int) (k : Nat), fl.length ≤ l.length → ∃ L', FM.Back 2 [.dead, .dead] (.sl true 1 (fl.map .int)) L w [v, f] (.slice (some ⟨blk, 0, none⟩) fl.length cap) (Go.Sort.putRow (Value.int .i64) (Go.Sort.ahead w k) blk 0 (fl ++ List.replicate (l.length - fl.length) 0).toArray) L' := by
  cases hl0 : l with
  | nil => exact absurd hl0 hne
  | cons x0 l0 =>
  rw [← hl0]
  generalize hxs : l.map AV.int = xs at hrep
  cases hrep with
  | slE h => rw [hl0] at hxs; cases hxs
  | @slO p c xs b cap arr e u hL hb hcap hsz hc hcell hr =>
    subst hxs
    have hbl : b < w.heap.size := (Array.getElem?_eq_some_iff.1 hb).1
    have hval : ∀ j, (hj : j < l.length) → arr[j]? = some (.int .i64 l[j]) := fun j hj => by
      have h1 := hcell j (by rw [List.length_map]; omega)
      have h2 := hr j (.int l[j]) (by rw [flat_single (fun x hx => by obtain ⟨y, _, rfl⟩ := List.mem_map.1 hx; rfl), List.getElem?_map, List.getElem?_eq_getElem hj]; rfl)
      rw [h1]
      generalize u j = z at h2
      cases h2; rfl
    rw [List.length_map] at hcap ⊢
    rw [Nat.mul_one] at hsz
    refine ⟨b, cap, rfl, fun j hj => ?_, hbl, hL, hcap, fun fl k hfl => ?_⟩
    · have hj' : j < l.length := by simpa using hj
      refine ⟨?_, ?_⟩
      · rw [cell_of_row w b (0 + j) arr e (0, 0) hb, Nat.zero_add, hval j hj']
        simp [hj']
      · simp only [World.frozen?, hb]; simp
    · obtain ⟨W, hW⟩ : ∃ W, W = Go.Sort.putRow (Value.int .i64) (Go.Sort.ahead w k) b 0 (fl ++ List.replicate (l.length - fl.length) 0).toArray := ⟨_, rfl⟩
      rw [← hW]
      have hWs : W.heap.size = w.heap.size := by rw [hW]; simp [Go.Sort.putRow, Go.Sort.mapBlock, Go.Sort.ahead]
      have hWo : W.os = w.os := by rw [hW]; rfl
      have hWt : W.tape = w.tape := by rw [hW]; rfl
      have hWu : W.output = w.output := by rw [hW]; rfl
      have hWb : W.heap[b]? = some (.cells (Go.Sort.putCells (Value.int .i64) 0 (fl ++ List.replicate (l.length - fl.length) 0).toArray arr) e (0, 0)) := by
        rw [hW]
        simp only [Go.Sort.putRow, Go.Sort.mapBlock, Go.Sort.ahead]
        rw [Array.getElem?_modify, if_pos rfl, hb]; rfl
      have hWk : ∀ b', b' ≠ b → W.heap[b']? = w.heap[b']? := fun b' h2 => by
        rw [hW]
        simp only [Go.Sort.putRow, Go.Sort.mapBlock, Go.Sort.ahead]
        rw [Array.getElem?_modify, if_neg (fun e => h2 e.symm)]
      clear hW
      obtain ⟨L', hL'⟩ : ∃ L' : Nat → Lab, L' = fun b' => if b' = b then .my [2] else L b' := ⟨_, rfl⟩
      have l1 : L' b = .my [2] := by rw [hL']; simp
      have l2 : ∀ b', b' ≠ b → L' b' = L b' := fun b' h => by rw [hL']; simp [h]
      clear hL'
      have lno : ∀ b', L b' ≠ .my [2] := fun b' h => by obtain ⟨i, q, e1, e2⟩ := hpre.head b' _ h; cases e1; omega
      refine ⟨L', ⟨hWo, hWt, hWu, by omega, fun b' h1 h2 => hWk b' (fun e => by subst e; exact h2 _ hL)⟩, ⟨fun b' p hp => ?_, fun b1 b2 p h1 h2 => ?_, fun b' p hp e => ?_, fun b' p _ hp => ?_, fun b' _ => ?_, fun b' h1 h2 => ?_⟩, fun b' p hp => ?_, fun i x u' hx hu => ?_, ?_⟩
      · by_cases e : b' = b
        · subst e; omega
        · rw [l2 b' e] at hp; have := hpre.lt b' p hp; omega
      · by_cases e1 : b1 = b
        · subst e1
          rw [l1] at h1; cases h1
          by_cases e2 : b2 = b1
          · exact e2.symm
          · rw [l2 b2 e2] at h2; exact absurd h2 (lno b2)
        · rw [l2 b1 e1] at h1
          by_cases e2 : b2 = b
          · subst e2
            rw [l1] at h2; cases h2
            exact absurd h1 (lno b1)
          · rw [l2 b2 e2] at h2; exact hpre.inj b1 b2 p h1 h2
      · subst e
        by_cases e : b' = b
        · subst e; rw [l1] at hp; cases hp
        · rw [l2 b' e] at hp; obtain ⟨i, q, h, _⟩ := hpre.head b' [] hp; cases h
      · by_cases e : b' = b
        · subst e; exact ⟨_, hL⟩
        · rw [l2 b' e] at hp; exact ⟨p, hp⟩
      · by_cases e : b' = b
        · subst e; rw [l1, hL]; constructor <;> intro h <;> cases h
        · rw [l2 b' e]
      · by_cases e : b' = b
        · subst e; omega
        · rw [l2 b' e] at h2; exact hpre.new b' h1 h2
      · by_cases e : b' = b
        · subst e; rw [l1] at hp; cases hp; exact ⟨2, [], rfl, Nat.le_refl _⟩
        · rw [l2 b' e] at hp; obtain ⟨i, q, h, h2⟩ := hpre.head b' p hp; exact ⟨i, q, h, by omega⟩
      · match i, hx with
        | 0, hx => cases hx; exact .dead
        | 1, hx => cases hx; exact .dead
        | i + 2, hx => simp at hx
      · have hsl : (fl.map AV.int).length = fl.length := List.length_map _
        rw [← hsl]
        refine .slO (fun o => .int .i64 (fl.getD o 0)) l1 hWb (by rw [hsl]; omega) (by simp [Go.Sort.putCells, hsz]) (fun y hy => by obtain ⟨z, _, rfl⟩ := List.mem_map.1 hy; rfl) (fun o ho => ?_) fun o y hy => ?_
        · rw [hsl, Nat.mul_one] at ho
          have hoa : o < arr.size := by omega
          simp only [Go.Sort.putCells, Array.getElem?_mapIdx, Array.getElem?_eq_getElem hoa, Option.map_some]
          rw [if_pos ⟨Nat.zero_le _, by simp; omega⟩]
          have hg : (fl ++ List.replicate (l.length - fl.length) 0).toArray[o - 0]! = fl.getD o 0 := by
            rw [Nat.sub_zero, getElem!_pos _ _ (by simp; omega)]
            simp only [List.getElem_toArray]
            rw [List.getElem_append_left ho, List.getD_eq_getElem?_getD, List.getElem?_eq_getElem ho]; rfl
          rw [hg]
        · rw [flat_single (fun x hx => by obtain ⟨y, _, rfl⟩ := List.mem_map.1 hx; rfl), List.getElem?_map, Option.map_eq_some_iff] at hy
          obtain ⟨z, hz, rfl⟩ := hy
          rw [List.getD_eq_getElem?_getD, hz]; exact .int
/-- A call that turns what a slot of the caller owns, by a contract that holds where it stands. -/
theorem J.callML {S : Sys} {N : Nat} {σ : St} {P : Program} {f : Nat} {as' : List AV} {r : AV} {x0 : AV} {op : Operand} {xs : List Operand} {ops : Array Oper} {l : List Oper} {K : St → Prop} {d s ty : Nat} {ts : Array Nat} {pos : String} {aft : Array Edge} {g : Option (Nat × Bool)} (hok : FnOk P f) (hP : P = S.P) (hg : live ops g σ = some true)
    (h1 : slotAt σ op = some s) (h2 : FM.get σ s = .av x0) (h3 : Nat.beq s d = false)
    (hs : ∀ (w0 : World) (L0 : Nat → Lab) (a : Act) (w : World) (L : Nat → Lab), RelL S w0 L0 N σ a w L → FM.Pre (xs.length + 1) (inM [(s, 0)] L) w → Rep (inM [(s, 0)] L) w (some [0]) x0 (a.eval op) →
      Calls P f ((op :: xs).map a.eval).toArray w fun e w' => ∃ v L', e = .returned v ∧ FM.Back (xs.length + 1) as' r (inM [(s, 0)] L) w ((op :: xs).map a.eval) v w' L')
    (hr : NoSh r) (hx : ∃ y, as'[0]? = some y ∧ NoSh y) (h : J false S N ops l K (putM [(s, 0)] as' (σ.put d (.av r)))) :
    J false S N ops (⟨some d, .call ⟨.value (.func f), (op :: xs).toArray, ts⟩, ty, pos, aft, g⟩ :: l) K σ := by
  subst hP
  unfold J at *
  intro hdo w0 L0 Q a w hQ hR
  obtain ⟨hd1, hd2⟩ := dstOk_cons hdo
  have hd := hd1 d rfl
  have hw := live_wanted (o := ⟨some d, .call ⟨.value (.func f), (op :: xs).toArray, ts⟩, ty, pos, aft, g⟩) hg hR
  simp only [wpList, hw, if_true]
  refine .inl ?_
  unfold Oper.wp
  rw [run_call hok rfl rfl w, Oper.upon_enter]
  obtain ⟨L, hR⟩ := hR
  have hms : MOk d (xs.length + 1) [(s, 0)] := .one h3 (by simp [Nat.blt])
  have hA : ArgM S N σ [(s, 0)] 0 op x0 := .mu h1 h2 (by simp [idxM, Nat.beq_refl])
  refine (hs w0 L0 a w L hR ⟨fun b p hb => ?_, fun b p hb => ?_, fun b b' p hb hb' => ?_, fun b hge hf => ?_⟩ (hA.rep hR)).mono fun e w' ⟨v, L', he, hB⟩ => ?_
  · obtain ⟨t, i, q, h3, _, _⟩ := inM_my hb; exact hR.lok.lt b _ h3
  · obtain ⟨t, i, q, _, h3, h4⟩ := inM_my hb; exact ⟨i, q, h4, hms.lt _ _ h3⟩
  · obtain ⟨t, i, q, h3, h4, h5⟩ := inM_my hb
    obtain ⟨t', i', q', h3', h4', h5'⟩ := inM_my hb'
    rw [h5] at h5'; cases h5'
    have e1 := hms.inv _ _ h4
    have e2 := hms.inv _ _ h4'
    rw [e1] at e2; cases e2
    exact hR.lok.inj _ _ _ h3 h3'
  · have := inM_fo.1 hf
    exact hR.lok.new b (Nat.le_trans hR.keep.size hge) this
  · subst he
    refine h hd2 w0 L0 Q _ w' hQ (after_callM hR hd hms hB hr fun s' i hi => ?_)
    simp only [idxM] at hi
    cases hb : Nat.beq s s' with
    | false => rw [hb, cond_false] at hi; cases hi
    | true =>
      rw [hb, cond_true] at hi
      have := Nat.eq_of_beq_eq_true hb
      subst this
      cases hi
      obtain ⟨e1, e2, _⟩ := slotAt_ev h1 h2 hR
      exact ⟨e1, by simp [e2], hx⟩
end FM
