/- An abstract machine over the kit's rules, part 9: stores, variables in memory, ghost steps. -/
import Derived.Test.YtohgcgedbhlnfaaFh
namespace FM
open Go Go.RowKit

section
variable {S : Sys} {N : Nat} {σ : St}

/-- One block that slot s owns is turned. -/
theorem RelL.write {w0 : World} {L0 : Nat → Lab} {a : Act} {w w' : World} {L : Nat → Lab} (hR : RelL S w0 L0 N σ a w L) {s b : Nat} {q0 : List Nat} {x' : AV} (hs : s < N) (hb : L b = .my (s :: q0)) (hsz : w'.heap.size = w.heap.size) (ho : w'.os = w.os) (ht : w'.tape = w.tape) (hu : w'.output = w.output) (hblk : ∀ k, k ≠ b → w'.heap[k]? = w.heap[k]?)
    (hx : Rep L w' (some [s]) x' (a.tmps.getD s undef)) (deep : Bool) (hdeep : deep = true → q0 ≠ []) : RelL S w0 L0 N (σ.upd deep s (.av x')) a w' L := by
  have hne : ∀ k p, L k = .my p → p ≠ s :: q0 → k ≠ b := fun k p hk hp e => by subst e; rw [hb] at hk; injection hk with hk; exact hp hk.symm
  have hnsh : ∀ k, L k = .sh → k ≠ b := fun k hk e => by subst e; rw [hb] at hk; cases hk
  refine ⟨hR.defers, hR.size, ⟨ho.trans hR.keep.os, ht.trans hR.keep.tape, hu.trans hR.keep.output, by rw [hsz]; exact hR.keep.size, fun k hk hn => ?_⟩, ⟨fun k p hk => by rw [hsz]; exact hR.lok.lt k p hk, hR.lok.inj, hR.lok.head, hR.lok.old, hR.lok.fo, hR.lok.new⟩, fun n hn => ?_, fun n hn => ?_, hR.fix, hR.glob⟩
  · refine (hblk k (fun e => ?_)).trans (hR.keep.block k hk hn)
    subst e
    obtain ⟨q, hq⟩ := hR.lok.old k _ hk hb; exact hn q hq
  · simp only [get]
    by_cases hsn : s = n
    · subst hsn; rw [Nat.beq_refl, cond_true]; exact hx
    · rw [not_beq hsn, cond_false]
      have hh := hR.hold n hn
      have key : ∀ tv : TV, tv.dep s = false → Hold L w a.tmps n tv (a.tmps.getD n undef) → Hold L w' a.tmps n tv (a.tmps.getD n undef) := fun tv hd hh =>
        Hold.relab (good := fun m => m ≠ s) (by omega) ho ht hu (fun k h1 _ => ⟨h1, hblk k (hnsh k h1)⟩) (fun k m q h1 h2 => ⟨h1, hblk k (hne k _ h1 (fun e => by injection e with e _; exact h2 e))⟩)
          (fun _ _ => rfl) (fun e => hsn e.symm) (fun m hm e => by subst e; rw [hd] at hm; cases hm) hh
      generalize get σ n = tv at hh
      cases tv with
      | none => trivial
      | av x => exact key _ rfl hh
      | ref s' => exact hh
      | rref s' r y =>
        simp only [TV.stale]
        cases hb' : Nat.beq s' s with
        | false => exact key _ hb' hh
        | true =>
          have := Nat.eq_of_beq_eq_true hb'; subst this
          cases deep with
          | false => trivial
          | true =>
            obtain ⟨k, h1, h2, _⟩ := hh
            exact ⟨k, h1, by rw [cell_of_heap (hblk k (hne k _ h1 (fun e => hdeep rfl (by injection e with _ e; exact e.symm))))]; exact h2, fun h => absurd rfl h⟩
      | ptr s' r c y =>
        simp only [TV.stale]
        cases hb' : Nat.beq s' s with
        | false => exact key _ hb' hh
        | true => obtain ⟨k, h1, h2, _⟩ := hh; exact ⟨k, h1, h2, fun h => absurd rfl h⟩
      | fpt s' o y =>
        simp only [TV.stale]
        cases hb' : Nat.beq s' s with
        | false => exact key _ hb' hh
        | true => obtain ⟨k, h1, h2, _⟩ := hh; exact ⟨k, h1, h2, fun h => absurd rfl h⟩
      | rptr s' r j y =>
        simp only [TV.stale]
        cases hb' : Nat.beq s' s with
        | false => exact key _ hb' hh
        | true =>
          cases deep with
          | false => trivial
          | true => obtain ⟨k, h1, h2, _⟩ := hh; exact ⟨k, h1, h2, fun h => absurd rfl h⟩
      | dptr x => exact key _ rfl hh
      | bdp s' x =>
        simp only [TV.stale]
        cases hb' : Nat.beq s' s with
        | false => exact key _ hb' hh
        | true => trivial
      | bor s' x =>
        simp only [TV.stale]
        cases hb' : Nat.beq s' s with
        | false => exact key _ hb' hh
        | true => trivial
      | clo f caps => exact hh
  · simp only [get]
    rw [not_beq (show s ≠ n by omega), cond_false, hR.out n hn]; rfl

/-- What a store writes. -/
theorem run_store_at {t : Nat} {ti : TI} (hT : S.T t = some ti) {b off e : Nat} {cur : Array Value} {w : World} {v : Value} (hb : w.heap[b]? = some (.cells cur e (0, 0))) (hsz : v.cells.size = ti.size) (h1 : ∀ u ∈ v.cells.toList, u.oneCell' = true) (hfit : off + v.cells.size ≤ cur.size) :
    (Instr.storeAt t (.pointer (some ⟨b, off, none⟩)) v).run S.P w = .ok () (w.setRow b (cur.toList.take off ++ v.cells.toList ++ cur.toList.drop (off + v.cells.size)).toArray) := by
  obtain ⟨f, hf1, hf2⟩ := (S.ok t ti hT).size
  have hst := run_storeCells_at S.P b off e v.cells.toList 0 cur w hb (by simpa using hfit) h1
  simp only [Nat.add_zero, Array.length_toList] at hst
  have hne : v.cells.size = f.size := by rw [hsz, hf2]
  simp [Instr.storeAt, Instr.sureAddr, storeVar, Go.sizeOf, typeInfo, hf1, hne, hst]

theorem getElem?_splice (cur vs : List Value) (off j : Nat) (h : off + vs.length ≤ cur.length) : (cur.take off ++ vs ++ cur.drop (off + vs.length))[j]? = if off ≤ j ∧ j < off + vs.length then vs[j - off]? else cur[j]? := by
  by_cases h1 : j < off
  · rw [List.append_assoc, List.getElem?_append_left (by simp; omega), List.getElem?_take, if_pos h1, if_neg (by omega)]
  · by_cases h2 : j < off + vs.length
    · rw [List.getElem?_append_left (by simp; omega), List.getElem?_append_right (by simp; omega), if_pos (by omega)]
      congr 1; simp; omega
    · rw [List.getElem?_append_right (by simp; omega), if_neg (by omega), List.getElem?_drop]
      congr 1; simp; omega

theorem flat_set {c : Nat} : ∀ {xs : List AV} {i : Nat} {z : AV}, (∀ x ∈ xs, x.cells.length = c) → z.cells.length = c → ∀ (o : Nat) y, (flat (xs.set i z))[o]? = some y → (i * c ≤ o ∧ o < i * c + c ∧ i < xs.length ∧ z.cells[o - i * c]? = some y) ∨ (¬ (i * c ≤ o ∧ o < i * c + c) ∧ (flat xs)[o]? = some y) := by
  intro xs i z hc hz o y hy
  by_cases hi : i < xs.length
  · have hc' : ∀ x ∈ xs.set i z, x.cells.length = c := fun x hx => by
      rcases List.mem_or_eq_of_mem_set hx with h | h
      · exact hc x h
      · rw [h]; exact hz
    obtain ⟨i', j, x, h1, h2, h3, h4⟩ := flat_split hc' hy
    rw [List.getElem?_set] at h1
    by_cases hii : i = i'
    · subst hii
      rw [if_pos rfl, if_pos hi] at h1
      injection h1 with h1
      subst h1
      left
      refine ⟨by omega, by omega, hi, ?_⟩
      rw [h3, show i * c + j - i * c = j by omega]; exact h2
    · rw [if_neg hii] at h1
      right
      have hf := flat_get hc h1 h2
      rw [← h3] at hf
      refine ⟨fun h => ?_, hf⟩
      rcases Nat.lt_or_gt_of_ne hii with h' | h'
      · have : (i + 1) * c ≤ i' * c := Nat.mul_le_mul_right _ (by omega)
        rw [Nat.add_mul] at this; omega
      · have : (i' + 1) * c ≤ i * c := Nat.mul_le_mul_right _ (by omega)
        rw [Nat.add_mul] at this; omega
  · rw [List.set_eq_of_length_le (by omega)] at hy
    refine .inr ⟨fun h => ?_, hy⟩
    have := (List.getElem?_eq_some_iff.1 hy).1
    rw [flat_length hc] at this
    have : xs.length * c ≤ i * c := Nat.mul_le_mul_right _ (by omega)
    omega

/-- A value to be stored: not owned. -/
theorem val_cells {w0 : World} {L0 : Nat → Lab} {a : Act} {w : World} {L : Nat → Lab} (hR : RelL S w0 L0 N σ a w L) {v : Operand} {z : AV} (hv : ov σ v = .av z) (hz : z.isOwn = false) (hok : z.varOk = true) :
    (a.eval v).cells.size = z.cells.length ∧ (∀ u ∈ (a.eval v).cells.toList, u.oneCell' = true) ∧ ∀ (j : Nat) y, z.cells[j]? = some y → ∃ u, (a.eval v).cells[j]? = some u ∧ Rep L w none y u := by
  obtain ⟨n, hn⟩ := ev_av hR hv
  exact rep_cells (hn.replace hz) hok

/-- s[i] = v: a slice that slot s owns. -/
theorem e_st {t : Nat} {ti : TI} {x v : Operand} {s i c : Nat} {y0 z : AV} {xs : List AV} {ty : Nat} {pos : String} {aft : Array Edge} {g : Option (Nat × Bool)} (hx : ov σ x = .ptr s i c y0) (hs : get σ s = .av (.sl true c xs)) (hT : S.T t = some ti) (hv : ov σ v = .av z) (hz : z.isOwn = false) (hok : z.varOk = true) (hc : Nat.beq z.cells.length ti.size = true) (hc2 : Nat.beq ti.size c = true) (hi : i < xs.length) :
    EStep S ⟨none, .store t x v, ty, pos, aft, g⟩ σ (σ.upd false s (.av (.sl true c (xs.set i z)))) := by
  intro w0 L0 N a w _ ⟨L, hR⟩
  have hc1 := Nat.eq_of_beq_eq_true hc
  have hc3 := Nat.eq_of_beq_eq_true hc2
  obtain ⟨_, ⟨b, hL, hp, _⟩, _⟩ := hold_plain hR hx (by simp)
  have hsN := own_lt hR hs (by simp)
  have hh := hR.hold s hsN
  rw [hs] at hh
  simp only [Hold] at hh
  obtain ⟨v1, v2, v3⟩ := val_cells hR hv hz hok
  generalize hsv : a.tmps.getD s undef = sv at hh
  cases hh with
  | slE h => simp at hi
  | @slO p c xs b' cap arr e u hL' hb hcap hsz hcx hcell hr =>
    have := hR.lok.inj _ _ _ hL hL'
    subst this
    have hmul : (i + 1) * c ≤ cap * c := Nat.mul_le_mul_right _ (by omega)
    rw [Nat.add_mul, Nat.one_mul] at hmul
    have hvs : (a.eval v).cells.size = c := by omega
    obtain ⟨A, hrun, hAsz, harr⟩ : ∃ A : Array Value, (Instr.storeAt t (.pointer (some ⟨b, i * c, none⟩)) (a.eval v)).run S.P w = .ok () (w.setRow b A) ∧ A.size = arr.size ∧ ∀ j, A[j]? = if i * c ≤ j ∧ j < i * c + (a.eval v).cells.size then (a.eval v).cells[j - i * c]? else arr[j]? :=
      ⟨_, run_store_at (S := S) hT (off := i * c) (v := a.eval v) hb (by omega) v2 (by omega), by simp; omega, fun j => by
        have := getElem?_splice arr.toList (a.eval v).cells.toList (i * c) j (by simp; omega)
        simpa using this⟩
    have hother : ∀ k, k ≠ b → (w.setRow b A).heap[k]? = w.heap[k]? := fun k hk => setRow_other w b k A hk
    have hnew := setRow_heap w b arr A e (0, 0) hb
    have hsz' : (w.setRow b A).heap.size = w.heap.size := by simp
    have ho : (w.setRow b A).os = w.os := rfl
    have ht : (w.setRow b A).tape = w.tape := rfl
    have hu : (w.setRow b A).output = w.output := rfl
    generalize w.setRow b A = W at hrun hother hnew hsz' ho ht hu
    refine ⟨undef, W, .inr ⟨by simp only [execOp, hp, Sem.run_bind, hrun]; rfl, rfl⟩, L, hR.write (b := b) (q0 := []) hsN hL hsz' ho ht hu hother ?_ false (fun h => by cases h)⟩
    rw [hsv]
    have hlen : (xs.set i z).length = xs.length := by simp
    have hslots : ∀ π (y : AV) (u : Value), Rep L w π y u → (∀ p, π = some p → ∃ o q, p = s :: o :: q) → Rep L W π y u := fun π y u h hπ =>
      h.frame (by omega) ho ht hu (fun k hk _ => ⟨hk, hother k (fun e => by subst e; rw [hL] at hk; cases hk)⟩) π fun p hp' => ⟨p, hp', fun k q hk => ⟨hk, hother k (fun e => by
        subst e
        obtain ⟨o, q', rfl⟩ := hπ p hp'
        rw [hL] at hk; injection hk with hk; simp at hk)⟩⟩
    rw [← hlen]
    refine .slO (fun o => (A[o]?).getD undef) hL hnew (by rw [hlen]; exact hcap) (by rw [hAsz]; exact hsz) (fun y hy => ?_) (fun o ho => ?_) (fun o y hy => ?_)
    · rcases List.mem_or_eq_of_mem_set hy with h | h
      · exact hcx y h
      · rw [h]; omega
    · have hlt : o < A.size := by
        rw [hAsz, hsz]
        rw [hlen] at ho
        exact Nat.lt_of_lt_of_le ho (Nat.mul_le_mul_right _ hcap)
      simp [hlt]
    · rw [harr]
      rcases flat_set hcx (by omega) o y hy with ⟨h1, h2, h3, h4⟩ | ⟨h1, h2⟩
      · rw [if_pos (by omega)]
        obtain ⟨u', hu', hr'⟩ := v3 _ y h4
        rw [hu']
        exact (hslots none y u' hr' (fun p hp => by cases hp)).any _
      · rw [if_neg (by rw [hvs]; exact h1)]
        have ho : o < xs.length * c := by rw [← flat_length hcx]; exact (List.getElem?_eq_some_iff.1 h2).1
        rw [hcell o ho]
        exact hslots _ y _ (hr o y h2) (fun p hp => by cases hp; exact ⟨o, [], rfl⟩)
theorem e_stI {t : Nat} {ti : TI} {x v : Operand} {s i : Nat} {y0 : AV} {l : List Int} {n : Int} {ty : Nat} {pos : String} {aft : Array Edge} {g : Option (Nat × Bool)} (hx : ov σ x = .ptr s i 1 y0) (hs : get σ s = .av (.sl true 1 (l.map .int))) (hT : S.T t = some ti) (hv : ov σ v = .av (.int n)) (hc : Nat.beq 1 ti.size = true) (hc2 : Nat.beq ti.size 1 = true) (hi : i < l.length) :
    EStep S ⟨none, .store t x v, ty, pos, aft, g⟩ σ (σ.upd false s (.av (.sl true 1 ((l.set i n).map .int)))) := by
  rw [List.map_set]
  exact e_st hx hs hT hv rfl rfl hc hc2 (by simpa using hi)
theorem e_stM {α : Type} {f : α → AV} {t : Nat} {ti : TI} {x v : Operand} {s i c : Nat} {y0 : AV} {l : List α} {n : α} {ty : Nat} {pos : String} {aft : Array Edge} {g : Option (Nat × Bool)} (hx : ov σ x = .ptr s i c y0) (hs : get σ s = .av (.sl true c (l.map f))) (hT : S.T t = some ti) (hv : ov σ v = .av (f n)) (hz : (f n).isOwn = false) (hok : (f n).varOk = true) (hc : Nat.beq (f n).cells.length ti.size = true) (hc2 : Nat.beq ti.size c = true) (hi : i < l.length) :
    EStep S ⟨none, .store t x v, ty, pos, aft, g⟩ σ (σ.upd false s (.av (.sl true c ((l.set i n).map f)))) := by
  rw [List.map_set]
  exact e_st hx hs hT hv hz hok hc hc2 (by simpa using hi)

/-! ### ghost steps -/
/-- An empty slice that is nil is as good as an owned one. -/
theorem CW.own {c : Code} {Q : Exit → St → Prop} (s cc : Nat) (hs : get σ s = .av .nil) (h : CW S N c Q (σ.put s (.av (.sl true cc [])))) : CW S N c Q σ := by
  unfold CW at *
  intro w0 L0 Q' a w hQ ⟨L, hR⟩
  refine h w0 L0 Q' a w hQ ⟨L, hR.defers, hR.size, hR.keep, hR.lok, fun n hn => ?_, fun n hn => ?_, hR.fix, hR.glob⟩
  · simp only [get, kill_eq]
    by_cases hsn : s = n
    · subst hsn
      rw [Nat.beq_refl, cond_true]
      have hh := hR.hold s hn
      rw [hs] at hh
      simp only [Hold] at hh ⊢
      generalize a.tmps.getD s undef = v at hh
      cases hh
      exact .slE (fun _ => rfl)
    · rw [not_beq hsn, cond_false]
      cases hd : (get σ n).dep s with
      | true => trivial
      | false => exact hR.hold n hn
  · simp only [get, kill_eq]
    have := own_lt hR hs (by simp)
    rw [not_beq (show s ≠ n by omega), cond_false, hR.out n hn]; rfl

/-- What slot s owns is owned no more: it may be shared from now on. -/
theorem RelL.freeze {w0 : World} {L0 : Nat → Lab} {a : Act} {w : World} {L : Nat → Lab} (hR : RelL S w0 L0 N σ a w L) {s : Nat} {x z : AV} (hs : get σ s = .av x) (hz : x.sh = z) (ho : z.isOwn = false) : RelL S w0 L0 N (σ.put s (.av z)) a w (clear s L) := by
  have hsN := own_lt hR hs (by simp)
  subst hz
  refine ⟨hR.defers, hR.size, hR.keep, hR.lok.clear s, fun n hn => ?_, fun n hn => ?_, hR.fix, hR.glob⟩
  · simp only [get, kill_eq]
    by_cases hsn : s = n
    · subst hsn
      rw [Nat.beq_refl, cond_true]
      have hh := hR.hold s hn
      rw [hs] at hh
      simp only [Hold] at hh ⊢
      exact (Rep.toSh (fun b _ hb => clear_sh hb) hh (fun p hp b q hb => by cases hp; unfold clear; rw [hb]; simp [Lab.without, Nat.beq_refl])).any _
    · rw [not_beq hsn, cond_false]
      cases hd : (get σ n).dep s with
      | true => trivial
      | false =>
        rw [cond_false]
        exact Hold.relab (good := fun m => m ≠ s) (Nat.le_refl _) rfl rfl rfl (fun b h1 _ => ⟨clear_sh h1, rfl⟩) (fun b m q h1 h2 => ⟨clear_keep h1 h2, rfl⟩) (fun _ _ => rfl) (fun e => hsn e.symm) (fun m hm e => by subst e; rw [hd] at hm; cases hm) (hR.hold n hn)
  · simp only [get, kill_eq]
    rw [not_beq (show s ≠ n by omega), cond_false, hR.out n hn]; rfl
theorem CW.freeze {c : Code} {Q : Exit → St → Prop} (s : Nat) {x z : AV} (hs : get σ s = .av x) (hz : x.sh = z) (ho : z.isOwn = false) (h : CW S N c Q (σ.put s (.av z))) : CW S N c Q σ := by
  unfold CW at *
  exact fun w0 L0 Q' a w hQ ⟨L, hR⟩ => h w0 L0 Q' a w hQ ⟨_, hR.freeze hs hz ho⟩
theorem J.freeze {q : Bool} {ops : Array Oper} {l : List Oper} {K : St → Prop} (s : Nat) {x z : AV} (hs : get σ s = .av x) (hz : x.sh = z) (ho : z.isOwn = false) (h : J q S N ops l K (σ.put s (.av z))) : J q S N ops l K σ := by
  unfold J at *
  cases q with
  | true => exact fun hd w0 L0 Q a w hQ ⟨L, hR⟩ => h hd w0 L0 Q a w hQ ⟨_, hR.freeze hs hz ho⟩
  | false => exact fun hd w0 L0 Q a w hQ ⟨L, hR⟩ => h hd w0 L0 Q a w hQ ⟨_, hR.freeze hs hz ho⟩
theorem sh_int {o : Bool} {c : Nat} {l : List Int} : (AV.sl o c (l.map .int)).sh = .sl false c (l.map .int) := by simp only [AV.sh]; rw [shL_map AV.int l AV.int (fun _ => rfl)]
theorem sh_map {α : Type} {o : Bool} {c : Nat} {f g : α → AV} {l : List α} (h : ∀ x, (f x).sh = g x) : (AV.sl o c (l.map f)).sh = .sl false c (l.map g) := by simp only [AV.sh]; rw [shL_map f l g h]
theorem sh_rows {o o2 : Bool} {m : List (List Int)} : (AV.sl o 1 (m.map fun r => .sl o2 1 (r.map .int))).sh = .sl false 1 (m.map fun r => .sl false 1 (r.map .int)) := sh_map fun _ => sh_int

/-! ### a call in a region that draws its order: its result is a plain value -/
theorem J.callQ {f : Nat} {xs9 : List AV} {r : AV} {xs : List Operand} {b : Bool} {ops : Array Oper} {l : List Oper} {K : St → Prop} {d ty : Nat} {ts : Array Nat} {pos : String} {aft : Array Edge} {g : Option (Nat × Bool)} (hs : FnSpec S.P f xs9 xs9 r) (hg : live ops g σ = some true) (ha : ArgsOk S N σ xs b xs9) (hr : r.flatPlain = true) (h : J true S N ops l K (σ.put d (.av r))) :
    J true S N ops (⟨some d, .call ⟨.value (.func f), xs.toArray, ts⟩, ty, pos, aft, g⟩ :: l) K σ := by
  unfold J at *
  intro hdo w0 L0 Q a w hQ hR
  obtain ⟨h1, h2⟩ := dstOk_cons hdo
  have hd := h1 d rfl
  have hw := live_wanted (o := ⟨some d, .call ⟨.value (.func f), xs.toArray, ts⟩, ty, pos, aft, g⟩) hg hR
  simp only [wpQuiet, hw, if_true]
  refine ⟨r.toV, fun w' hw' => ?_, ?_⟩
  · unfold Oper.quietAt
    rw [run_call hs.ok rfl rfl w']
    refine ⟨rfl, ?_⟩
    obtain ⟨L, hR'⟩ := hR.ext hw'
    refine (hs.calls w' (fun _ => .sh) (xs.map a.eval) (by rw [List.length_map, ha.length]) (pre_none (fun _ _ h => by cases h) (fun _ _ h => by cases h) hR'.globNow.all) (fun i x v hx hv => ?_)).mono fun e w'' ⟨v, L', he, hB⟩ => ?_
    · simp only [List.getElem?_map, Option.map_eq_some_iff] at hv
      obtain ⟨y, hy, rfl⟩ := hv
      obtain ⟨c, hc, _⟩ := ha.get i y x hy hx
      exact (hc.readN hR').any _
    · subst he
      have hv : v = r.toV := by
        have := hB.res
        cases this <;> first | rfl | (simp [AV.flatPlain] at hr)
      subst hv
      exact ⟨rfl, hw'.trans ⟨hB.keep.os, hB.keep.tape, hB.keep.output, hB.keep.size, fun b hb => hB.keep.block b hb (fun p h => by cases h)⟩⟩
  · refine h h2 w0 L0 Q _ w hQ ?_
    obtain ⟨L, hR⟩ := hR
    refine Rel.putPlain (n := d) hR hd ?_ rfl (toV_rep hr)
    cases r <;> first | rfl | (simp [AV.flatPlain] at hr)
end
end FM
