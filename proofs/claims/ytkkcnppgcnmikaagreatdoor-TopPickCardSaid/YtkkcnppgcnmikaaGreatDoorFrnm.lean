/- Arrays as values: built, compared; an alias of a row refreshed. No program in sight. -/
import Derived.Test.YtkkcnppgcnmikaaGreatDoorFqnm
import Derived.Lib.ConvBytes
import Derived.Lib.Strings
namespace FM
open Go Go.RowKit
set_option linter.all false
section
variable {S : Sys} {N : Nat} {σ : St} {d : Nat} {ty : Nat} {pos : String} {aft : Array Edge} {g : Option (Nat × Bool)}
theorem flatMap_cells : ∀ {vs : List Value}, (∀ v ∈ vs, v.cells = #[v]) → (vs.flatMap fun v => v.cells.toList) = vs
  | [], _ => rfl
  | v :: vs, h => by rw [List.flatMap_cons, h v (List.mem_cons_self ..), flatMap_cells fun u hu => h u (List.mem_cons_of_mem _ hu)]; rfl
/-- [n]T{..}: parts of one cell each. -/
theorem s_bldA {t e n sz by_ : Nat} {zz : List AV} {ti : TI} {xs : List Operand} {ys : List AV} {ps : Array (Nat × Operand)} (hT : S.T t = some ⟨.arr n e, sz, by_, zz⟩) (hE : S.T e = some ti) (hc : ti.size = 1) (hsz : sz = n)
    (hps : ps = (xs.zipIdx.map fun p => (p.2, p.1)).toArray) (hn : xs.length = n) (hp : PartsOk σ xs ys) (hok : ys.all AV.cellOk = true) : Step S ⟨some d, .build t ps, ty, pos, aft, g⟩ σ (σ.put d (.av (.agg ys))) := by
  subst hps; subst hn
  refine step_val rfl fun w0 L0 N a w L hR => ?_
  have hv := parts_values hR hp
  have hl : (xs.map a.eval).length = ys.length := by rw [List.length_map, hp.length]
  have h1 : ∀ v ∈ xs.map a.eval, v.cells = #[v] := fun v hv' => by
    obtain ⟨i, hi⟩ := List.getElem?_of_mem hv'
    have hlt : i < ys.length := by rw [← hl]; exact (List.getElem?_eq_some_iff.1 hi).1
    exact (cellOk_spec (hv i ys[i] v (List.getElem?_eq_getElem hlt) hi) (List.all_eq_true.1 hok _ (List.getElem_mem hlt))).1
  obtain ⟨f, zv, hf1, hf2, hf3, hf4, hf5, hf6, hf7⟩ := (S.ok t _ hT).info
  obtain ⟨fe, hfe1, hfe2⟩ := (S.ok e ti hE).size
  have hf7' : zv.cells.size = xs.length := by rw [hf7]; exact hsz
  obtain ⟨arr', p1, p2, p3⟩ := fill_parts 1 (xs.map a.eval) 0 zv.cells (fun v hv' => by rw [h1 v hv']; rfl) (by rw [List.length_map, hf7']; omega)
  have harr : arr' = (xs.map a.eval).toArray := by
    apply Array.ext_getElem?
    intro j
    rw [p3 j, flatMap_cells h1]
    by_cases hj : j < xs.length
    · rw [if_pos (by rw [List.length_map]; omega), Nat.zero_mul, Nat.sub_zero, List.getElem?_toArray]
    · rw [if_neg (by rw [List.length_map]; omega), Array.getElem?_eq_none (by omega), Array.getElem?_eq_none (by simp; omega)]
  subst harr
  refine ⟨.agg (xs.map a.eval).toArray, fun w' _ => ?_, .agg hl fun i x v hx hv' => hv i x v hx hv'⟩
  have e1 : ((xs.zipIdx.map fun p => (p.2, p.1)).toArray.map fun (i, x) => (i, a.eval x)) = ((xs.map a.eval).zipIdx.map fun p => (p.2, p.1)).toArray := by
    rw [List.zipIdx_map]
    simp
  have hsz1 : fe.size = 1 := by rw [hfe2, hc]
  simp only [execOp, Sem.run_bind]
  rw [e1]
  simp only [Instr.build, zeroValue, typeInfo, Go.sizeOf, Sem.run_bind, run_program, hf1, hf4, Result.andThen_ok, Sem.run_pure, run_underlying (S.ok t _ hT).arr, hfe1, hsz1]
  simp only [p1, Sem.run_pure, Result.andThen_ok]
theorem rep_agg2 {L : Nat → Lab} {w : World} {π : Option (List Nat)} {a b : Int} {v : Value} (h : Rep L w π (.agg [.int a, .int b]) v) : v = .agg #[.int .i64 a, .int .i64 b] := by
  cases h with
  | @agg _ _ vs hl h =>
    match vs, hl with
    | [x, y], _ =>
      have h1 := h 0 (.int a) x rfl rfl
      have h2 := h 1 (.int b) y rfl rfl
      cases h1; cases h2; rfl
theorem TOk.int {P : Program} {t sz by_ : Nat} {k : IntKind} {z : List AV} (h : TOk P t ⟨.int k, sz, by_, z⟩) : P.underlying t = some (.int k) := by
  obtain ⟨d, hd, he⟩ := h.desc
  simp only [TK.ofDesc] at he
  rw [hd, he]
theorem run_isAgg {P : Program} {e : Nat} {k : IntKind} (he : P.underlying e = some (.int k)) (w : World) : (isAgg e).run P w = .ok false w := by
  unfold isAgg
  rw [Sem.run_bind, run_underlying he, Result.andThen_ok]
  rfl
theorem run_guardA2 {P : Program} {op : BinOp} {t : Nat} {x y : Operand} (hg : P.eqGuardType P.depth t = false) (u v : Array Value) (w : World) : (eqGuard op t x y (.agg u) (.agg v)).run P w = .ok () w := by
  unfold eqGuard
  cases op <;> simp [Sem.run_bind, run_program, hg]
/-- []T{x}, x being what slot t0 owns: it moves into the new row. -/
theorem e_litC {t e sz by_ : Nat} {zz : List AV} {ti : TI} {x : Operand} {t0 : Nat} {r : AV} (hT : S.T t = some ⟨.slice e, sz, by_, zz⟩) (hE : S.T e = some ti) (hc : Nat.beq ti.size 1 = true) (ht0 : get σ t0 = .av r) (hok : r.cellOk = true) (hdt : Nat.beq t0 d = false)
    (hv : ∀ (w0 : World) (L0 : Nat → Lab) (N : Nat) (a : Act) (w : World) (L : Nat → Lab), RelL S w0 L0 N σ a w L → a.eval x = a.tmps.getD t0 undef) :
    EStep S ⟨some d, .buildSlice t 1 #[(0, x)], ty, pos, aft, g⟩ σ (((σ.put d (.av (.sl true 1 [.dead]))).put t0 .none).upd false d (.av (.sl true 1 [r]))) := by
  intro w0 L0 N a w hN ⟨L, hR⟩
  have hev := hv _ _ _ _ _ _ hR
  have htd : t0 ≠ d := of_not_beq hdt
  have htN := own_lt hR ht0 (by simp)
  have ht := hR.hold t0 htN
  rw [ht0] at ht
  simp only [Hold] at ht
  obtain ⟨V, hV⟩ : ∃ V, a.tmps.getD t0 undef = V := ⟨_, rfl⟩
  rw [hV] at hev ht
  obtain ⟨c1, c2, c3⟩ := cellOk_spec ht hok
  have hrun := run_buildSlice hT hE (Nat.eq_of_beq_eq_true hc) (vs := [V]) (fun v hv => by rw [List.mem_singleton.1 hv, c1]; rfl) (by simp [c1]) (by simp) w
  have harr : ([V].flatMap fun v => v.cells.toList).toArray = #[V] := by simp [c1]
  rw [harr] at hrun
  have hdN := hN d rfl
  obtain ⟨L', hR'⟩ := hR.alloc hdN (o := .cells #[V] e) (x := .sl true 1 [.dead]) (v := .slice (some ⟨w.heap.size, 0, none⟩) 1 1) (rep_new (n := 1) (cap := 1) rfl (fun x hx => by rw [List.mem_singleton.1 hx]; rfl) (Nat.le_refl _) rfl fun o y hy => by
    cases o with
    | zero => simp only [flat, List.flatMap_cons, List.flatMap_nil, AV.cells, List.append_nil, List.getElem?_cons_zero, Option.some.injEq] at hy; subst hy; exact ⟨_, rfl, .dead⟩
    | succ o => simp [flat, AV.cells] at hy)
  have hget : (a.put (some d) (.slice (some ⟨w.heap.size, 0, none⟩) 1 1)).tmps.getD d undef = .slice (some ⟨w.heap.size, 0, none⟩) 1 1 := getD_set_same (by rw [hR.size]; exact hdN.lt)
  have hget0 : (a.put (some d) (.slice (some ⟨w.heap.size, 0, none⟩) 1 1)).tmps.getD t0 undef = V := (getD_set_other htd.symm).trans hV
  have hb : L' w.heap.size = .my [d] := by
    have h := hR'.hold d hdN.lt
    simp only [get, kill_eq, Nat.beq_refl, cond_true, Hold] at h
    rw [hget] at h
    cases h with
    | slO u hL _ _ _ _ _ _ => exact hL
  refine ⟨_, _, .inl ?_, _, hR'.into (s := d) (i := 0) (t0 := t0) (r := r) (xs := [.dead]) ?_ ?_ c3 htd (by simp) fun b' hb' => ?_⟩
  · simp only [execOp, Sem.run_bind]
    have e1 : (#[(0, x)].map fun (i, x) => (i, a.eval x)) = (([V] : List Value).zipIdx.map fun p => (p.2, p.1)).toArray := by simp [hev]
    rw [e1]
    have := hrun
    simp only [List.length_cons, List.length_nil, Nat.zero_add] at this
    rw [this]; rfl
  · simp only [get, kill_eq, Nat.beq_refl, cond_true]
  · simp only [get, kill_eq, not_beq htd.symm, cond_false, ht0]; rfl
  · have := hR'.lok.inj _ _ _ hb' hb
    subst this
    rw [cell_of_row _ _ 0 #[V] e (0, 0) (heap_alloc_new w _), hget0]
    rfl
theorem e_litO {t e sz by_ : Nat} {zz : List AV} {ti : TI} {t0 : Nat} {r : AV} (ht0 : get σ t0 = .av r) (_ho : r.isOwn = true) (hT : S.T t = some ⟨.slice e, sz, by_, zz⟩) (hE : S.T e = some ti) (hc : Nat.beq ti.size 1 = true) (hok : r.cellOk = true) (hdt : Nat.beq t0 d = false) :
    EStep S ⟨some d, .buildSlice t 1 #[(0, .tmp t0)], ty, pos, aft, g⟩ σ (((σ.put d (.av (.sl true 1 [.dead]))).put t0 .none).upd false d (.av (.sl true 1 [r]))) :=
  e_litC hT hE hc ht0 hok hdt fun _ _ _ _ _ _ _ => rfl
theorem e_litR {t e sz by_ q : Nat} {zz : List AV} {ti : TI} {t0 : Nat} {r : AV} (hq : get σ q = .ref t0) (ht0 : get σ t0 = .av r) (hT : S.T t = some ⟨.slice e, sz, by_, zz⟩) (hE : S.T e = some ti) (hc : Nat.beq ti.size 1 = true) (hok : r.cellOk = true) (hdt : Nat.beq t0 d = false) :
    EStep S ⟨some d, .buildSlice t 1 #[(0, .tmp q)], ty, pos, aft, g⟩ σ (((σ.put d (.av (.sl true 1 [.dead]))).put t0 .none).upd false d (.av (.sl true 1 [r]))) :=
  e_litC hT hE hc ht0 hok hdt fun _ _ _ _ _ _ hR => by
    have h := hR.hold q (own_lt hR hq (by simp))
    rw [hq] at h
    exact h
end
end FM

/- Strings, bytes and small integers, as steps. No program in sight. -/
namespace FM
open Go Go.RowKit
set_option linter.all false
theorem less_lt : ∀ (x y : List UInt8), Op.bytesLess x y = decide (x < y)
  | x, [] => by rw [decide_eq_false (by simp)]; cases x <;> rfl
  | [], b :: y => by rw [decide_eq_true (by simp)]; rfl
  | a :: x, b :: y => by
    have ih := less_lt x y
    unfold Op.bytesLess
    rw [ih, Bool.eq_iff_iff, decide_eq_true_iff, List.cons_lt_cons_iff]
    simp
abbrev u8 (n : Nat) : AV := .val (.int .u8 (n : Int))
abbrev u16 (n : Nat) : AV := .val (.int .u16 (n : Int))
def sl16 (a n : Nat) : Nat := a * 2 ^ n % 65536
theorem sl16_lt (a n : Nat) : sl16 a n < 65536 := Nat.mod_lt _ (by decide)
abbrev b8 (b : UInt8) : AV := .val (.int .u8 (b.toNat : Int))
section
variable {S : Sys} {σ : St} {d : Nat} {ty : Nat} {pos : String} {aft : Array Edge} {g : Option (Nat × Bool)}
theorem s_binV {op : BinOp} {t t2 : Nat} {x y : Operand} {u v : Value} {r : AV} (hx : ov σ x = .av (.val u)) (hy : ov σ y = .av (.val v)) (hr : r.isOwn = false)
    (h : ∃ z, (∀ (L : Nat → Lab) (w : World), Rep L w none r z) ∧ ∀ w, (do eqGuard op t x y u v; binOp op t u v : Sem Value).run S.P w = .ok z w) :
    Step S ⟨some d, .binOp op t x y t2, ty, pos, aft, g⟩ σ (σ.put d (.av r)) := by
  obtain ⟨z, h1, h2⟩ := h
  refine step_val hr fun w0 L0 N c w L hR => ⟨z, fun w' _ => ?_, h1 L w⟩
  have e := h2 w'
  simp only [execOp, ev_val hR hx, ev_val hR hy] at e ⊢
  simp only [Sem.run_bind] at e ⊢
  rw [e]; rfl
theorem s_binVI {op : BinOp} {t t2 : Nat} {x y : Operand} {u : Value} {n : Int} {r : AV} (hx : ov σ x = .av (.val u)) (hy : ov σ y = .av (.int n)) (hr : r.isOwn = false)
    (h : ∃ z, (∀ (L : Nat → Lab) (w : World), Rep L w none r z) ∧ ∀ w, (do eqGuard op t x y u (.int .i64 n); binOp op t u (.int .i64 n) : Sem Value).run S.P w = .ok z w) :
    Step S ⟨some d, .binOp op t x y t2, ty, pos, aft, g⟩ σ (σ.put d (.av r)) := by
  obtain ⟨z, h1, h2⟩ := h
  refine step_val hr fun w0 L0 N c w L hR => ⟨z, fun w' _ => ?_, h1 L w⟩
  have e := h2 w'
  simp only [execOp, ev_val hR hx, ev_int hR hy] at e ⊢
  simp only [Sem.run_bind] at e ⊢
  rw [e]; rfl
theorem wrap_u16 {a : Nat} (h : a < 65536) : IntKind.u16.wrap (a : Int) = a := by
  simp only [IntKind.wrap, IntKind.bits, IntKind.signed, Bool.false_and, Bool.false_eq_true, if_false]; omega
theorem wrap_u8 {a : Nat} (h : a < 256) : IntKind.u8.wrap (a : Int) = a := by
  simp only [IntKind.wrap, IntKind.bits, IntKind.signed, Bool.false_and, Bool.false_eq_true, if_false]; omega
theorem wrap_u16m {a : Nat} : IntKind.u16.wrap (a : Int) = ((a % 65536 : Nat) : Int) := by
  simp only [IntKind.wrap, IntKind.bits, IntKind.signed, Bool.false_and, Bool.false_eq_true, if_false]; omega
theorem wrap_u8m {a : Nat} : IntKind.u8.wrap (a : Int) = ((a % 256 : Nat) : Int) := by
  simp only [IntKind.wrap, IntKind.bits, IntKind.signed, Bool.false_and, Bool.false_eq_true, if_false]; omega
theorem xor_u16 {a b : Nat} (ha : a < 65536) (hb : b < 65536) : a ^^^ b < 65536 := Nat.xor_lt_two_pow (n := 16) ha hb
theorem bv16 {a : Nat} (ha : a < 65536) : (BitVec.ofInt 16 (a : Int)).toNat = a := by
  rw [BitVec.ofInt_natCast, BitVec.toNat_ofNat]; omega
theorem bv8 {a : Nat} (ha : a < 256) : (BitVec.ofInt 8 (a : Int)).toNat = a := by
  rw [BitVec.ofInt_natCast, BitVec.toNat_ofNat]; omega
theorem s_xor16 {t t2 a b : Nat} {x y : Operand} (hx : ov σ x = .av (u16 a)) (hy : ov σ y = .av (u16 b)) (ha : a < 65536) (hb : b < 65536) : Step S ⟨some d, .binOp .xor t x y t2, ty, pos, aft, g⟩ σ (σ.put d (.av (u16 (a ^^^ b)))) :=
  s_binV hx hy rfl ⟨_, fun _ _ => .val, fun w => by
    have e : ((BitVec.ofInt 16 (a : Int)) ^^^ (BitVec.ofInt 16 (b : Int))).toNat = a ^^^ b := by rw [BitVec.toNat_xor, bv16 ha, bv16 hb]
    simp only [eqGuard, binOp, Op.intBits, Sem.run_bind]
    have e2 : IntKind.u16.wrap (((BitVec.ofInt 16 (a : Int)) ^^^ (BitVec.ofInt 16 (b : Int))).toNat : Int) = ((a ^^^ b : Nat) : Int) := by rw [e, wrap_u16 (xor_u16 ha hb)]
    exact congrArg (fun z => Result.ok (Value.int .u16 z) w) e2⟩
theorem s_shl16 {t t2 a n : Nat} {x y : Operand} (hx : ov σ x = .av (u16 a)) (hy : ov σ y = .av (.val (.int .u64 (n : Int)))) (hn : n ≤ 16) : Step S ⟨some d, .binOp .shl t x y t2, ty, pos, aft, g⟩ σ (σ.put d (.av (u16 (sl16 a n)))) :=
  s_binV hx hy rfl ⟨_, fun _ _ => .val, fun w => by
    have h0 : ¬ ((n : Int) < 0) := by omega
    have e1 : min n 16 = n := by omega
    have e2 : (a : Int) * 2 ^ n = ((a * 2 ^ n : Nat) : Int) := by simp
    simp only [eqGuard, binOp, Op.shift, h0, if_false, Int.toNat_natCast, IntKind.bits, e1, e2, wrap_u16m]
    rfl⟩
theorem fdiv_nat (a n : Nat) : Int.fdiv (a : Int) (2 ^ n) = ((a / 2 ^ n : Nat) : Int) := by
  rw [Int.fdiv_eq_ediv_of_nonneg _ (by exact Int.pow_nonneg (by decide))]; simp
theorem s_shr16 {t t2 a n : Nat} {x y : Operand} (hx : ov σ x = .av (u16 a)) (hy : ov σ y = .av (.val (.int .u64 (n : Int)))) (hn : n ≤ 16) : Step S ⟨some d, .binOp .shr t x y t2, ty, pos, aft, g⟩ σ (σ.put d (.av (u16 (shr a n)))) :=
  s_binV hx hy rfl ⟨_, fun _ _ => .val, fun w => by
    have h0 : ¬ ((n : Int) < 0) := by omega
    have e1 : min n 16 = n := by omega
    simp only [eqGuard, binOp, Op.shift, h0, if_false, Int.toNat_natCast, IntKind.bits, e1, fdiv_nat]
    rfl⟩
theorem s_shl16_8 {t t2 a : Nat} {x y : Operand} (hx : ov σ x = .av (u16 a)) (hy : ov σ y = .av (.val (.int .u64 8))) : Step S ⟨some d, .binOp .shl t x y t2, ty, pos, aft, g⟩ σ (σ.put d (.av (u16 (sl16 a 8)))) := s_shl16 hx hy (by decide)
theorem s_shl16_1 {t t2 a : Nat} {x y : Operand} (hx : ov σ x = .av (u16 a)) (hy : ov σ y = .av (.val (.int .u64 1))) : Step S ⟨some d, .binOp .shl t x y t2, ty, pos, aft, g⟩ σ (σ.put d (.av (u16 (sl16 a 1)))) := s_shl16 hx hy (by decide)
theorem s_shr16_15 {t t2 a : Nat} {x y : Operand} (hx : ov σ x = .av (u16 a)) (hy : ov σ y = .av (.val (.int .u64 15))) : Step S ⟨some d, .binOp .shr t x y t2, ty, pos, aft, g⟩ σ (σ.put d (.av (u16 (shr a 15)))) := s_shr16 hx hy (by decide)
theorem s_shr16_8 {t t2 a : Nat} {x y : Operand} (hx : ov σ x = .av (u16 a)) (hy : ov σ y = .av (.val (.int .u64 8))) : Step S ⟨some d, .binOp .shr t x y t2, ty, pos, aft, g⟩ σ (σ.put d (.av (u16 (shr a 8)))) := s_shr16 hx hy (by decide)
theorem s_xor16c {t t2 a : Nat} {x y : Operand} (hx : ov σ x = .av (u16 a)) (hy : ov σ y = .av (.val (.int .u16 4129))) (ha : a < 65536) : Step S ⟨some d, .binOp .xor t x y t2, ty, pos, aft, g⟩ σ (σ.put d (.av (u16 (a ^^^ 4129)))) := s_xor16 hx hy ha (by decide)
theorem s_shr8I {t t2 a n : Nat} {x y : Operand} (hx : ov σ x = .av (u8 a)) (hy : ov σ y = .av (.int (n : Int))) (hn : n ≤ 8) : Step S ⟨some d, .binOp .shr t x y t2, ty, pos, aft, g⟩ σ (σ.put d (.av (u8 (shr a n)))) :=
  s_binVI hx hy rfl ⟨_, fun _ _ => .val, fun w => by
    have h0 : ¬ ((n : Int) < 0) := by omega
    have e1 : min n 8 = n := by omega
    simp only [eqGuard, binOp, Op.shift, h0, if_false, Int.toNat_natCast, IntKind.bits, e1, fdiv_nat]
    rfl⟩
theorem s_and81 {t t2 a : Nat} {x y : Operand} (hx : ov σ x = .av (u8 a)) (hy : ov σ y = .av (.val (.int .u8 1))) (ha : a < 256) : Step S ⟨some d, .binOp .and t x y t2, ty, pos, aft, g⟩ σ (σ.put d (.av (u8 (a % 2)))) :=
  s_binV hx hy rfl ⟨_, fun _ _ => .val, fun w => by
    have e : ((BitVec.ofInt 8 (a : Int)) &&& (BitVec.ofInt 8 1)).toNat = a % 2 := by
      rw [BitVec.toNat_and, bv8 ha, show (BitVec.ofInt 8 1).toNat = 1 from rfl, Nat.and_one_is_mod]
    have e2 : IntKind.u8.wrap (((BitVec.ofInt 8 (a : Int)) &&& (BitVec.ofInt 8 1)).toNat : Int) = ((a % 2 : Nat) : Int) := by rw [e, wrap_u8 (by omega)]
    simp only [eqGuard, binOp, Op.intBits, Sem.run_bind]
    exact congrArg (fun z => Result.ok (Value.int .u8 z) w) e2⟩
theorem s_quo16 {t t2 a b : Nat} {x y : Operand} (hx : ov σ x = .av (u16 a)) (hy : ov σ y = .av (u16 b)) (hb : 0 < b) (ha : a < 65536) : Step S ⟨some d, .binOp .quo t x y t2, ty, pos, aft, g⟩ σ (σ.put d (.av (u16 (a / b)))) :=
  s_binV hx hy rfl ⟨_, fun _ _ => .val, fun w => by
    have h0 : ¬ ((b : Int) = 0) := by omega
    have e : Int.tdiv (a : Int) (b : Int) = ((a / b : Nat) : Int) := rfl
    have hl : a / b < 65536 := Nat.lt_of_le_of_lt (Nat.div_le_self _ _) ha
    simp only [eqGuard, binOp, Op.intDiv, h0, if_false, e, wrap_u16 hl]
    rfl⟩
theorem s_rem16 {t t2 a b : Nat} {x y : Operand} (hx : ov σ x = .av (u16 a)) (hy : ov σ y = .av (u16 b)) (hb : 0 < b) : Step S ⟨some d, .binOp .rem t x y t2, ty, pos, aft, g⟩ σ (σ.put d (.av (u16 (a % b)))) :=
  s_binV hx hy rfl ⟨_, fun _ _ => .val, fun w => by
    have h0 : ¬ ((b : Int) = 0) := by omega
    have e : Int.tmod (a : Int) (b : Int) = ((a % b : Nat) : Int) := rfl
    simp only [eqGuard, binOp, Op.intDiv, h0, if_false, e]
    rfl⟩
section
variable {t t2 : Nat} {x y : Operand} {k : IntKind} {a b : Int}
theorem s_eqlV (hx : ov σ x = .av (.val (.int k a))) (hy : ov σ y = .av (.val (.int k b))) : Step S ⟨some d, .binOp .eql t x y t2, ty, pos, aft, g⟩ σ (σ.put d (.av (.bool (decide (a = b))))) :=
  s_binV hx hy rfl ⟨_, fun _ _ => .bool, fun w => by simp [eqGuard, binOp, Op.intCmp]; rw [Bool.eq_iff_iff]; simp⟩
theorem s_neqV (hx : ov σ x = .av (.val (.int k a))) (hy : ov σ y = .av (.val (.int k b))) : Step S ⟨some d, .binOp .neq t x y t2, ty, pos, aft, g⟩ σ (σ.put d (.av (.bool (decide (a ≠ b))))) :=
  s_binV hx hy rfl ⟨_, fun _ _ => .bool, fun w => by simp [eqGuard, binOp, Op.intCmp]; rw [Bool.eq_iff_iff]; simp⟩
theorem s_lssV (hx : ov σ x = .av (.val (.int k a))) (hy : ov σ y = .av (.val (.int k b))) : Step S ⟨some d, .binOp .lss t x y t2, ty, pos, aft, g⟩ σ (σ.put d (.av (.bool (decide (a < b))))) :=
  s_binV hx hy rfl ⟨_, fun _ _ => .bool, fun w => by simp [eqGuard, binOp, Op.intCmp]⟩
theorem s_leqV (hx : ov σ x = .av (.val (.int k a))) (hy : ov σ y = .av (.val (.int k b))) : Step S ⟨some d, .binOp .leq t x y t2, ty, pos, aft, g⟩ σ (σ.put d (.av (.bool (decide (a ≤ b))))) :=
  s_binV hx hy rfl ⟨_, fun _ _ => .bool, fun w => by simp [eqGuard, binOp, Op.intCmp]⟩
theorem s_gtrV (hx : ov σ x = .av (.val (.int k a))) (hy : ov σ y = .av (.val (.int k b))) : Step S ⟨some d, .binOp .gtr t x y t2, ty, pos, aft, g⟩ σ (σ.put d (.av (.bool (decide (b < a))))) :=
  s_binV hx hy rfl ⟨_, fun _ _ => .bool, fun w => by simp [eqGuard, binOp, Op.intCmp]⟩
theorem s_geqV (hx : ov σ x = .av (.val (.int k a))) (hy : ov σ y = .av (.val (.int k b))) : Step S ⟨some d, .binOp .geq t x y t2, ty, pos, aft, g⟩ σ (σ.put d (.av (.bool (decide (b ≤ a))))) :=
  s_binV hx hy rfl ⟨_, fun _ _ => .bool, fun w => by simp [eqGuard, binOp, Op.intCmp]⟩
end
/-! ### conversions of integers -/
theorem TOk.intk {P : Program} {t sz by_ : Nat} {k : IntKind} {z : List AV} (h : TOk P t ⟨.int k, sz, by_, z⟩) : P.underlying t = some (.int k) := by
  obtain ⟨dd, hd, he⟩ := h.desc
  simp only [TK.ofDesc] at he
  subst he; exact hd
theorem s_cvV {src dst sz by_ sz2 by2 : Nat} {k k0 k' : IntKind} {z z2 : List AV} {x : Operand} {a : Int} (hS : S.T src = some ⟨.int k0, sz, by_, z⟩) (hD : S.T dst = some ⟨.int k', sz2, by2, z2⟩) (hx : ov σ x = .av (.val (.int k a))) {r : AV} (hr : r.isOwn = false) (hz : ∀ (L : Nat → Lab) (w : World), Rep L w none r (.int k' (k'.wrap a))) :
    Step S ⟨some d, .convert src dst x, ty, pos, aft, g⟩ σ (σ.put d (.av r)) :=
  step_val hr fun w0 L0 N c w L hR => ⟨_, fun w' _ => by
    simp [execOp, ev_val hR hx, convert, run_underlying (S.ok _ _ hS).intk, run_underlying (S.ok _ _ hD).intk, Conv.intToInt], hz L w⟩
theorem s_cvI {src dst sz by_ sz2 by2 : Nat} {k0 k' : IntKind} {z z2 : List AV} {x : Operand} {a : Int} (hS : S.T src = some ⟨.int k0, sz, by_, z⟩) (hD : S.T dst = some ⟨.int k', sz2, by2, z2⟩) (hx : ov σ x = .av (.int a)) {r : AV} (hr : r.isOwn = false) (hz : ∀ (L : Nat → Lab) (w : World), Rep L w none r (.int k' (k'.wrap a))) :
    Step S ⟨some d, .convert src dst x, ty, pos, aft, g⟩ σ (σ.put d (.av r)) :=
  step_val hr fun w0 L0 N c w L hR => ⟨_, fun w' _ => by
    simp [execOp, ev_int hR hx, convert, run_underlying (S.ok _ _ hS).intk, run_underlying (S.ok _ _ hD).intk, Conv.intToInt], hz L w⟩
section
variable {src dst sz by_ sz2 by2 a : Nat} {z z2 : List AV} {x : Operand}
theorem s_cv8_16 (hS : S.T src = some ⟨.int .u8, sz, by_, z⟩) (hD : S.T dst = some ⟨.int .u16, sz2, by2, z2⟩) (hx : ov σ x = .av (u8 a)) (ha : a < 256) : Step S ⟨some d, .convert src dst x, ty, pos, aft, g⟩ σ (σ.put d (.av (u16 a))) :=
  s_cvV hS hD hx rfl fun L w => by rw [wrap_u16 (by omega)]; exact .val
theorem s_cv8_64 (hS : S.T src = some ⟨.int .u8, sz, by_, z⟩) (hD : S.T dst = some ⟨.int .i64, sz2, by2, z2⟩) (hx : ov σ x = .av (u8 a)) (ha : a < 256) : Step S ⟨some d, .convert src dst x, ty, pos, aft, g⟩ σ (σ.put d (.av (.int a))) :=
  s_cvV hS hD hx rfl fun L w => by rw [IntWalk.i64_in _ (by omega)]; exact .int
theorem s_cv16_8 (hS : S.T src = some ⟨.int .u16, sz, by_, z⟩) (hD : S.T dst = some ⟨.int .u8, sz2, by2, z2⟩) (hx : ov σ x = .av (u16 a)) : Step S ⟨some d, .convert src dst x, ty, pos, aft, g⟩ σ (σ.put d (.av (u8 (a % 256)))) :=
  s_cvV hS hD hx rfl fun L w => by rw [wrap_u8m]; exact .val
theorem s_cv64_8 (hS : S.T src = some ⟨.int .i64, sz, by_, z⟩) (hD : S.T dst = some ⟨.int .u8, sz2, by2, z2⟩) (hx : ov σ x = .av (.int (a : Int))) : Step S ⟨some d, .convert src dst x, ty, pos, aft, g⟩ σ (σ.put d (.av (u8 (a % 256)))) :=
  s_cvI hS hD hx rfl fun L w => by rw [wrap_u8m]; exact .val
theorem s_cv64_16 (hS : S.T src = some ⟨.int .i64, sz, by_, z⟩) (hD : S.T dst = some ⟨.int .u16, sz2, by2, z2⟩) (hx : ov σ x = .av (.int (a : Int))) : Step S ⟨some d, .convert src dst x, ty, pos, aft, g⟩ σ (σ.put d (.av (u16 (a % 65536)))) :=
  s_cvI hS hD hx rfl fun L w => by rw [wrap_u16m]; exact .val
theorem s_cv64_64 {n : Int} (hS : S.T src = some ⟨.int .i64, sz, by_, z⟩) (hD : S.T dst = some ⟨.int .i64, sz2, by2, z2⟩) (hx : ov σ x = .av (.int n)) (hn : InR n) : Step S ⟨some d, .convert src dst x, ty, pos, aft, g⟩ σ (σ.put d (.av (.int n))) :=
  s_cvI hS hD hx rfl fun L w => by rw [hn.wrap]; exact .int
end
/-! ### strings -/
theorem TOk.str {P : Program} {t sz by_ : Nat} {z : List AV} (h : TOk P t ⟨.str, sz, by_, z⟩) : P.underlying t = some .string := by
  obtain ⟨dd, hd, he⟩ := h.desc
  simp only [TK.ofDesc] at he
  subst he; exact hd
theorem mk_size (s : List UInt8) : ByteArray.size ⟨s.toArray⟩ = s.length := by simp [ByteArray.size]
theorem mk_toList (s : List UInt8) : ByteArray.toList ⟨s.toArray⟩ = s := by rw [Lib.toList_data]
theorem s_strOp {op : BinOp} {t t2 : Nat} {x y : Operand} {a b : List UInt8} {r : AV} (hx : ov σ x = .av (.str a)) (hy : ov σ y = .av (.str b)) (hr : r.isOwn = false)
    (h : ∃ z, (∀ (L : Nat → Lab) (w : World), Rep L w none r z) ∧ ∀ w, (do eqGuard op t x y (.string ⟨a.toArray⟩) (.string ⟨b.toArray⟩); binOp op t (.string ⟨a.toArray⟩) (.string ⟨b.toArray⟩) : Sem Value).run S.P w = .ok z w) :
    Step S ⟨some d, .binOp op t x y t2, ty, pos, aft, g⟩ σ (σ.put d (.av r)) := by
  obtain ⟨z, h1, h2⟩ := h
  refine step_val hr fun w0 L0 N c w L hR => ⟨z, fun w' _ => ?_, h1 L w⟩
  have e := h2 w'
  simp only [execOp, ev_str hR hx, ev_str hR hy] at e ⊢
  simp only [Sem.run_bind] at e ⊢
  rw [e]; rfl
section
variable {t t2 : Nat} {x y : Operand} {a b : List UInt8}
theorem s_strEq (hx : ov σ x = .av (.str a)) (hy : ov σ y = .av (.str b)) : Step S ⟨some d, .binOp .eql t x y t2, ty, pos, aft, g⟩ σ (σ.put d (.av (.bool (decide (a = b))))) :=
  s_strOp hx hy rfl ⟨_, fun _ _ => .bool, fun w => by simp [eqGuard, binOp, Op.stringOp, mk_toList]; rw [Bool.eq_iff_iff]; simp⟩
theorem s_strNe (hx : ov σ x = .av (.str a)) (hy : ov σ y = .av (.str b)) : Step S ⟨some d, .binOp .neq t x y t2, ty, pos, aft, g⟩ σ (σ.put d (.av (.bool (decide (a ≠ b))))) :=
  s_strOp hx hy rfl ⟨_, fun _ _ => .bool, fun w => by simp [eqGuard, binOp, Op.stringOp, mk_toList]; rw [Bool.eq_iff_iff]; simp⟩
theorem s_strEq0 (hx : ov σ x = .av (.str a)) (hy : ov σ y = .av (.str [])) : Step S ⟨some d, .binOp .eql t x y t2, ty, pos, aft, g⟩ σ (σ.put d (.av (.bool (decide (a = []))))) := s_strEq hx hy
theorem s_strNe0 (hx : ov σ x = .av (.str a)) (hy : ov σ y = .av (.str [])) : Step S ⟨some d, .binOp .neq t x y t2, ty, pos, aft, g⟩ σ (σ.put d (.av (.bool (decide (a ≠ []))))) := s_strNe hx hy
theorem s_strLt (hx : ov σ x = .av (.str a)) (hy : ov σ y = .av (.str b)) : Step S ⟨some d, .binOp .lss t x y t2, ty, pos, aft, g⟩ σ (σ.put d (.av (.bool (decide (a < b))))) :=
  s_strOp hx hy rfl ⟨_, fun _ _ => .bool, fun w => by simp [eqGuard, binOp, Op.stringOp, mk_toList, less_lt, -List.not_lt, -List.not_le]⟩
theorem s_strGe (hx : ov σ x = .av (.str a)) (hy : ov σ y = .av (.str b)) : Step S ⟨some d, .binOp .geq t x y t2, ty, pos, aft, g⟩ σ (σ.put d (.av (.bool (decide (¬ a < b))))) :=
  s_strOp hx hy rfl ⟨_, fun _ _ => .bool, fun w => by simp [eqGuard, binOp, Op.stringOp, mk_toList, less_lt, -List.not_lt, -List.not_le]⟩
theorem s_strLe (hx : ov σ x = .av (.str a)) (hy : ov σ y = .av (.str b)) : Step S ⟨some d, .binOp .leq t x y t2, ty, pos, aft, g⟩ σ (σ.put d (.av (.bool (decide (a < b ∨ a = b))))) :=
  s_strOp hx hy rfl ⟨_, fun _ _ => .bool, fun w => by simp [eqGuard, binOp, Op.stringOp, mk_toList, less_lt, -List.not_lt, -List.not_le]; rw [Bool.eq_iff_iff]; simp⟩
theorem s_strGt (hx : ov σ x = .av (.str a)) (hy : ov σ y = .av (.str b)) : Step S ⟨some d, .binOp .gtr t x y t2, ty, pos, aft, g⟩ σ (σ.put d (.av (.bool (decide (¬ (a < b ∨ a = b)))))) :=
  s_strOp hx hy rfl ⟨_, fun _ _ => .bool, fun w => by simp [eqGuard, binOp, Op.stringOp, mk_toList, less_lt, -List.not_lt, -List.not_le]; rw [Bool.eq_iff_iff]; simp⟩
theorem s_strAdd (hx : ov σ x = .av (.str a)) (hy : ov σ y = .av (.str b)) (hl : a.length + b.length ≤ 9223372036854775807) : Step S ⟨some d, .binOp .add t x y t2, ty, pos, aft, g⟩ σ (σ.put d (.av (.str (a ++ b)))) :=
  s_strOp hx hy rfl ⟨.string ⟨(a ++ b).toArray⟩, fun _ _ => .str, fun w => by
    have h0 : ¬ (((a.length + b.length : Nat) : Int) > IntKind.i64.max) := by simp only [IntKind.max, IntKind.signed, IntKind.bits, if_true]; omega
    have e : (⟨a.toArray⟩ : ByteArray) ++ ⟨b.toArray⟩ = ⟨(a ++ b).toArray⟩ := by apply ByteArray.ext; simp
    simp only [eqGuard, binOp, Op.stringOp, mk_size, h0, if_false, e]
    rfl⟩
theorem s_strIx {n : Int} {b : UInt8} {sz by_ : Nat} {z : List AV} (hT : S.T t = some ⟨.str, sz, by_, z⟩) (hx : ov σ x = .av (.str a)) (hy : ov σ y = .av (.int n)) (h0 : 0 ≤ n) (h1 : a[n.toNat]? = some b) : Step S ⟨some d, .index t x y, ty, pos, aft, g⟩ σ (σ.put d (.av (b8 b))) :=
  step_val rfl fun w0 L0 N c w L hR => ⟨.int .u8 (b.toNat : Int), fun w' _ => by
    have hg : (⟨a.toArray⟩ : ByteArray)[n.toNat]? = some b := by
      have hl := (List.getElem?_eq_some_iff.1 h1).1
      have : n.toNat < ByteArray.size ⟨a.toArray⟩ := by rw [mk_size]; exact hl
      rw [getElem?_pos (⟨a.toArray⟩ : ByteArray) n.toNat this]
      have h2 := (List.getElem?_eq_some_iff.1 h1).2
      exact congrArg some (h2 ▸ rfl)
    simp [execOp, ev_str hR hx, ev_int hR hy, Instr.index, asIntOf, run_underlying (S.ok _ _ hT).str, h0, hg], .val⟩
theorem run_strSlice {P : Program} {t : Nat} (ht : P.underlying t = some .string) {s : List UInt8} {lo hi : Option Value} {l u : Nat} (hl : (lo = none ∧ l = 0) ∨ lo = some (.int .i64 (l : Nat))) (hu : (hi = none ∧ u = s.length) ∨ hi = some (.int .i64 (u : Nat))) (h1 : l ≤ u) (h2 : u ≤ s.length) (w : World) :
    (Instr.sliceAt t (.string ⟨s.toArray⟩) lo hi none).run P w = .ok (.string ⟨((s.take u).drop l).toArray⟩) w := by
  have e : (⟨s.toArray⟩ : ByteArray).extract l u = ⟨((s.take u).drop l).toArray⟩ := by
    rw [Lib.extract_eq, List.drop_take]
  have k1 : (u : Int) ≤ (s.length : Int) := by omega
  have k2 : (l : Int) ≤ (u : Int) := by omega
  have k3 : (l : Int) ≤ (s.length : Int) := by omega
  rcases hl with ⟨rfl, rfl⟩ | rfl <;> rcases hu with ⟨rfl, rfl⟩ | rfl
  · simp [Instr.sliceAt, Instr.slice, run_underlying ht, Instr.sliceBounds, mk_size, ← e]
  · simp only [Instr.sliceAt, Instr.slice, Sem.run_bind, run_underlying ht, Result.andThen_ok, Instr.sliceBounds, Instr.sliceBound, asIntOf, mk_size, Sem.run_pure, e, Int.toNat_natCast]
    simp [h2]; simpa using e
  · simp only [Instr.sliceAt, Instr.slice, Sem.run_bind, run_underlying ht, Result.andThen_ok, Instr.sliceBounds, Instr.sliceBound, asIntOf, mk_size, Sem.run_pure, e, Int.toNat_natCast]
    simp [h1]; simpa using e
  · simp only [Instr.sliceAt, Instr.slice, Sem.run_bind, run_underlying ht, Result.andThen_ok, Instr.sliceBounds, Instr.sliceBound, asIntOf, mk_size, Sem.run_pure, e, Int.toNat_natCast]
    simp [h1, h2]; simpa using e
theorem s_strSl {lo hi : Option Operand} {l u : Nat} {sz by_ : Nat} {z : List AV} (hT : S.T t = some ⟨.str, sz, by_, z⟩) (hx : ov σ x = .av (.str a)) (hl : bound σ 0 lo = some l) (hu : bound σ a.length hi = some u) (h1 : l ≤ u) (h2 : u ≤ a.length) :
    Step S ⟨some d, .slice t x lo hi none, ty, pos, aft, g⟩ σ (σ.put d (.av (.str ((a.take u).drop l)))) :=
  step_val rfl fun w0 L0 N c w L hR => ⟨_, fun w' _ => by
    simp only [execOp, Option.map_none, ev_str hR hx, Sem.run_bind]
    rw [run_strSlice (S.ok _ _ hT).str (bound_ev hR hl) (bound_ev hR hu) h1 h2]; rfl, .str⟩
theorem s_strLo {n : Int} {sz by_ : Nat} {z : List AV} {q : Operand} (hT : S.T t = some ⟨.str, sz, by_, z⟩) (hx : ov σ x = .av (.str a)) (hl : ov σ q = .av (.int n)) (h0 : 0 ≤ n) (h1 : n.toNat ≤ a.length) :
    Step S ⟨some d, .slice t x (some q) none none, ty, pos, aft, g⟩ σ (σ.put d (.av (.str (a.drop n.toNat)))) := by
  have := s_strSl (d := d) (ty := ty) (pos := pos) (aft := aft) (g := g) hT hx (ovb hl h0) (show bound σ _ none = some _ from rfl) h1 (Nat.le_refl _)
  rwa [List.take_length] at this
theorem s_strHi {n : Int} {sz by_ : Nat} {z : List AV} {q : Operand} (hT : S.T t = some ⟨.str, sz, by_, z⟩) (hx : ov σ x = .av (.str a)) (hl : ov σ q = .av (.int n)) (h0 : 0 ≤ n) (h1 : n.toNat ≤ a.length) :
    Step S ⟨some d, .slice t x none (some q) none, ty, pos, aft, g⟩ σ (σ.put d (.av (.str (a.take n.toNat)))) := by
  have := s_strSl (d := d) (ty := ty) (pos := pos) (aft := aft) (g := g) hT hx (show bound σ 0 none = some 0 from rfl) (ovb hl h0) (Nat.zero_le _) h1
  rwa [List.drop_zero] at this
theorem s_strLH {n n2 : Int} {sz by_ : Nat} {z : List AV} {q q2 : Operand} (hT : S.T t = some ⟨.str, sz, by_, z⟩) (hx : ov σ x = .av (.str a)) (hl : ov σ q = .av (.int n)) (hu : ov σ q2 = .av (.int n2)) (h0 : 0 ≤ n) (h1 : n ≤ n2) (h2 : n2.toNat ≤ a.length) :
    Step S ⟨some d, .slice t x (some q) (some q2) none, ty, pos, aft, g⟩ σ (σ.put d (.av (.str ((a.take n2.toNat).drop n.toNat)))) :=
  s_strSl hT hx (ovb hl h0) (ovb hu (by omega)) (by omega) h2
/-- []byte(s): a new row, shared from the start. -/
theorem e_toB {src dst e sz by_ sz2 by2 sz3 by3 : Nat} {z z2 z3 : List AV} (hS : S.T src = some ⟨.str, sz, by_, z⟩) (hD : S.T dst = some ⟨.slice e, sz2, by2, z2⟩) (hE : S.T e = some ⟨.int .u8, sz3, by3, z3⟩) (hx : ov σ x = .av (.str a)) :
    EStep S ⟨some d, .convert src dst x, ty, pos, aft, g⟩ σ (σ.put d (.av (.sl false 1 (a.map b8)))) := by
  intro w0 L0 N c w hN ⟨L, hR⟩
  have hrun := Lib.run_convert_string_bytes (P := S.P) w src dst e ⟨a.toArray⟩ (S.ok _ _ hS).str (S.ok _ _ hD).slice (S.ok _ _ hE).intk
  have hsz := Lib.bytesWorld_size w e ⟨a.toArray⟩
  have hext : Ext w (Lib.bytesWorld w e ⟨a.toArray⟩) := by
    refine ⟨rfl, rfl, rfl, by omega, fun b hb => Lib.bytesWorld_at_old w e _ b hb⟩
  have hLs : L w.heap.size = .sh := by
    cases h : L w.heap.size with
    | sh => rfl
    | fo => exact absurd h (hR.lok.new _ hR.keep.size)
    | my p => exact absurd (hR.lok.lt _ _ h) (Nat.lt_irrefl _)
  refine ⟨_, _, .inl (by simp only [execOp, ev_str hR hx, Sem.run_bind, hrun]; rfl), Rel.putPlain (n := d) (hR.ext hext) (hN d rfl) rfl rfl ?_⟩
  simp only [Hold]
  rw [mk_size]
  cases ha : a with
  | nil => exact .slE (by simp)
  | cons a0 ar =>
    rw [← ha]
    have hcap : a.length ≤ grownCap w a.length 0 e := grownCap_ge ..
    rw [show a.length = (a.map b8).length by simp]
    refine .slS (fun o => .int .u8 ((a.getD o 0).toNat : Int)) (by simpa using hcap) hLs (by omega) (fun x hx => by obtain ⟨y, _, rfl⟩ := List.mem_map.1 hx; rfl) (fun o ho => ?_) (fun o y hy => ?_)
    · rw [Nat.zero_add]
      have := Lib.bytesWorld_cell w e ⟨a.toArray⟩ o (by rw [mk_size]; simpa using ho)
      simpa using this
    · rw [flat_single (fun x hx => by obtain ⟨y, _, rfl⟩ := List.mem_map.1 hx; rfl), List.getElem?_map, Option.map_eq_some_iff] at hy
      obtain ⟨b, hb, rfl⟩ := hy
      rw [List.getD_eq_getElem?_getD, hb]; exact .val
/-- string(bytes). -/
theorem run_bytesStr {P : Program} {e : Nat} {L : Nat → Lab} {w : World} {π : Option (List Nat)} {o : Bool} {xs : List AV} {v : Value} (h : Rep L w π (.sl o 1 xs) v) (l : List UInt8) (hl : ∀ (i : Nat) (y : AV), xs[i]? = some y → ∃ b, l[i]? = some b ∧ y = b8 b) (hlen : l.length = xs.length) {w' : World} (he : Ext w w') (hlt : ∀ b p, L b = .my p → b < w.heap.size) :
    (Conv.bytesToString v).run P w' = .ok (.string ⟨l.toArray⟩) w' := by
  obtain ⟨adr, cap, rfl⟩ := sl_inv h
  cases adr with
  | none =>
    have : xs = [] := by cases h with | slE => rfl
    subst this
    have : l = [] := List.eq_nil_of_length_eq_zero hlen
    subst this
    simp [Conv.bytesToString]; rfl
  | some adr =>
    have hcells : ∀ j v, (l.map fun b => Value.int .u8 (b.toNat : Int))[j]? = some v → w'.cell? (adr.add j) = some v := by
      intro j v hv
      rw [List.getElem?_map, Option.map_eq_some_iff] at hv
      obtain ⟨b, hb, rfl⟩ := hv
      have hj : j < xs.length := by rw [← hlen]; exact (List.getElem?_eq_some_iff.1 hb).1
      obtain ⟨b', hb', hy⟩ := hl j xs[j] (List.getElem?_eq_getElem hj)
      rw [hb] at hb'; cases hb'
      have hr := Rep.ext hlt he h
      have hfl : (flat xs)[j]? = some (b8 b) := by
        have hs : ∀ x ∈ xs, x.cells = [x] := fun x hx => by
          obtain ⟨i, hi⟩ := List.getElem?_of_mem hx
          obtain ⟨b, _, rfl⟩ := hl i x hi; rfl
        rw [flat_single hs, List.getElem?_eq_getElem hj, hy]
      generalize hxs : xs.length = n at hr
      cases hr with
      | slE => simp at hj
      | slS u _ _ _ _ hc hr =>
        rw [addr_add, hc j (by omega)]
        have := hr j _ hfl
        generalize u j = z at this
        cases this; rfl
      | slO u _ hb0 _ _ _ hc hr =>
        rw [addr_add, cell_of_row w' _ _ _ _ (0, 0) hb0, Nat.zero_add, hc j (by omega)]
        have := hr j _ hfl
        generalize u j = z at this
        cases this; rfl
    have hload := run_loadCells_list (P := P) w' adr (l.map fun b => Value.int .u8 (b.toNat : Int)) hcells
    rw [List.length_map, hlen] at hload
    have hfold : ∀ (F : Value → ByteArray → Sem (ForInStep ByteArray)), (∀ (b : UInt8) r, F (.int .u8 (b.toNat : Int)) r = pure (ForInStep.yield (r.push b))) → ∀ (l : List UInt8) (s : ByteArray), (forIn (l.map fun b => Value.int .u8 (b.toNat : Int)) s F : Sem ByteArray).run P w' = .ok (s ++ ⟨l.toArray⟩) w' := by
      intro F hF l
      induction l with
      | nil => intro s; simp; apply ByteArray.ext; simp
      | cons b l ih =>
        intro s
        rw [List.map_cons, List.forIn_cons, hF]
        simp only [Sem.run_bind, Sem.run_pure, Result.andThen_ok]
        rw [ih (s.push b)]
        congr 1
        apply ByteArray.ext
        simp
    simp only [Conv.bytesToString, Sem.run_bind, hload, Result.andThen_ok, List.forIn_toArray]
    rw [hfold _ (fun b r => by simp) l ByteArray.empty]
    simp only [Result.andThen_ok, Sem.run_pure]
    congr 2
theorem s_strB {src dst e sz by_ sz2 by2 sz3 by3 : Nat} {z z2 z3 : List AV} {o : Bool} {xs : List AV} (l : List UInt8) (hS : S.T src = some ⟨.slice e, sz, by_, z⟩) (hD : S.T dst = some ⟨.str, sz2, by2, z2⟩) (hE : S.T e = some ⟨.int .u8, sz3, by3, z3⟩) (hx : rd σ (ov σ x) = .sl o 1 xs) (hl : ∀ (i : Nat) (y : AV), xs[i]? = some y → ∃ b, l[i]? = some b ∧ y = b8 b) (hlen : l.length = xs.length) :
    Step S ⟨some d, .convert src dst x, ty, pos, aft, g⟩ σ (σ.put d (.av (.str l))) :=
  step_val rfl fun w0 L0 N c w L hR => ⟨.string ⟨l.toArray⟩, fun w' he => by
    obtain ⟨L', π, hm, _, h⟩ := rd_ok hR hx (by simp)
    have hrun := run_bytesStr (P := S.P) (e := e) h l hl hlen he (fun b p hb => hR.lok.lt b p (hm b p hb))
    have hv := sl_inv h
    obtain ⟨adr, cap, hv⟩ := hv
    simp only [execOp, Sem.run_bind]
    have : (convert src dst (c.eval x)).run S.P w' = (Conv.bytesToString (c.eval x)).run S.P w' := by
      rw [hv]
      cases adr <;> simp [convert, run_underlying (S.ok _ _ hS).slice, run_underlying (S.ok _ _ hD).str, run_underlying (S.ok _ _ hE).intk]
    rw [this, hrun]; rfl, .str⟩
theorem s_str1 {src dst e sz by_ sz2 by2 sz3 by3 n : Nat} {z z2 z3 : List AV} {o : Bool} (hx : rd σ (ov σ x) = .sl o 1 [u8 n]) (hS : S.T src = some ⟨.slice e, sz, by_, z⟩) (hD : S.T dst = some ⟨.str, sz2, by2, z2⟩) (hE : S.T e = some ⟨.int .u8, sz3, by3, z3⟩) (hn : n < 256) :
    Step S ⟨some d, .convert src dst x, ty, pos, aft, g⟩ σ (σ.put d (.av (.str [UInt8.ofNat n]))) :=
  s_strB [UInt8.ofNat n] hS hD hE hx (fun i y hy => by
    match i with
    | 0 => simp only [List.getElem?_cons_zero, Option.some.injEq] at hy; subst hy; exact ⟨_, rfl, by simp [u8, b8, Nat.mod_eq_of_lt hn]⟩
    | i + 1 => simp at hy) rfl
theorem s_str2 {src dst e sz by_ sz2 by2 sz3 by3 n m : Nat} {z z2 z3 : List AV} {o : Bool} (hx : rd σ (ov σ x) = .sl o 1 [u8 n, u8 m]) (hS : S.T src = some ⟨.slice e, sz, by_, z⟩) (hD : S.T dst = some ⟨.str, sz2, by2, z2⟩) (hE : S.T e = some ⟨.int .u8, sz3, by3, z3⟩) (hn : n < 256) (hm : m < 256) :
    Step S ⟨some d, .convert src dst x, ty, pos, aft, g⟩ σ (σ.put d (.av (.str [UInt8.ofNat n, UInt8.ofNat m]))) :=
  s_strB [UInt8.ofNat n, UInt8.ofNat m] hS hD hE hx (fun i y hy => by
    match i with
    | 0 => simp only [List.getElem?_cons_zero, Option.some.injEq] at hy; subst hy; exact ⟨_, rfl, by simp [u8, b8, Nat.mod_eq_of_lt hn]⟩
    | 1 => simp only [List.getElem?_cons_succ, List.getElem?_cons_zero, Option.some.injEq] at hy; subst hy; exact ⟨_, rfl, by simp [u8, b8, Nat.mod_eq_of_lt hm]⟩
    | i + 2 => simp at hy) rfl
end
end
end FM

/- Structs built, pointers looked at. No program in sight. -/
namespace FM
open Go Go.RowKit
set_option linter.all false
theorem noSh_plain {x : AV} (h : x.flatPlain = true) : NoSh x := by
  cases x <;> first | exact .int | exact .bool | exact .str | exact .val | exact .nil | (simp [AV.flatPlain] at h)
theorem noSh_aggL {cs : List AV} (h : cs.all AV.flatPlain = true) : NoSh (.agg cs) := .agg fun x hx => noSh_plain (List.all_eq_true.1 h x hx)
section
variable {S : Sys} {σ : St} {d : Nat} {ty : Nat} {pos : String} {aft : Array Edge} {g : Option (Nat × Bool)}
/-- A struct's cells: its zero's, but for the parts that are given, in the fields' order. -/
inductive FillOk (σ : St) : Nat → List AV → List (Nat × Operand) → List AV → Prop
  | nil {k} : FillOk σ k [] [] []
  | part {k i : Nat} {z y : AV} {x : Operand} {zs ys : List AV} {ps : List (Nat × Operand)} (hi : Nat.beq k i = true) (hx : ov σ x = .av y) (hy : y.cellOk = true) (ho : y.isOwn = false) (h : FillOk σ (k + 1) zs ps ys) : FillOk σ k (z :: zs) ((i, x) :: ps) (y :: ys)
  | zero {k : Nat} {z : AV} {zs ys : List AV} {ps : List (Nat × Operand)} (h : FillOk σ (k + 1) zs ps ys) : FillOk σ k (z :: zs) ps (z :: ys)
theorem FillOk.length {k : Nat} {zs ys : List AV} {ps : List (Nat × Operand)} (h : FillOk σ k zs ps ys) : ys.length = zs.length := by
  induction h with
  | nil => rfl
  | part _ _ _ _ _ ih => simp [ih]
  | zero _ ih => simp [ih]
theorem FillOk.run {w0 : World} {L0 : Nat → Lab} {N : Nat} {a : Act} {w : World} {L : Nat → Lab} (hR : RelL S w0 L0 N σ a w L) {place : Nat → Option (Nat × Nat)} {n : Nat} (hp : ∀ i, i < n → place i = some (i, 1)) {k : Nat} {zs ys : List AV} {ps : List (Nat × Operand)} (h : FillOk σ k zs ps ys) :
    ∀ cells : Array Value, cells.size = n → k + zs.length = n → (∀ j z, zs[j]? = some z → ∃ u, cells[k + j]? = some u ∧ Rep L w none z u) →
      ∃ cells', Instr.fill place cells (ps.map fun p => (p.1, a.eval p.2)) = some cells' ∧ cells'.size = n ∧ (∀ j, j < k → cells'[j]? = cells[j]?) ∧ ∀ j y, ys[j]? = some y → ∃ u, cells'[k + j]? = some u ∧ Rep L w none y u := by
  induction h with
  | nil => exact fun cells hs _ _ => ⟨cells, rfl, hs, fun _ _ => rfl, fun j y hy => by simp at hy⟩
  | @part k i z y x zs ys ps hi hx hy ho _ ih =>
    intro cells hs hk hz
    have hi := Nat.eq_of_beq_eq_true hi
    subst hi
    rw [List.length_cons] at hk
    obtain ⟨m, hm⟩ := ev_av hR hx
    obtain ⟨c1, c2, c3⟩ := cellOk_spec hm hy
    have hm' : Rep L w none y (a.eval x) := Rep.replace hm ho
    have hlt : k < cells.size := by omega
    obtain ⟨cells', e1, e2, e3, e4⟩ := ih (cells.setIfInBounds k (a.eval x)) (by simp [hs]) (by omega) (fun j z' hz' => by
      obtain ⟨u, hu, hr⟩ := hz (j + 1) z' (by simpa using hz')
      refine ⟨u, ?_, hr⟩
      rw [Array.getElem?_setIfInBounds_ne (by omega), show k + 1 + j = k + (j + 1) by omega]; exact hu)
    refine ⟨cells', ?_, e2, fun j hj => by rw [e3 j (by omega), Array.getElem?_setIfInBounds_ne (by omega)], fun j y' hy' => ?_⟩
    · simp only [List.map_cons, Instr.fill, hp k (by omega)]
      have hsz : (a.eval x).cells.size = 1 := by rw [c1]; rfl
      have hne : ((a.eval x).cells.size ≠ 1 || k + (a.eval x).cells.size > cells.size) = false := by
        simp [hsz]; omega
      simp only [hne, Bool.false_eq_true, if_false]
      have hf : ((a.eval x).cells.zipIdx.foldl (fun cs (p : Value × Nat) => cs.setIfInBounds (k + p.2) p.1) cells) = cells.setIfInBounds k (a.eval x) := by
        rw [c1]; simp
      rw [← hf] at e1
      exact e1
    · cases j with
      | zero =>
        simp only [List.getElem?_cons_zero, Option.some.injEq] at hy'; subst hy'
        refine ⟨a.eval x, ?_, hm'⟩
        rw [Nat.add_zero, e3 k (by omega)]
        simp [hlt]
      | succ j =>
        simp only [List.getElem?_cons_succ] at hy'
        obtain ⟨u, hu, hr⟩ := e4 j y' hy'
        exact ⟨u, by rw [show k + (j + 1) = k + 1 + j by omega]; exact hu, hr⟩
  | @zero k z zs ys ps _ ih =>
    intro cells hs hk hz
    rw [List.length_cons] at hk
    obtain ⟨cells', e1, e2, e3, e4⟩ := ih cells hs (by omega) (fun j z' hz' => by
      obtain ⟨u, hu, hr⟩ := hz (j + 1) z' (by simpa using hz')
      exact ⟨u, by rw [show k + 1 + j = k + (j + 1) by omega]; exact hu, hr⟩)
    refine ⟨cells', e1, e2, fun j hj => e3 j (by omega), fun j y' hy' => ?_⟩
    cases j with
    | zero =>
      simp only [List.getElem?_cons_zero, Option.some.injEq] at hy'; subst hy'
      obtain ⟨u, hu, hr⟩ := hz 0 z rfl
      exact ⟨u, by rw [Nat.add_zero, e3 k (by omega)]; exact hu, hr⟩
    | succ j =>
      simp only [List.getElem?_cons_succ] at hy'
      obtain ⟨u, hu, hr⟩ := e4 j y' hy'
      exact ⟨u, by rw [show k + (j + 1) = k + 1 + j by omega]; exact hu, hr⟩
def ones1 (T : Nat → Option TI) : List (Nat × Nat) → Nat → Bool
  | [], _ => true
  | f :: fs, j => Nat.beq f.1 j && (match T f.2 with | some ti => Nat.beq ti.size 1 | none => false) && ones1 T fs (j + 1)
theorem ones1_get {T : Nat → Option TI} : ∀ {fs : List (Nat × Nat)} {j i : Nat} {f : Nat × Nat}, ones1 T fs j = true → fs[i]? = some f → f.1 = j + i ∧ ∃ ti, T f.2 = some ti ∧ ti.size = 1
  | [], j, i, f, _, h => by simp at h
  | x :: fs, j, i, f, h, hf => by
    simp only [ones1, Bool.and_eq_true] at h
    cases i with
    | zero =>
      simp only [List.getElem?_cons_zero, Option.some.injEq] at hf; subst hf
      refine ⟨Nat.eq_of_beq_eq_true h.1.1, ?_⟩
      have h2 := h.1.2
      cases hT : T x.2 with
      | none => rw [hT] at h2; cases h2
      | some ti => rw [hT] at h2; exact ⟨ti, rfl, Nat.eq_of_beq_eq_true h2⟩
    | succ i =>
      simp only [List.getElem?_cons_succ] at hf
      have := ones1_get (j := j + 1) h.2 hf
      exact ⟨by omega, this.2⟩
/-- T{..}, of fields of one cell each. -/
theorem s_bldS {t sz by_ : Nat} {fs : List (Nat × Nat)} {zz ys : List AV} {ps : Array (Nat × Operand)} (hT : S.T t = some ⟨.struct fs, sz, by_, zz⟩) (hf : ones1 S.T fs 0 = true) (hl : Nat.beq fs.length sz = true) (hp : FillOk σ 0 zz ps.toList ys) : Step S ⟨some d, .build t ps, ty, pos, aft, g⟩ σ (σ.put d (.av (.agg ys))) := by
  refine step_val rfl fun w0 L0 N a w L hR => ?_
  have hl := Nat.eq_of_beq_eq_true hl
  obtain ⟨f, zv, hf1, hf2, hf3, hf4, hf5, hf6, hf7⟩ := (S.ok t _ hT).info
  obtain ⟨dd, hd, fields, hde, hfl⟩ := (S.ok t _ hT).desc
  subst hde
  simp only at hf2 hf3 hf5 hf6 hf7
  have hfz : fields.size = sz := by
    have := congrArg List.length hfl
    rw [List.length_map, Array.length_toList] at this
    omega
  have hzl : zz.length = sz := by
    have := congrArg List.length hf5
    rw [List.length_map, Array.length_toList] at this
    omega
  have hcell : ∀ j z, zz[j]? = some z → ∃ u, zv.cells[0 + j]? = some u ∧ Rep L w none z u := fun j z hz => by
    refine ⟨z.toV, ?_, toV_rep (List.all_eq_true.1 hf6 z (List.mem_of_getElem? hz))⟩
    rw [Nat.zero_add, ← Array.getElem?_toList, hf5, List.getElem?_map, hz]; rfl
  have hfield : ∀ (i : Nat) (fd : Field), fields[i]? = some fd → fd.offset = i ∧ ∃ fe, S.P.info? fd.type = some fe ∧ fe.size = 1 := fun i fd hfd => by
    have h1 : fs[i]? = some (fd.offset, fd.type) := by rw [← hfl, List.getElem?_map, Array.getElem?_toList, hfd]; rfl
    obtain ⟨h2, ti, h3, h4⟩ := ones1_get hf h1
    obtain ⟨fe, h5, h6⟩ := (S.ok _ ti h3).size
    exact ⟨by simpa using h2, fe, h5, by rw [h6, h4]⟩
  obtain ⟨cells', e1, e2, _, e4⟩ := hp.run hR (place := fun i => ((Array.range sz).map fun i => (i, 1))[i]?) (n := sz) (fun i hi => by simp [hi]) zv.cells hf7 (by rw [hzl]; omega) hcell
  refine ⟨.agg cells', fun w' _ => ?_, ?_⟩
  · have hplaces : (fields.mapM fun f => do pure (f.offset, ← Go.sizeOf f.type) : Sem (Array (Nat × Nat))).run S.P w' = .ok ((Array.range sz).map fun i => (i, 1)) w' := by
      have hmr := mapM_run (P := S.P) (w := w') (fun f : Field => (do pure (f.offset, ← Go.sizeOf f.type) : Sem (Nat × Nat))) fields.toList ((List.range sz).map fun i => (i, 1)) (by simp [hfz]) (fun k x v hx hv => by
        rw [Array.getElem?_toList] at hx
        obtain ⟨h1, fe, h2, h3⟩ := hfield k x hx
        have hk : k < sz := by rw [← hfz]; exact (Array.getElem?_eq_some_iff.1 hx).1
        rw [List.getElem?_map, List.getElem?_range hk] at hv
        simp only [Option.map_some, Option.some.injEq] at hv
        subst hv
        simp [Go.sizeOf, typeInfo, h2, h3, h1])
      rw [Array.mapM_eq_mapM_toList]
      simp only [map_eq_pure_bind, Sem.run_bind, hmr, Result.andThen_ok, Sem.run_pure]
      congr 1
      apply Array.ext'
      simp
    simp only [execOp, Sem.run_bind, Instr.build, zeroValue, typeInfo, run_program, hf1, hf4, Result.andThen_ok, Sem.run_pure, run_underlying hd]
    rw [hplaces]
    simp only [Result.andThen_ok, Array.toList_map]
    rw [show (ps.toList.map fun x => match x with | (i, x) => (i, a.eval x)) = ps.toList.map fun p => (p.1, a.eval p.2) from rfl, e1]
    simp
  · have hys : ys.length = sz := by rw [hp.length, hzl]
    have : (Value.agg cells') = .agg cells'.toList.toArray := by simp
    rw [this]
    refine .agg (by rw [Array.length_toList, e2, hys]) fun i x v hx hv => ?_
    obtain ⟨u, hu, hr⟩ := e4 i x hx
    rw [Nat.zero_add] at hu
    rw [Array.getElem?_toList, hu] at hv
    cases hv
    exact hr
/-- A pointer that is not nil. -/
theorem s_nilR {x : Operand} {s : Nat} {o : Bool} {cs : List AV} (hx : ov σ x = .ref s) (hs : get σ s = .av (.pt o cs)) (hsd : Nat.beq s d = false) : Step S ⟨some d, .nilCheck x, ty, pos, aft, g⟩ σ (σ.put d (.ref s)) := by
  intro w0 L0 N a w hN ⟨L, h⟩
  obtain ⟨m, hm, _⟩ := hold_plain h hx (by simp)
  simp only [Hold] at hm
  have hh := h.hold s (own_lt h hs (by simp))
  rw [hs, ← hm] at hh
  obtain ⟨ad, hv⟩ : ∃ ad, a.eval x = .pointer (some ad) := by generalize a.eval x = v at hh; cases hh <;> exact ⟨_, rfl⟩
  refine ⟨a.eval x, fun w' _ => ?_, _, h.put (hN d rfl) ?_⟩
  · simp [execOp, hv]
  · simp only [Hold]
    rw [hm, getD_set_other (fun e => of_not_beq hsd e.symm)]
theorem s_nilS {x : Operand} {cs : List AV} (hx : ov σ x = .av (.pt false cs)) : Step S ⟨some d, .nilCheck x, ty, pos, aft, g⟩ σ (σ.put d (.av (.pt false cs))) :=
  step_val rfl fun w0 L0 N c w L hR => by
    obtain ⟨m, hm⟩ := ev_av hR hx
    obtain ⟨ad, hv⟩ : ∃ ad, c.eval x = .pointer (some ad) := by generalize c.eval x = v at hm; cases hm; exact ⟨_, rfl⟩
    exact ⟨c.eval x, fun w' _ => by simp [execOp, hv], Rep.replace hm rfl⟩
theorem s_ptNil {x y : Operand} {s t t2 e : Nat} {o : Bool} {cs : List AV} (hT : S.P.underlying t = some (.pointer e)) (hx : ov σ x = .ref s) (hs : get σ s = .av (.pt o cs)) (hy : ov σ y = .av (.val (.pointer none))) : Step S ⟨some d, .binOp .eql t x y t2, ty, pos, aft, g⟩ σ (σ.put d (.av (.bool false))) :=
  step_val rfl fun w0 L0 N c w L hR => ⟨.bool false, fun w' _ => by
    obtain ⟨m, hm, _⟩ := hold_plain hR hx (by simp)
    simp only [Hold] at hm
    have hh := hR.hold s (own_lt hR hs (by simp))
    rw [hs, ← hm] at hh
    have hyv := ev_val hR hy
    obtain ⟨ad, hv⟩ : ∃ ad, c.eval x = .pointer (some ad) := by generalize c.eval x = v at hh; cases hh <;> exact ⟨_, rfl⟩
    have e : (Op.equal t (.pointer (some ad)) (.pointer none)).run S.P w' = .ok false w' := by
      show (Op.equalIn (9999 + 1) t (.pointer (some ad)) (.pointer none)).run S.P w' = _
      unfold Op.equalIn
      rw [Sem.run_bind, run_underlying hT, Result.andThen_ok]
      rfl
    have e2 : (binOp .eql t (.pointer (some ad)) (.pointer none)).run S.P w' = .ok (.bool false) w' := by
      show (do pure (.bool (← Op.equal t (.pointer (some ad)) (.pointer none))) : Sem Value).run S.P w' = _
      rw [Sem.run_bind, e]; rfl
    simp only [execOp, hv, hyv, eqGuard, Sem.run_bind]
    simp [e2], .bool⟩
end
end FM

/- small laws for the walk's words -/
namespace FM
open Go
theorem InR.mk {n : Int} (h : -9223372036854775808 ≤ n ∧ n ≤ 9223372036854775807) : InR n := h
theorem get_setD {α : Type} {l : List α} {i : Nat} {z : α} (h : i < l.length) : (l.set i z)[i]? = some z := by rw [List.getElem?_set]; simp [h]
theorem get_map {α : Type} {f : α → AV} {l : List α} {i : Nat} {a : α} (h : l[i]? = some a) : (l.map f)[i]? = some (f a) := by rw [List.getElem?_map, h]; rfl
section
variable {K : St → Prop} {Q : Exit → St → Prop} {σ : St}
theorem thenQ_n (h : K σ) : thenQ K Q .normal σ := h
theorem thenQ_x {i : Nat} (h : Q (.exit i) σ) : thenQ K Q (.exit i) σ := h
theorem thenQ_r (h : Q .ret σ) : thenQ K Q .ret σ := h
theorem blockQ_n {id : Nat} (h : Q .normal σ) : blockQ id Q .normal σ := h
theorem blockQ_r {id : Nat} (h : Q .ret σ) : blockQ id Q .ret σ := h
theorem blockQ_e {id i : Nat} (hi : Nat.beq i id = true) (h : Q .normal σ) : blockQ id Q (.exit i) σ := by simp only [blockQ, hi]; exact h
theorem blockQ_x {id i : Nat} (hi : Nat.beq i id = false) (h : Q (.exit i) σ) : blockQ id Q (.exit i) σ := by simp only [blockQ, hi]; exact h
end
def gslot (ops : Array Oper) : Option (Nat × Bool) → Option Nat
  | none => none
  | some (j, _) => (ops[j]?).bind (·.dst)
section
variable {S : Sys} {N : Nat} {σ : St} {q : Bool} {ops : Array Oper} {l : List Oper} {K : St → Prop} {o : Oper} {t : Nat}
theorem J.splitG {p : Prop} {inst : Decidable p} (_hg : gslot ops o.guard = some t) (ht : get σ t = .av (.bool (decide p))) (h1 : p → J q S N ops (o :: l) K (σ.upd true t (.av (.bool true)))) (h2 : ¬ p → J q S N ops (o :: l) K (σ.upd true t (.av (.bool false)))) : J q S N ops (o :: l) K σ :=
  .splitD ht (fun h σ' e => by subst e; exact h1 h) (fun h σ' e => by subst e; exact h2 h)
theorem J.splitB {b : Bool} (_hg : gslot ops o.guard = some t) (ht : get σ t = .av (.bool b)) (h1 : b = true → J q S N ops (o :: l) K (σ.upd true t (.av (.bool true)))) (h2 : b = false → J q S N ops (o :: l) K (σ.upd true t (.av (.bool false)))) : J q S N ops (o :: l) K σ :=
  .split ht (fun h σ' e => by subst e; exact h1 h) (fun h σ' e => by subst e; exact h2 h)
end
theorem ints_congr {o : Bool} {c : Nat} {l l' : List Int} (h : l = l') : TV.av (.sl o c (l.map .int)) = .av (.sl o c (l'.map .int)) := by rw [h]
theorem map_congr' {α : Type} {f : α → AV} {o : Bool} {c : Nat} {l l' : List α} (h : l = l') : TV.av (.sl o c (l.map f)) = .av (.sl o c (l'.map f)) := by rw [h]
theorem int_congr {n n' : Int} (h : n = n') : TV.av (.int n) = .av (.int n') := by rw [h]
theorem bool_congr {n n' : Bool} (h : n = n') : TV.av (.bool n) = .av (.bool n') := by rw [h]
/-- Arguments that come back as they were. -/
theorem same_args {S : Sys} {σ : St} : ∀ {xs9 : List AV}, (xs9.all fun x => !x.isOwn) = true → ∀ (i : Nat) (x y : AV), xs9[i]? = some x → xs9[i]? = some y → (x.isOwn = false ∧ y = x) ∨ (S.M i = true ∧ (get σ i = .av y ∨ y = .dead)) := fun {xs9} h i x y hx hy => by
  rw [hx] at hy; injection hy with hy; subst hy
  exact .inl ⟨by simpa using List.all_eq_true.1 h x (List.mem_of_getElem? hx), rfl⟩
/-- The end of a function whose arguments are shared. -/
theorem Ret.mk {S : Sys} {rvs : List ResultVar} {xs9 : List AV} {rs : List AV} {r : AV} {σ : St} (hr : resL S σ rvs = some rs) (hp : r = pack rs) (hs : (xs9.all fun x => !x.isOwn) = true) : Ret S rvs xs9 xs9 r .ret σ :=
  ⟨rfl, ⟨rs, hr, hp ▸ .refl _⟩, rfl, same_args hs⟩
theorem Ret.mkL {S : Sys} {rvs : List ResultVar} {xs9 : List AV} {rs : List AV} {r : AV} {σ : St} (hr : resL S σ rvs = some rs) (hp : AV.le (pack rs) r) (hs : (xs9.all fun x => !x.isOwn) = true) : Ret S rvs xs9 xs9 r .ret σ :=
  ⟨rfl, ⟨rs, hr, hp⟩, rfl, same_args hs⟩
theorem le_tup2 {a b c d : AV} (h1 : AV.le a c) (h2 : AV.le b d) : AV.le (.tup [a, b]) (.tup [c, d]) := .tup rfl fun i x y hx hy => by
  match i with
  | 0 => simp only [List.getElem?_cons_zero, Option.some.injEq] at hx hy; subst hx; subst hy; exact h1
  | 1 => simp only [List.getElem?_cons_succ, List.getElem?_cons_zero, Option.some.injEq] at hx hy; subst hx; subst hy; exact h2
  | i + 2 => simp at hx
/-- []T{..}, its parts in their order. -/
theorem e_lit {S : Sys} {σ : St} {t e c : Nat} {sz by_ : Nat} {zz : List AV} {ti : TI} {ys : List AV} {n d ty : Nat} {ps : Array (Nat × Operand)} {pos : String} {aft : Array Edge} {g : Option (Nat × Bool)} (hT : S.T t = some ⟨.slice e, sz, by_, zz⟩) (hE : S.T e = some ti) (hc : ti.size = c)
    (hps : ps = ((ps.toList.map (·.2)).zipIdx.map fun p => (p.2, p.1)).toArray) (hn : (ps.toList.map (·.2)).length = n) (hp : PartsOk σ (ps.toList.map (·.2)) ys) (hok : ys.all (fun y => y.varOk && Nat.beq y.cells.length c) = true) (hb : Nat.ble (n * c) 16777216 = true) :
    EStep S ⟨some d, .buildSlice t n ps, ty, pos, aft, g⟩ σ (σ.put d (.av (.sl true c ys))) := e_bls hT hE hc hps hn hp hok hb
/-- [n]T{..}, its parts in their order. -/
theorem s_arr {S : Sys} {σ : St} {t e n sz by_ : Nat} {zz : List AV} {ti : TI} {ys : List AV} {d ty : Nat} {ps : Array (Nat × Operand)} {pos : String} {aft : Array Edge} {g : Option (Nat × Bool)} (hT : S.T t = some ⟨.arr n e, sz, by_, zz⟩) (hE : S.T e = some ti) (hc : ti.size = 1) (hsz : sz = n)
    (hps : ps = ((ps.toList.map (·.2)).zipIdx.map fun p => (p.2, p.1)).toArray) (hn : (ps.toList.map (·.2)).length = n) (hp : PartsOk σ (ps.toList.map (·.2)) ys) (hok : ys.all AV.cellOk = true) : Step S ⟨some d, .build t ps, ty, pos, aft, g⟩ σ (σ.put d (.av (.agg ys))) := s_bldA hT hE hc hsz hps hn hp hok
section
variable {S : Sys} {N : Nat} {σ : St} {P : Program} {f : Nat} {xs9 : List AV} {r : AV} {xs : List Operand} {b : Bool} {ops : Array Oper} {l : List Oper} {K : St → Prop} {d ty : Nat} {ts : Array Nat} {pos : String} {aft : Array Edge} {g : Option (Nat × Bool)}
theorem J.callP (hs : FnSpec P f xs9 xs9 r) (hP : P = S.P) (hg : live ops g σ = some true) (ha : ArgsOk S N σ xs b xs9) (hb : b = true → NoSh r) (h : J false S N ops l K (σ.put d (.av r))) :
    J false S N ops (⟨some d, .call ⟨.value (.func f), xs.toArray, ts⟩, ty, pos, aft, g⟩ :: l) K σ := by subst hP; exact J.call hs hg ha hb h
theorem J.callPQ (hs : FnSpec P f xs9 xs9 r) (hP : P = S.P) (hg : live ops g σ = some true) (ha : ArgsOk S N σ xs b xs9) (hr : r.flatPlain = true) (h : J true S N ops l K (σ.put d (.av r))) :
    J true S N ops (⟨some d, .call ⟨.value (.func f), xs.toArray, ts⟩, ty, pos, aft, g⟩ :: l) K σ := by subst hP; exact J.callQ hs hg ha hr h
end
def Oper.noEff (o : Oper) : Bool := match o.op with
  | .store .. | .buildSlice .. | .makeSlice .. | .alloc .. | .box .. | .makeMap .. | .mapUpdate .. => false
  | .call c => match c.callee with
    | .builtin .append | .builtin .copy | .builtin .clear | .builtin .delete => false
    | _ => true
  | _ => true
theorem CW.regQN {S : Sys} {N : Nat} {Q : Exit → St → Prop} {σ : St} {id : Nat} {l : List Oper} (_hn : l.all Oper.noEff = true) (hB : Region.lexB .any l.toArray = true) (hd : dstOk S N l = true) (h : J true S N l.toArray l (Q .normal) σ) : CW S N (.region id l.toArray true) Q σ := .regQ hB hd h
theorem s_notD {S : Sys} {σ : St} {d ty t : Nat} {pos : String} {aft : Array Edge} {g : Option (Nat × Bool)} {x : Operand} {p : Prop} {inst : Decidable p} (hx : ov σ x = .av (.bool (decide p))) : Step S ⟨some d, .unOp .not t x, ty, pos, aft, g⟩ σ (σ.put d (.av (.bool (decide (¬ p))))) := by
  rw [decide_not]; exact s_not hx
/-- Sums that grow place by place. -/
def accW (g : Nat → Nat → Int) (n s i : Nat) : List Int := (List.range n).map fun j => ((List.range (if j < i then s + 1 else s)).map fun s' => g s' j).sum
theorem accW_length (g : Nat → Nat → Int) (n s i : Nat) : (accW g n s i).length = n := by simp [accW]
theorem accW_get {g : Nat → Nat → Int} {n s i j : Nat} (h : j < n) : (accW g n s i)[j]? = some ((List.range (if j < i then s + 1 else s)).map fun s' => g s' j).sum := by
  simp [accW, h]
theorem accW_at {g : Nat → Nat → Int} {n s i : Nat} (h : i < n) : (accW g n s i)[i]? = some ((List.range s).map fun s' => g s' i).sum := by
  rw [accW_get h, if_neg (Nat.lt_irrefl _)]
theorem accW_succ {g : Nat → Nat → Int} {n s i : Nat} (h : i < n) {v : Int} (hv : v = g s i) : (accW g n s i).set i (((List.range s).map fun s' => g s' i).sum + v) = accW g n s (i + 1) := by
  subst hv
  apply List.ext_getElem?
  intro j
  rw [List.getElem?_set]
  by_cases hij : i = j
  · subst hij
    rw [if_pos rfl, accW_length, if_pos h, accW_get h, if_pos (Nat.lt_succ_self _), List.range_succ, List.map_append, List.sum_append]
    simp
  · rw [if_neg hij]
    by_cases hj : j < n
    · rw [accW_get hj, accW_get hj]
      have : (j < i) = (j < i + 1) := by apply propext; omega
      simp only [this]
    · rw [List.getElem?_eq_none (by rw [accW_length]; omega), List.getElem?_eq_none (by rw [accW_length]; omega)]
theorem set_same {α : Type} {l : List α} {i : Nat} {v : α} (h : l[i]? = some v) : l.set i v = l := by
  apply List.ext_getElem?
  intro j
  rw [List.getElem?_set]
  split
  · rename_i e; subst e
    rw [if_pos (List.getElem?_eq_some_iff.1 h).1, h]
  · rfl
theorem accW_skip {g : Nat → Nat → Int} {n s i : Nat} (h : i < n) (hv : g s i = 0) : accW g n s i = accW g n s (i + 1) := by
  rw [← accW_succ h hv.symm, Int.add_zero]
  exact (set_same (accW_at h)).symm
theorem accW_end {g : Nat → Nat → Int} {n s : Nat} : accW g n s n = accW g n (s + 1) 0 := by
  unfold accW
  refine List.map_congr_left fun j hj => ?_
  rw [if_pos (List.mem_range.1 hj), if_neg (Nat.not_lt_zero _)]
theorem accW_zero {g : Nat → Nat → Int} {n : Nat} : List.replicate n (0 : Int) = accW g n 0 0 := by
  unfold accW
  apply List.ext_getElem?
  intro j
  by_cases hj : j < n <;> simp [hj]
/-! ### the walk's words, laid once: what shows one operation's law -/
theorem w9t {a b : TV} (h : a = b) : a = b := h
theorem w9u {a b : Option TI} (h : a = b) : a = b := h
theorem w9l {p : Prop} (h : p := by first | rfl | ((fail_if_success (with_reducible refine w9t ?_)); (fail_if_success (with_reducible refine w9u ?_)); first | assumption | exact get_map (by assumption) | exact get_setD (by first | assumption | (simp only [List.length_map]; omega)) | omega | exact InR.mk (by omega) | exact InR.mk (by dsimp only; omega) | exact AV.noConfusion | exact FlatOk.int | exact CellsOk.int | exact CellsOk.lit rfl | exact FlatOk.map (fun _ => rfl) | exact CellsOk.map (fun _ => rfl) | exact of_decide_eq_true rfl | (simp only [List.length_append, List.length_set, List.length_map, List.length_cons, List.length_nil, List.length_take, List.length_drop, List.length_replicate] at *; omega)) | fail) : p := h
theorem w9m {p : Prop} (h : p := by first | exact (rfl : _ = TV.av _) | rfl | fail) : p := h
theorem w9o {p : Prop} (h : False := by first | omega | fail) : p := h.elim
theorem w9s {p : Prop} (h : False := by first | (simp only [decide_eq_true_eq, decide_eq_false_iff_not, Bool.and_eq_true, Bool.or_eq_true] at *; omega) | fail) : p := h.elim
theorem w9a {p : Prop} (h : p := by (repeat' (first | exact trivial | rfl | refine And.intro ?_ ?_ | exact int_congr (by omega) | exact int_congr (by dsimp only; omega) | exact ints_congr (by first | assumption | exact Eq.symm (by assumption)) | exact int_congr (by assumption) | exact bool_congr (by first | assumption | exact Eq.symm (by assumption)) | exact map_congr' (by first | assumption | exact Eq.symm (by assumption))))) : p := h
theorem st {S : Sys} {o : Oper} {σ σ' : St} (h : Step S o σ σ' := by (first | ((with_reducible apply s_mov) <;> exact w9m) | ((with_reducible apply s_asg) <;> exact w9m) | ((with_reducible apply s_movO) <;> exact w9l) | ((with_reducible apply s_movR) <;> exact w9l) | ((with_reducible apply s_asgR) <;> exact w9l) | ((with_reducible apply s_asgO) <;> exact w9l) | ((with_reducible apply s_ldD) <;> exact w9l) | ((with_reducible apply s_ldP) <;> exact w9l) | ((with_reducible apply s_ldF) <;> exact w9l) | ((with_reducible apply s_ldR) <;> exact w9l) | ((with_reducible apply s_ldB) <;> exact w9l) | ((with_reducible apply s_ldRow) <;> exact w9l) | ((with_reducible apply s_ixaS) <;> exact w9l) | ((with_reducible apply s_ixaO) <;> exact w9l) | ((with_reducible apply s_ixaB) <;> exact w9l) | ((with_reducible apply s_ixaR) <;> exact w9l) | ((with_reducible apply s_lss) <;> exact w9l) | ((with_reducible apply s_leq) <;> exact w9l) | ((with_reducible apply s_gtr) <;> exact w9l) | ((with_reducible apply s_geq) <;> exact w9l) | ((with_reducible apply s_eql) <;> exact w9l) | ((with_reducible apply s_eqlB) <;> exact w9l) | ((with_reducible apply s_eqNN) <;> exact w9l) | ((with_reducible apply s_eqNilF) <;> exact w9l) | ((with_reducible apply s_neq) <;> exact w9l) | ((with_reducible apply s_add) <;> exact w9l) | ((with_reducible apply s_sub) <;> exact w9l) | ((with_reducible apply s_mul) <;> exact w9l) | ((with_reducible apply s_lenM) <;> exact w9l) | ((with_reducible apply s_lenS) <;> exact w9l) | ((with_reducible apply s_lenN) <;> exact w9l) | ((with_reducible apply s_lenStr) <;> exact w9l) | ((with_reducible apply s_extP) <;> exact w9l) | ((with_reducible apply s_extO) <;> exact w9l) | ((with_reducible apply s_pickT) <;> exact w9m) | ((with_reducible apply s_pickF) <;> exact w9m) | ((with_reducible apply s_neg) <;> exact w9l) | ((with_reducible apply s_notD) <;> exact w9l) | ((with_reducible apply s_not) <;> exact w9l) | ((with_reducible apply s_min) <;> exact w9l) | ((with_reducible apply s_max) <;> exact w9l) | ((with_reducible apply s_quo2) <;> exact w9l) | ((with_reducible apply s_rem2) <;> exact w9l) | ((with_reducible apply s_quo) <;> exact w9l) | ((with_reducible apply s_rem) <;> exact w9l) | ((with_reducible apply s_and1) <;> exact w9l) | ((with_reducible apply s_andN) <;> exact w9l) | ((with_reducible apply s_and) <;> exact w9l) | ((with_reducible apply s_shl1) <;> exact w9l) | ((with_reducible apply s_shl) <;> exact w9l) | ((with_reducible apply s_shrN) <;> exact w9l) | ((with_reducible apply s_shr) <;> exact w9l) | ((with_reducible apply s_andNotN) <;> exact w9l) | ((with_reducible apply s_andNot) <;> exact w9l) | ((with_reducible apply s_xorN) <;> exact w9l) | ((with_reducible apply s_xor) <;> exact w9l) | ((with_reducible apply s_orN) <;> exact w9l) | ((with_reducible apply s_ixaD) <;> exact w9l) | ((with_reducible apply s_slcSlo) <;> exact w9l) | ((with_reducible apply s_slcShi) <;> exact w9l) | ((with_reducible apply s_slcSlh) <;> exact w9l) | ((with_reducible apply s_slcRlo) <;> exact w9l) | ((with_reducible apply s_slcRhi) <;> exact w9l) | ((with_reducible apply s_fadO) <;> exact w9l) | ((with_reducible apply s_fadR) <;> exact w9l) | ((with_reducible apply s_fadD) <;> exact w9l) | ((with_reducible apply s_fadS) <;> exact w9l) | ((with_reducible apply s_fadP) <;> exact w9l) | ((with_reducible apply s_ldO1) <;> exact w9l) | ((with_reducible apply s_ldS1) <;> exact w9l) | ((with_reducible apply s_ldOA) <;> exact w9l) | ((with_reducible apply s_ixaA) <;> exact w9l) | ((with_reducible apply s_strIx) <;> exact w9l) | ((with_reducible apply s_strEq0) <;> exact w9l) | ((with_reducible apply s_strNe0) <;> exact w9l) | ((with_reducible apply s_strEq) <;> exact w9l) | ((with_reducible apply s_strNe) <;> exact w9l) | ((with_reducible apply s_strLt) <;> exact w9l) | ((with_reducible apply s_strLe) <;> exact w9l) | ((with_reducible apply s_strGt) <;> exact w9l) | ((with_reducible apply s_strGe) <;> exact w9l) | ((with_reducible apply s_strAdd) <;> exact w9l) | ((with_reducible apply s_strLH) <;> exact w9l) | ((with_reducible apply s_strLo) <;> exact w9l) | ((with_reducible apply s_strHi) <;> exact w9l) | ((with_reducible apply s_xor16c) <;> exact w9l) | ((with_reducible apply s_xor16) <;> exact w9l) | ((with_reducible apply s_shl16_8) <;> exact w9l) | ((with_reducible apply s_shl16_1) <;> exact w9l) | ((with_reducible apply s_shr16_15) <;> exact w9l) | ((with_reducible apply s_shr16_8) <;> exact w9l) | ((with_reducible apply s_shr8I) <;> exact w9l) | ((with_reducible apply s_and81) <;> exact w9l) | ((with_reducible apply s_quo16) <;> exact w9l) | ((with_reducible apply s_rem16) <;> exact w9l) | ((with_reducible apply s_cv8_16) <;> exact w9l) | ((with_reducible apply s_cv8_64) <;> exact w9l) | ((with_reducible apply s_cv16_8) <;> exact w9l) | ((with_reducible apply s_cv64_8) <;> exact w9l) | ((with_reducible apply s_cv64_16) <;> exact w9l) | ((with_reducible apply s_cv64_64) <;> exact w9l) | ((with_reducible apply s_eqlV) <;> exact w9l) | ((with_reducible apply s_neqV) <;> exact w9l) | ((with_reducible apply s_lssV) <;> exact w9l) | ((with_reducible apply s_leqV) <;> exact w9l) | ((with_reducible apply s_gtrV) <;> exact w9l) | ((with_reducible apply s_geqV) <;> exact w9l) | ((with_reducible apply s_str1) <;> exact w9l) | ((with_reducible apply s_str2) <;> exact w9l) | ((with_reducible apply s_nilR) <;> exact w9l) | ((with_reducible apply s_nilS) <;> exact w9l) | ((with_reducible apply s_arr) <;> (first | rfl | ((repeat' (first | exact PartsOk.nil | (with_unfolding_all apply PartsOk.cons rfl rfl))); done))) | ((with_reducible apply s_bldS) <;> (first | rfl | ((repeat' (first | exact FillOk.nil | (with_unfolding_all apply FillOk.part rfl rfl rfl rfl) | apply FillOk.zero)); done))))) : Step S o σ σ' := h
theorem ef {S : Sys} {o : Oper} {σ σ' : St} (h : EStep S o σ σ' := by (first | ((with_reducible apply e_stI) <;> exact w9l) | ((with_reducible apply e_stM) <;> exact w9l) | ((with_reducible apply e_st) <;> exact w9l) | ((with_reducible apply e_stOM) <;> exact w9l) | ((with_reducible apply e_stOD) <;> exact w9l) | ((with_reducible apply e_stO) <;> exact w9l) | ((with_reducible apply e_stRI) <;> exact w9l) | ((with_reducible apply e_alloc) <;> exact w9l) | ((with_reducible apply e_box) <;> exact w9l) | ((with_reducible apply e_stPt) <;> exact w9l) | ((with_reducible apply e_stFM) <;> exact w9l) | ((with_reducible apply e_stF) <;> exact w9l) | ((with_reducible apply e_mksI) <;> exact w9l) | ((with_reducible apply e_mks1) <;> exact w9l) | ((with_reducible apply e_mksA) <;> exact w9l) | ((with_reducible apply e_appOM) <;> exact w9l) | ((with_reducible apply e_appBM) <;> exact w9l) | ((with_reducible apply e_appSM) <;> exact w9l) | ((with_reducible apply e_appO) <;> exact w9l) | ((with_reducible apply e_appB) <;> exact w9l) | ((with_reducible apply e_appS) <;> exact w9l) | ((with_reducible apply e_litO) <;> exact w9l) | ((with_reducible apply e_litR) <;> exact w9l) | ((with_reducible apply e_toB) <;> exact w9l) | ((with_reducible apply e_lit) <;> (first | rfl | ((repeat' (first | exact PartsOk.nil | (with_unfolding_all apply PartsOk.cons rfl rfl))); done))))) : EStep S o σ σ' := h
/-! ### the walk itself: a step on a way that does not part; a parting; a call by its contract -/
structure Wr (p : Prop) : Prop where
  out : p
theorem w9x {A B : Prop} (g : B) (h : Wr B → A := by intro g9; first | (((with_reducible apply J.step); rfl; exact FM.st); exact g9.out) | (((with_reducible apply J.eff); rfl; exact FM.ef); exact g9.out) | ((refine J.takeRow rfl rfl AV.noConfusion rfl (by first | assumption | (simp only [List.length_map]; omega)) ?_); exact g9.out) | (with_reducible refine J.nil ?_; exact g9.out) | (((with_reducible apply J.skipV); rfl; rfl; rfl); exact g9.out) | (((with_reducible apply J.skipU); rfl; rfl); exact g9.out) | (with_reducible refine CW.seq ?_; exact g9.out) | (with_reducible refine CW.block ?_; exact g9.out) | (((with_reducible refine CW.reg ?_ ?_); rfl); exact g9.out) | (((with_reducible refine CW.regQN ?_ ?_ ?_ ?_); rfl; kernel_rfl; rfl); exact g9.out) | (((with_reducible refine CW.regS 1 ?_ ?_ ?_); kernel_rfl; rfl; simp only [List.length_cons, List.length_nil, Nat.reduceAdd, Nat.reduceSub, List.take_succ_cons, List.take_zero, List.drop_succ_cons, List.drop_zero]); exact g9.out) | (with_reducible refine CW.skip ?_; exact g9.out) | (with_reducible refine CW.ret ?_; exact g9.out) | (with_reducible refine CW.exit ?_; exact g9.out) | (refine CW.condT rfl ?_; exact g9.out) | (refine CW.condF rfl ?_; exact g9.out) | (with_reducible refine thenQ_n ?_; exact g9.out) | (with_reducible refine blockQ_n ?_; exact g9.out) | (((with_reducible refine blockQ_e ?_ ?_); rfl); exact g9.out) | (((with_reducible refine blockQ_x ?_ ?_); rfl); exact g9.out) | (with_reducible refine blockQ_r ?_; exact g9.out) | (with_reducible refine thenQ_x ?_; exact g9.out) | (with_reducible refine thenQ_r ?_; exact g9.out) | fail) : A := h ⟨g⟩
theorem w9z {A B : Prop} (g : B) (h : Wr B → A := by intro g9; first | (((with_reducible apply J.step); rfl; exact FM.st); exact g9.out) | (((with_reducible apply J.eff); rfl; exact FM.ef); exact g9.out) | ((refine J.takeRow rfl rfl AV.noConfusion rfl (by first | assumption | (simp only [List.length_map]; omega)) ?_); exact g9.out) | (with_reducible refine J.nil ?_; exact g9.out) | (((with_reducible apply J.skipV); rfl; rfl; rfl); exact g9.out) | (((with_reducible apply J.skipU); rfl; rfl); exact g9.out) | (with_reducible refine CW.seq ?_; exact g9.out) | (with_reducible refine CW.block ?_; exact g9.out) | (((with_reducible refine CW.reg ?_ ?_); rfl); exact g9.out) | (with_reducible refine CW.skip ?_; exact g9.out) | (with_reducible refine CW.ret ?_; exact g9.out) | (with_reducible refine CW.exit ?_; exact g9.out) | (refine CW.condT rfl ?_; exact g9.out) | (refine CW.condF rfl ?_; exact g9.out) | (with_reducible refine thenQ_n ?_; exact g9.out) | (with_reducible refine blockQ_n ?_; exact g9.out) | (((with_reducible refine blockQ_e ?_ ?_); rfl); exact g9.out) | (((with_reducible refine blockQ_x ?_ ?_); rfl); exact g9.out) | (with_reducible refine blockQ_r ?_; exact g9.out) | (with_reducible refine thenQ_x ?_; exact g9.out) | (with_reducible refine thenQ_r ?_; exact g9.out) | fail) : A := h ⟨g⟩
theorem w9q {A B : Prop} (g : B) (h : Wr B → A := by intro g9; first | ((with_reducible apply J.eqNil); rfl; rfl; rfl; rfl; exact g9.out) | fail) : A := h ⟨g⟩
theorem w9c {A B C : Prop} (b : B) (c : C) (h : Wr B → Wr C → A := by intro a9 b9; first | exact CW.condD rfl a9.out b9.out | (((fail_if_success ((with_reducible apply J.step); rfl)); (fail_if_success ((with_reducible apply J.skipU); rfl)); exact J.splitG rfl rfl a9.out b9.out)) | fail) : A := h ⟨b⟩ ⟨c⟩
theorem w9d {A B C : Prop} (b : B) (c : C) (h : Wr B → Wr C → A := by intro a9 b9; first | exact CW.cond rfl a9.out b9.out | (((fail_if_success ((with_reducible apply J.step); rfl)); (fail_if_success ((with_reducible apply J.skipU); rfl)); exact J.splitB rfl rfl a9.out b9.out)) | fail) : A := h ⟨b⟩ ⟨c⟩
theorem w9p {A B : Prop} {P : Program} {f : Nat} {xs9 ys9 : List AV} {r : AV} (hs : FnSpec P f xs9 ys9 r) (g : B) (h : FnSpec P f xs9 ys9 r → Wr B → A := by intro hs9 g9; first | ((with_reducible first | apply J.callP hs9 | apply J.callPQ hs9); rfl; rfl; (repeat' (first | exact ArgsOk.nil | apply ArgsOk.cons | exact ArgOk.pl rfl rfl | exact ArgOk.br rfl AV.noConfusion (by first | rfl | exact sh_int | exact sh_rows | exact sh_rowsO | exact sh_box | exact sh_map (fun _ => rfl)))); (first | rfl | exact gn0 | exact gnI); exact g9.out) | fail) : A := h hs ⟨g⟩
end FM
