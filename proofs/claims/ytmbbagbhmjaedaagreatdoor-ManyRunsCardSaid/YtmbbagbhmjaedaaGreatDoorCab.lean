/- Part of the proof. -/
import Derived.Test.YtmbbagbhmjaedaaGreatDoorProg
import Derived.Lib.LaidTab
import Derived.Lib.ItoaNum
import Derived.Lib.Space
import Derived.WalkSpells
set_option linter.all false
namespace Go
theorem ahn.{u} : type_of% @List.getElem?_eq_getElem.{u} := @List.getElem?_eq_getElem.{u}
theorem aho.{u} : type_of% @List.getElem?_eq_some_iff.{u} := @List.getElem?_eq_some_iff.{u}
theorem ahp.{u} : type_of% @Option.some.injEq.{u} := @Option.some.injEq.{u}
theorem ahq.{u} : type_of% @List.getElem?_cons_zero.{u} := @List.getElem?_cons_zero.{u}
theorem ahr : type_of% @Nat.le_refl := @Nat.le_refl
theorem ahs.{u,v} : type_of% @Option.map_eq_some_iff.{u,v} := @Option.map_eq_some_iff.{u,v}
theorem aht : type_of% @Bool.and_eq_true := @Bool.and_eq_true
theorem ahu.{u,v} : type_of% @List.length_map.{u,v} := @List.length_map.{u,v}
theorem ahv : type_of% @Nat.lt_of_lt_of_le := @Nat.lt_of_lt_of_le
theorem ahw.{u} : type_of% @Array.getElem?_setIfInBounds_ne.{u} := @Array.getElem?_setIfInBounds_ne.{u}
theorem ahx.{u} : type_of% @Array.getElem?_eq_some_iff.{u} := @Array.getElem?_eq_some_iff.{u}
theorem ahy : type_of% @Nat.beq_refl := @Nat.beq_refl
theorem ahz : type_of% @Nat.eq_of_beq_eq_true := @Nat.eq_of_beq_eq_true
theorem ahA.{u} : type_of% @Array.getD_eq_getD_getElem?.{u} := @Array.getD_eq_getD_getElem?.{u}
theorem ahB.{u} : type_of% @List.getElem_mem.{u} := @List.getElem_mem.{u}
theorem ahC.{u} : type_of% @List.length_append.{u} := @List.length_append.{u}
theorem ahD : type_of% @Bool.false_eq_true := @Bool.false_eq_true
theorem ahE.{u,v} : type_of% @List.getElem?_map.{u,v} := @List.getElem?_map.{u,v}
theorem ahF.{u} : type_of% @List.length_take.{u} := @List.length_take.{u}
theorem ahG.{u} : type_of% @List.getElem?_append_left.{u} := @List.getElem?_append_left.{u}
theorem ahH.{u} : type_of% @List.mem_of_getElem?.{u} := @List.mem_of_getElem?.{u}
theorem ahI.{u} : type_of% @List.length_cons.{u} := @List.length_cons.{u}
theorem ahJ.{u} : type_of% @List.getElem?_append_right.{u} := @List.getElem?_append_right.{u}
theorem ahK.{u} : type_of% @List.getD_eq_getElem?_getD.{u} := @List.getD_eq_getElem?_getD.{u}
theorem ahL.{u} : type_of% @List.mem_singleton.{u} := @List.mem_singleton.{u}
theorem ahM.{u} : type_of% @List.all_eq_true.{u} := @List.all_eq_true.{u}
theorem ahN : type_of% @Int.toNat_natCast := @Int.toNat_natCast
theorem ahO.{u} : type_of% @Array.getElem?_eq_getElem.{u} := @Array.getElem?_eq_getElem.{u}
theorem ahP.{u} : type_of% @List.getElem?_cons_succ.{u} := @List.getElem?_cons_succ.{u}
theorem ahQ : type_of% @Nat.zero_le := @Nat.zero_le
theorem ahR : type_of% @Nat.zero_add := @Nat.zero_add
theorem ahS.{u} : type_of% @Array.getElem?_setIfInBounds_self_of_lt.{u} := @Array.getElem?_setIfInBounds_self_of_lt.{u}
theorem ahT : type_of% @Nat.mul_le_mul_right := @Nat.mul_le_mul_right
theorem ahU.{u} : type_of% @List.mem_cons_self.{u} := @List.mem_cons_self.{u}
theorem ahV.{u} : type_of% @List.length_drop.{u} := @List.length_drop.{u}
theorem ahW.{u} : type_of% @List.mem_cons_of_mem.{u} := @List.mem_cons_of_mem.{u}
theorem ahX.{u} : type_of% @List.append_assoc.{u} := @List.append_assoc.{u}
theorem ahY.{u,v} : type_of% @List.mem_map.{u,v} := @List.mem_map.{u,v}
theorem ahZ : type_of% @Nat.le_trans := @Nat.le_trans
theorem ah0.{u,v} : type_of% @List.map_append.{u,v} := @List.map_append.{u,v}
theorem ah1.{u} : type_of% @List.mem_cons.{u} := @List.mem_cons.{u}
theorem ah2.{u,v} : type_of% @Option.map_some.{u,v} := @Option.map_some.{u,v}
theorem ah3 : type_of% @Nat.le_of_ble_eq_true := @Nat.le_of_ble_eq_true
theorem ah4.{u} : type_of% @List.eq_nil_of_length_eq_zero.{u} := @List.eq_nil_of_length_eq_zero.{u}
theorem ah5.{u} : type_of% @List.getElem?_drop.{u} := @List.getElem?_drop.{u}
theorem ah6.{u} : type_of% @Option.some.inj.{u} := @Option.some.inj.{u}
theorem ah7.{u} : type_of% @List.take_length.{u} := @List.take_length.{u}
theorem ah8.{u} : type_of% @Option.getD_some.{u} := @Option.getD_some.{u}
theorem ah9 : type_of% @Nat.add_mul := @Nat.add_mul
theorem aia : type_of% @Nat.lt_or_ge := @Nat.lt_or_ge
theorem aib : type_of% @Nat.add_zero := @Nat.add_zero
theorem aic.{u} : type_of% @Array.push_eq_append.{u} := @Array.push_eq_append.{u}
theorem aid.{u} : type_of% @List.take_succ_eq_append_getElem.{u} := @List.take_succ_eq_append_getElem.{u}
theorem aie.{u} : type_of% @List.mem_append.{u} := @List.mem_append.{u}
theorem aif.{u} : type_of% @Array.getElem?_setIfInBounds.{u} := @Array.getElem?_setIfInBounds.{u}
theorem aih.{u} : type_of% @Array.mem_of_getElem?.{u} := @Array.mem_of_getElem?.{u}
theorem aii.{u} : type_of% @List.mem_of_mem_take.{u} := @List.mem_of_mem_take.{u}
theorem aij.{u} : type_of% @Array.append_empty.{u} := @Array.append_empty.{u}
theorem aik.{u,v} : type_of% @Array.getElem?_map.{u,v} := @Array.getElem?_map.{u,v}
theorem ail.{u,v} : type_of% @Option.bind_eq_some_iff.{u,v} := @Option.bind_eq_some_iff.{u,v}
theorem aim.{u} : type_of% @List.length_nil.{u} := @List.length_nil.{u}
theorem ain.{u} : type_of% @List.pairwise_iff_getElem.{u} := @List.pairwise_iff_getElem.{u}
theorem aio.{u} : type_of% @List.getElem?_set.{u} := @List.getElem?_set.{u}
theorem aip.{u} : type_of% @List.mem_iff_getElem.{u} := @List.mem_iff_getElem.{u}
theorem aiq.{u} : type_of% @List.getElem?_take.{u} := @List.getElem?_take.{u}
theorem air.{u} : type_of% @Array.getElem?_toList.{u} := @Array.getElem?_toList.{u}
theorem ais.{u} : type_of% @List.append_nil.{u} := @List.append_nil.{u}
theorem ait : type_of% @Nat.not_lt_zero := @Nat.not_lt_zero
theorem aiu.{u} : type_of% @List.take_succ_cons.{u} := @List.take_succ_cons.{u}
theorem aiv.{u,v} : type_of% @List.flatMap_cons.{u,v} := @List.flatMap_cons.{u,v}
theorem aiw.{u,v} : type_of% @List.map_cons.{u,v} := @List.map_cons.{u,v}
theorem aix : type_of% @Nat.add_assoc := @Nat.add_assoc
theorem aiy.{u} : type_of% @List.length_set.{u} := @List.length_set.{u}
theorem aiz.{u} : type_of% @List.mem_toArray.{u} := @List.mem_toArray.{u}
theorem aiA.{u} : type_of% @Array.length_toList.{u} := @Array.length_toList.{u}
theorem aiB.{u} : type_of% @Array.getElem?_push.{u} := @Array.getElem?_push.{u}
theorem aiC.{u} : type_of% @Array.getElem?_modify.{u} := @Array.getElem?_modify.{u}
theorem aiD : type_of% @Nat.eq_zero_or_pos := @Nat.eq_zero_or_pos
theorem aiE : type_of% @Nat.lt_succ_self := @Nat.lt_succ_self
theorem aiF.{u} : type_of% @List.mem_or_eq_of_mem_set.{u} := @List.mem_or_eq_of_mem_set.{u}
theorem aiG : type_of% @Bool.eq_iff_iff := @Bool.eq_iff_iff
theorem aiH.{u} : type_of% @Array.empty_append.{u} := @Array.empty_append.{u}
theorem aiI : type_of% @Int.eq_ofNat_of_zero_le := @Int.eq_ofNat_of_zero_le
theorem aiJ.{u,v} : type_of% @Option.bind_some.{u,v} := @Option.bind_some.{u,v}
theorem aiK.{u} : type_of% @List.not_mem_nil.{u} := @List.not_mem_nil.{u}
theorem aiL : type_of% @Bool.false_and := @Bool.false_and
theorem aiM.{u} : type_of% @List.take_of_length_le.{u} := @List.take_of_length_le.{u}
theorem aiN.{u} : type_of% @Array.all_eq_true.{u} := @Array.all_eq_true.{u}
theorem aiO.{u} : type_of% @List.cons_append.{u} := @List.cons_append.{u}
theorem aiP : type_of% @Bool.not_true := @Bool.not_true
theorem aiR : type_of% @Bool.or_eq_true := @Bool.or_eq_true
theorem ae {p:Prop}(h:p:=by omega):p:=h
theorem af {p:Prop}(h:p:=by decide):p:=h
theorem ag {p:Prop}(h:p:=by simp):p:=h
theorem ah {p:Prop}(h:p:=by kernel_rfl):p:=h
end Go
namespace FM
open Go Go.Proofs
def uJ(g:Nat):Prop:=g=0∨g=2∨g=5∨g=3
structure GlobP(w:World):Prop where
 pow:Lib.TabIs Tryz.prog w "internal/strconv.uint64pow10" .u64 Lib.pow10Tab
 spc:Lib.TabIs Tryz.prog w "strings.asciiSpace" .u8 Lib.asciiSpaceTab
 mx:∃ m,w.cell? ⟨5,0,none⟩=some (.int .i64 m)
 syn:∃ tp p,w.cell? ⟨3,0,none⟩=some (.iface tp p)
theorem Ld:Tryz.prog.globalNamed "internal/strconv.uint64pow10" = some 2:=ah
theorem Le:Tryz.prog.globalNamed "strings.asciiSpace" = some 0:=ah
theorem ym{w w':World}{n:String}{g:Nat}(hg:Tryz.prog.globalNamed n=some g)(h:w'.heap[g]?=w.heap[g]?):w'.var? Tryz.prog n=w.var? Tryz.prog n:=by
 unfold World.var?;rw [hg];simp only [aiJ,h]
theorem GlobP.keep{w w':World}(h:∀ g,uJ g->w'.heap[g]?=w.heap[g]?)(hw:GlobP w):GlobP w' :=
  ⟨by have:=hw.pow;unfold Lib.TabIs at *;rw [ym Ld (h 2 (.inr (.inl rfl)))];exact this,
   by have:=hw.spc;unfold Lib.TabIs at *;rw [ym Le (h 0 (.inl rfl))];exact this,
   by obtain⟨m,hm⟩:=hw.mx;exact⟨m,by rw [World.cell?_of_block (w:=w) (h 5 (.inr (.inr (.inl rfl))))];exact hm⟩,
   by obtain⟨m,p,hm⟩:=hw.syn;exact⟨m,p,by rw [World.cell?_of_block (w:=w) (h 3 (.inr (.inr (.inr rfl))))];exact hm⟩⟩
end FM
namespace FM
open Go Go.RowKit
variable {w w':World}
inductive aO where
 | sh|fo|my (p:List Nat)
structure kg(L:Nat->aO)(w:World):Prop where
 ok:GlobP w
 sh:∀ g,uJ g->g<w.heap.size/\L g=.sh
theorem kg.move{L L':Nat->aO}(h:kg L w)(hs:w.heap.size<=w'.heap.size)(hk:∀ b,b<w.heap.size->L b=.sh->L' b=.sh/\w'.heap[b]?=w.heap[b]?):kg L' w' :=
 ⟨GlobP.keep (fun g hg=>(hk g (h.sh g hg).1 (h.sh g hg).2).2) h.ok,fun g hg=>⟨ahv (h.sh g hg).1 hs,(hk g (h.sh g hg).1 (h.sh g hg).2).1⟩⟩
theorem kg.all{L:Nat->aO}(h:kg L w):kg (fun _=>.sh) w:=h.move (ahr _) fun _ _ _=>⟨rfl,rfl⟩
structure Tk where
 holds:World->(Nat->Prop)->Value->Prop
inductive AV where
 | int (n:Int)
 | bool (b:Bool)
 | str (s:List UInt8)
 | val (v:Value)
 | agg (cs:List AV)
 | tup (vs:List AV)
 | nil
 | sl (own:Bool) (c:Nat) (xs:List AV)
 | pt (own:Bool) (cs:List AV)
 | fn (S:Tk)
 | mp (own:Bool) (g:Int->Int)
 | ms (own:Bool) (g:List UInt8->Int)
 | dead
def AV.cells:AV->List AV
 | .agg cs=>cs
 | x=>[x]
def flat(xs:List AV):List AV:=xs.flatMap AV.cells
def ch(π:Option (List Nat))(o:Nat):Option (List Nat):=π.map (·++[o])
def Tl(o:Option Obj)(g:Int->Int):Prop:=∃ es clock,o=some (.map es clock)/\(∀ e∈es.toList,∃ k,e.key=.int .i64 k/\e.val=.int .i64 (g k))/\(es.toList.map (·.key)).Nodup/\∀ k,(∀ e∈es.toList,e.key≠.int .i64 k)->g k=0
def Tm(o:Option Obj)(g:List UInt8->Int):Prop:=∃ es clock,o=some (.map es clock)/\(∀ e∈es.toList,∃ k:List UInt8,e.key=.string ⟨k.toArray⟩/\e.val=.int .i64 (g k))/\(es.toList.map (·.key)).Nodup/\∀ k:List UInt8,(∀ e∈es.toList,e.key≠.string ⟨k.toArray⟩)->g k=0
inductive Rep(L:Nat->aO)(w:World):Option (List Nat)->AV->Value->Prop
 | int {π n}:Rep L w π (.int n) (.int .i64 n)
 | bool {π b}:Rep L w π (.bool b) (.bool b)
 | str {π s}:Rep L w π (.str s) (.string ⟨s.toArray⟩)
 | val {π v}:Rep L w π (.val v) v
 | agg {π} {cs:List AV} {vs:List Value} (hl:vs.length=cs.length) (h:∀ (i:Nat) (x:AV) (v:Value),cs[i]?=some x->vs[i]?=some v->Rep L w none x v):Rep L w π (.agg cs) (.agg vs.toArray)
 | tup {π} {cs:List AV} {vs:List Value} (hl:vs.length=cs.length) (h:∀ (i:Nat) (x:AV) (v:Value),cs[i]?=some x->vs[i]?=some v->Rep L w (ch π i) x v):Rep L w π (.tup cs) (.tuple vs.toArray)
 | nil {π}:Rep L w π .nil (.slice none 0 0)
 | dead {π} {v:Value}:Rep L w π .dead v
 | slE {π} {own:Bool} {c:Nat} {a:Option Addr} {cap:Nat} (h:own=true->cap=0):Rep L w π (.sl own c []) (.slice a 0 cap)
 | slS {π} {c:Nat} {xs:List AV} {b off cap:Nat} (u:Nat->Value) (bK:xs.length<=cap) (hL:L b=.sh) (hb:b<w.heap.size) (hc:∀ x∈xs,x.cells.length=c)
   (aH:∀ o:Nat,o<xs.length*c->w.cell? ⟨b,off+o,none⟩=some (u o)) (hr:∀ (o:Nat) (y:AV),(flat xs)[o]?=some y->Rep L w none y (u o)) :
   Rep L w π (.sl false c xs) (.slice (some ⟨b,off,none⟩) xs.length cap)
 | slO {p:List Nat} {c:Nat} {xs:List AV} {b cap:Nat} {arr:Array Value} {e:TypeId} (u:Nat->Value) (hL:L b=.my p) (hb:w.heap[b]?=some (.cells arr e (0,0))) (bK:xs.length<=cap) (bc:arr.size=cap*c)
   (hc:∀ x∈xs,x.cells.length=c) (aH:∀ o:Nat,o<xs.length*c->arr[o]?=some (u o)) (hr:∀ (o:Nat) (y:AV),(flat xs)[o]?=some y->Rep L w (some (p++[o])) y (u o)) :
   Rep L w (some p) (.sl true c xs) (.slice (some ⟨b,0,none⟩) xs.length cap)
 | ptS {π} {cs:List AV} {b off:Nat} (u:Nat->Value) (hL:L b=.sh) (hb:b<w.heap.size)
   (aH:∀ o:Nat,o<cs.length->w.cell? ⟨b,off+o,none⟩=some (u o)) (hr:∀ (o:Nat) (y:AV),cs[o]?=some y->Rep L w none y (u o)) :
   Rep L w π (.pt false cs) (.pointer (some ⟨b,off,none⟩))
 | ptO {p:List Nat} {cs:List AV} {b:Nat} {arr:Array Value} {e:TypeId} (u:Nat->Value) (hL:L b=.my p) (hb:w.heap[b]?=some (.cells arr e (0,0))) (bc:arr.size=cs.length)
   (aH:∀ o:Nat,o<cs.length->arr[o]?=some (u o)) (hr:∀ (o:Nat) (y:AV),cs[o]?=some y->Rep L w (some (p++[o])) y (u o)) :
   Rep L w (some p) (.pt true cs) (.pointer (some ⟨b,0,none⟩))
 | fn {π} {S:Tk} {v:Value} {wE:World} {B:Nat->Prop} (h:S.holds wE B v) (hs:wE.heap.size<=w.heap.size) (ho:w.os=wE.os) (ht:w.tape=wE.tape) (hu:w.output=wE.output)
   (hb:∀ b,b<wE.heap.size->B b->L b=.sh/\w.heap[b]?=wE.heap[b]?):Rep L w π (.fn S) v
 | mpS {π} {g:Int->Int} {b:Nat} (hL:L b=.sh) (hb:b<w.heap.size) (hm:Tl w.heap[b]? g):Rep L w π (.mp false g) (.map (some b))
 | mpO {p:List Nat} {g:Int->Int} {b:Nat} (hL:L b=.my p) (hm:Tl w.heap[b]? g):Rep L w (some p) (.mp true g) (.map (some b))
 | msS {π} {g:List UInt8->Int} {b:Nat} (hL:L b=.sh) (hb:b<w.heap.size) (hm:Tm w.heap[b]? g):Rep L w π (.ms false g) (.map (some b))
 | msO {p:List Nat} {g:List UInt8->Int} {b:Nat} (hL:L b=.my p) (hm:Tm w.heap[b]? g):Rep L w (some p) (.ms true g) (.map (some b))
theorem bh{c:Nat}:∀ {xs:List AV},(∀ x∈xs,x.cells.length=c)->(flat xs).length=xs.length*c
 | [],_=>by simp [flat]
 | x::xs,h=>by
  have ih:=bh (xs:=xs) fun y hy=>h y (ahW _ hy);simp only [flat,aiv,ahC] at ih ⊢;rw [h x (ahU ..),ih,ahI,ah9];omega
theorem dp(xs ys:List AV):flat (xs++ys)=flat xs++flat ys:=by simp [flat]
theorem flat_get{c:Nat}:∀ {xs:List AV},(∀ x∈xs,x.cells.length=c)->∀ {i j:Nat} {x y:AV},xs[i]?=some x->x.cells[j]?=some y->(flat xs)[i*c+j]?=some y
 | [],_,i,j,x,y,hx,_=>by simp at hx
 | z::xs,h,0,j,x,y,hx,hy=>by
  simp only [ahq,ahp] at hx;subst hx;have hj:j<z.cells.length:=(aho.1 hy).1;simp only [flat,aiv,Nat.zero_mul,ahR];rw [ahG hj];exact hy
 | z::xs,h,i+1,j,x,y,hx,hy=>by
  simp only [ahP] at hx;have ih:=flat_get (xs:=xs) (fun y hy=>h y (ahW _ hy)) hx hy;have hz:=h z (ahU ..);simp only [flat,aiv] at ih ⊢;rw [ahJ (by rw [hz,ah9];omega),hz,show(i+1)*c+j-c=i*c+j by rw [ah9];omega];exact ih
theorem gL{c:Nat}:∀ {xs:List AV},(∀ x∈xs,x.cells.length=c)->∀ {o:Nat} {y:AV},(flat xs)[o]?=some y->∃ i j x,xs[i]?=some x/\x.cells[j]?=some y/\o=i*c+j/\j<c
 | [],_,o,y,h=>by simp [flat] at h
 | z::xs,hc,o,y,h=>by
  have hz:=hc z (ahU ..);simp only [flat,aiv] at h;by_cases ho:o<z.cells.length
  ·rw [ahG ho] at h;exact⟨0,o,z,rfl,h,ae,ae⟩
  ·rw [ahJ ae] at h;obtain⟨i,j,x,h1,h2,h3,h4⟩:=gL (xs:=xs) (fun y hy=>hc y (ahW _ hy)) h;exact⟨i+1,j,x,h1,h2,by rw [ah9];omega,h4⟩
theorem cell_of_heap{b o:Nat}(h:w'.heap[b]?=w.heap[b]?):w'.cell? ⟨b,o,none⟩=w.cell? ⟨b,o,none⟩:=World.cell?_of_block (w:=w) h
theorem Rep.frame{L L':Nat->aO}(hs:w.heap.size<=w'.heap.size)(ho:w'.os=w.os)(ht:w'.tape=w.tape)(hu:w'.output=w.output)
  (hS:∀ b,L b=.sh->b<w.heap.size->L' b=.sh/\w'.heap[b]?=w.heap[b]?) {π:Option (List Nat)} {x:AV} {v:Value} (h:Rep L w π x v) :
  ∀ mv:Option (List Nat),(∀ p,π=some p->∃ p',mv=some p'/\∀ b q,L b=.my (p++q)->L' b=.my (p'++q)/\w'.heap[b]?=w.heap[b]?)->Rep L' w' mv x v:=by
 induction h with
 | int=>exact fun _ _=>.int
 | bool=>exact fun _ _=>.bool
 | str=>exact fun _ _=>.str
 | val=>exact fun _ _=>.val
 | agg hl _ ih=>exact fun mv _=>.agg hl fun i x v hx hv=>ih i x v hx hv none (fun p hp=>by cases hp)
 | @tup π cs vs hl _ ih =>
  refine fun mv hO=>.tup hl fun i x v hx hv=>ih i x v hx hv _ fun p hp=>?_
  cases π with
  | none=>simp [ch] at hp
  | some p0 =>
   simp only [ch,ah2,ahp] at hp;subst hp;obtain⟨p',rfl,h⟩:=hO p0 rfl;exact⟨p'++[i],rfl,fun b q hb=>by have:=h b ([i]++q) (by rw [<- ahX];exact hb);rw [ahX];exact this⟩
 | nil=>exact fun _ _=>.nil
 | dead=>exact fun _ _=>.dead
 | slE h=>exact fun _ _=>.slE h
 | slS u bK hL hb hc aH hr ih =>
  intro mv _;obtain⟨h1,h2⟩:=hS _ hL hb;exact .slS u bK h1 ae hc (fun o ho=>by rw [cell_of_heap h2];exact aH o ho) (fun o y hy=>ih o y hy none (fun p hp=>by cases hp))
 | @slO p c xs b cap arr e u hL hb bK bc hc aH hr ih =>
  intro mv hO;obtain⟨p',rfl,h⟩:=hO p rfl;obtain⟨h1,h2⟩:=h b [] (by simpa using hL);refine .slO u (by simpa using h1) (h2.trans hb) bK bc hc aH fun o y hy=>ih o y hy _ fun q hq=>?_;cases hq;exact⟨p'++[o],rfl,fun b q hb=>by have:=h b ([o]++q) (by rw [<- ahX];exact hb);rw [ahX];exact this⟩
 | ptS u hL hb aH hr ih =>
  intro mv _;obtain⟨h1,h2⟩:=hS _ hL hb;exact .ptS u h1 ae (fun o ho=>by rw [cell_of_heap h2];exact aH o ho) (fun o y hy=>ih o y hy none (fun p hp=>by cases hp))
 | @ptO p cs b arr e u hL hb bc aH hr ih =>
  intro mv hO;obtain⟨p',rfl,h⟩:=hO p rfl;obtain⟨h1,h2⟩:=h b [] (by simpa using hL);refine .ptO u (by simpa using h1) (h2.trans hb) bc aH fun o y hy=>ih o y hy _ fun q hq=>?_;cases hq;exact⟨p'++[o],rfl,fun b q hb=>by have:=h b ([o]++q) (by rw [<- ahX];exact hb);rw [ahX];exact this⟩
 | fn h dz ho' Pe qO bI =>
  intro mv _;refine .fn h (ahZ dz hs) (ho.trans ho') (ht.trans Pe) (hu.trans qO) fun b hb hB=>?_;obtain⟨h1,h2⟩:=bI b hb hB;obtain⟨h3,h4⟩:=hS b h1 ae;exact⟨h3,h4.trans h2⟩
 | mpS hL hb hm =>
  intro mv _;obtain⟨h1,h2⟩:=hS _ hL hb;exact .mpS h1 ae (by rw [h2];exact hm)
 | @mpO p g b hL hm =>
  intro mv hO;obtain⟨p',rfl,h⟩:=hO p rfl;obtain⟨h1,h2⟩:=h b [] (by simpa using hL);exact .mpO (by simpa using h1) (by rw [h2];exact hm)
 | msS hL hb hm =>
  intro mv _;obtain⟨h1,h2⟩:=hS _ hL hb;exact .msS h1 ae (by rw [h2];exact hm)
 | @msO p g b hL hm =>
  intro mv hO;obtain⟨p',rfl,h⟩:=hO p rfl;obtain⟨h1,h2⟩:=h b [] (by simpa using hL);exact .msO (by simpa using h1) (by rw [h2];exact hm)
mutual
def AV.sh:AV->AV
 | .int n=>.int n
 | .bool b=>.bool b
 | .str s=>.str s
 | .val v=>.val v
 | .agg cs=>.agg (AV.Bb cs)
 | .tup vs=>.tup (AV.Bb vs)
 | .nil=>.nil
 | .sl _ c xs=>.sl false c (AV.Bb xs)
 | .pt _ cs=>.pt false (AV.Bb cs)
 | .fn S=>.fn S
 | .mp _ g=>.mp false g
 | .ms _ g=>.ms false g
 | .dead=>.dead
def AV.Bb:List AV->List AV
 | []=>[]
 | x::xs=>x.sh::AV.Bb xs
end
theorem dD:∀ xs:List AV,AV.Bb xs=xs.map AV.sh
 | []=>rfl
 | x::xs=>by simp only [AV.Bb,aiw,dD xs]
theorem fZ{α:Type}(f:α->AV)(l:List α)(g:α->AV)(h:∀ x,(f x).sh=g x):AV.Bb (l.map f)=l.map g:=by
 rw [dD,List.map_map];exact List.map_congr_left fun x _=>h x
theorem qP(x:AV):x.sh.cells=x.cells.map AV.sh:=by
 cases x<;>simp [AV.sh,AV.cells,dD]
theorem pq(xs:List AV):flat (AV.Bb xs)=(flat xs).map AV.sh:=by
 rw [dD]
 induction xs with
 | nil=>rfl
 | cons x xs ih=>simp only [flat,aiw,aiv,ah0,qP] at ih ⊢;rw [ih]
theorem Rep.toSh{L L':Nat->aO}(hS:∀ b,b<w.heap.size->L b=.sh->L' b=.sh){π:Option (List Nat)}{x:AV}{v:Value}(h:Rep L w π x v)
  (hO:∀ p,π=some p->∀ b q,L b=.my (p++q)->L' b=.sh):Rep L' w none x.sh v:=by
 induction h with
 | int=>exact .int
 | bool=>exact .bool
 | str=>exact .str
 | val=>exact .val
 | @agg π cs vs hl _ ih =>
  refine .agg (by simp [dD,hl]) fun i x v hx hv=>?_;simp only [dD,ahE,ahs] at hx;obtain⟨y,hy,rfl⟩:=hx;exact ih i y v hy hv (fun p hp=>by cases hp)
 | @tup π cs vs hl _ ih =>
  refine .tup (by simp [dD,hl]) fun i x v hx hv=>?_;simp only [dD,ahE,ahs] at hx;obtain⟨y,hy,rfl⟩:=hx;refine ih i y v hy hv fun p hp b q hb=>?_
  cases π with
  | none=>simp [ch] at hp
  | some p0=>simp only [ch,ah2,ahp] at hp;subst hp;exact hO p0 rfl b ([i]++q) (by rw [<- ahX];exact hb)
 | nil=>exact .nil
 | dead=>exact .dead
 | slE h=>exact .slE ag
 | @slS π c xs b off cap u bK hL hb hc aH hr ih =>
  have hlen:(AV.Bb xs).length=xs.length:=by simp [dD]
  rw [<- hlen];refine .slS u (by rw [hlen];exact bK) (hS _ hb hL) hb (fun x hx=>?_) (by rw [hlen];exact aH) (fun o y hy=>?_)
  ·rw [dD] at hx;obtain⟨y,hy,rfl⟩:=ahY.1 hx;rw [qP,ahu];exact hc y hy
  ·rw [pq,ahE,ahs] at hy;obtain⟨z,hz,rfl⟩:=hy;exact ih o z hz (fun p hp=>by cases hp)
 | @slO p c xs b cap arr e u hL hb bK bc hc aH hr ih =>
  have bI:b<w.heap.size:=(ahx.1 hb).1;have hlen:(AV.Bb xs).length=xs.length:=by simp [dD]
  rw [<- hlen];refine .slS (off:=0) u (by rw [hlen];exact bK) (hO p rfl b [] (by simpa using hL)) bI (fun x hx=>?_) (fun o ho=>?_) (fun o y hy=>?_)
  ·rw [dD] at hx;obtain⟨y,hy,rfl⟩:=ahY.1 hx;rw [qP,ahu];exact hc y hy
  ·rw [ahR,cell_of_row w b o arr e (0,0) hb];exact aH o (by rw [<- hlen];exact ho)
  ·rw [pq,ahE,ahs] at hy;obtain⟨z,hz,rfl⟩:=hy;exact ih o z hz (fun q hq c' q' uK=>by cases hq;exact hO p rfl c' ([o]++q') (by rw [<- ahX];exact uK))
 | @ptS π cs b off u hL hb aH hr ih =>
  refine .ptS u (hS _ hb hL) hb (by simpa [dD] using aH) fun o y hy=>?_;simp only [dD,ahE,ahs] at hy;obtain⟨z,hz,rfl⟩:=hy;exact ih o z hz (fun p hp=>by cases hp)
 | @ptO p cs b arr e u hL hb bc aH hr ih =>
  have bI:b<w.heap.size:=(ahx.1 hb).1;refine .ptS u (hO p rfl b [] (by simpa using hL)) bI (fun o ho=>by rw [ahR,cell_of_row w b o arr e (0,0) hb];exact aH o (by simpa [dD] using ho)) fun o y hy=>?_;simp only [dD,ahE,ahs] at hy;obtain⟨z,hz,rfl⟩:=hy;exact ih o z hz (fun q hq c' q' uK=>by cases hq;exact hO p rfl c' ([o]++q') (by rw [<- ahX];exact uK))
 | fn h dz ho' Pe qO bI =>
  exact .fn h dz ho' Pe qO fun b hb hB=>by
   obtain⟨h1,h2⟩:=bI b hb hB;exact⟨hS b ae h1,h2⟩
 | mpS hL hb hm=>exact .mpS (hS _ hb hL) hb hm
 | @mpO p g b hL hm =>
  obtain⟨es,clock,he,_⟩:=id hm;exact .mpS (hO p rfl b [] (by simpa using hL)) (ahx.1 he).1 hm
 | msS hL hb hm=>exact .msS (hS _ hb hL) hb hm
 | @msO p g b hL hm =>
  obtain⟨es,clock,he,_⟩:=id hm;exact .msS (hO p rfl b [] (by simpa using hL)) (ahx.1 he).1 hm
theorem Rep.any{L:Nat->aO}{x:AV}{v:Value}(h:Rep L w none x v)(π:Option (List Nat)):Rep L w π x v :=
 h.frame (ahr _) rfl rfl rfl (fun _ h _=>⟨h,rfl⟩) π (fun p hp=>by cases hp)
end FM
