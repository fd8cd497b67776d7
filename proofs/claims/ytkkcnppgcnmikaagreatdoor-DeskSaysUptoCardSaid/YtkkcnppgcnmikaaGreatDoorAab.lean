/- What holds of every world that a call begins in: the library's tables, where they lie. -/
import Derived.Test.YtkkcnppgcnmikaaGreatDoorProg
import Derived.WalkKit
import Derived.Lib.LaidTab
import Derived.Lib.ItoaNum
import Derived.Lib.Space
import Derived.KernelRfl
import Derived.WalkSpells
namespace FM
open Go Go.Proofs
def GlobB(g:Nat):Prop:=g=0∨g=4∨g=5∨g=2
structure GlobP(w:World):Prop where
 pow:Lib.TabIs Tryz.prog w "internal/strconv.uint64pow10" .u64 Lib.pow10Tab
 spc:Lib.TabIs Tryz.prog w "strings.asciiSpace" .u8 Lib.asciiSpaceTab
 mx:∃ m,w.cell? ⟨5,0,none⟩=some (.int .i64 m)
 syn:∃ tp p,w.cell? ⟨2,0,none⟩=some (.iface tp p)
theorem gpow:Tryz.prog.globalNamed "internal/strconv.uint64pow10" = some 4:=by kernel_rfl
theorem gspc:Tryz.prog.globalNamed "strings.asciiSpace" = some 0:=by kernel_rfl
theorem var_keep{w w':World}{n:String}{g:Nat}(hg:Tryz.prog.globalNamed n=some g)(h:w'.heap[g]?=w.heap[g]?):w'.var? Tryz.prog n=w.var? Tryz.prog n:=by
 unfold World.var?;rw [hg];simp only [Option.bind_some,h]
theorem GlobP.keep{w w':World}(h:∀ g,GlobB g→w'.heap[g]?=w.heap[g]?)(hw:GlobP w):GlobP w' :=
  ⟨by have:=hw.pow;unfold Lib.TabIs at *;rw [var_keep gpow (h 4 (.inr (.inl rfl)))];exact this,
   by have:=hw.spc;unfold Lib.TabIs at *;rw [var_keep gspc (h 0 (.inl rfl))];exact this,
   by obtain⟨m,hm⟩:=hw.mx;exact⟨m,by rw [World.cell?_of_block (w:=w) (h 5 (.inr (.inr (.inl rfl))))];exact hm⟩,
   by obtain⟨m,p,hm⟩:=hw.syn;exact⟨m,p,by rw [World.cell?_of_block (w:=w) (h 2 (.inr (.inr (.inr rfl))))];exact hm⟩⟩
end FM
namespace FM
open Go Go.RowKit
inductive Lab where
 | sh|fo|my (p:List Nat)
structure Glob(L:Nat→Lab)(w:World):Prop where
 ok:GlobP w
 sh:∀ g,GlobB g→g<w.heap.size∧L g=.sh
theorem Glob.move{L L':Nat→Lab}{w w':World}(h:Glob L w)(hs:w.heap.size≤w'.heap.size)(hk:∀ b,b<w.heap.size→L b=.sh→L' b=.sh∧w'.heap[b]?=w.heap[b]?):Glob L' w' :=
 ⟨GlobP.keep (fun g hg=>(hk g (h.sh g hg).1 (h.sh g hg).2).2) h.ok,fun g hg=>⟨Nat.lt_of_lt_of_le (h.sh g hg).1 hs,(hk g (h.sh g hg).1 (h.sh g hg).2).1⟩⟩
theorem Glob.all{L:Nat→Lab}{w:World}(h:Glob L w):Glob (fun _=>.sh) w:=h.move (Nat.le_refl _) fun _ _ _=>⟨rfl,rfl⟩
structure Beh where
 holds:World→(Nat→Prop)→Value→Prop
inductive AV where
 | int (n:Int)
 | bool (b:Bool)
 | str (s:List UInt8)
 | val (v:Value)
 | agg (cs:List AV)
 | tup (vs:List AV)
 | nil
 | sl (own:Bool) (c:Nat) (xs:List AV)
 | pt (own:Bool) (cs:List AV)
 | fn (S:Beh)
 | mp (own:Bool) (g:Int→Int)
 | ms (own:Bool) (g:List UInt8→Int)
 | dead
def AV.cells:AV→List AV
 | .agg cs=>cs
 | x=>[x]
def flat(xs:List AV):List AV:=xs.flatMap AV.cells
def ch(π:Option (List Nat))(o:Nat):Option (List Nat):=π.map (·++[o])
def MapB(o:Option Obj)(g:Int→Int):Prop:=∃ es clock,o=some (.map es clock)∧(∀ e∈es.toList,∃ k,e.key=.int .i64 k∧e.val=.int .i64 (g k))∧(es.toList.map (·.key)).Nodup∧∀ k,(∀ e∈es.toList,e.key≠.int .i64 k)→g k=0
def MapT(o:Option Obj)(g:List UInt8→Int):Prop:=∃ es clock,o=some (.map es clock)∧(∀ e∈es.toList,∃ k:List UInt8,e.key=.string ⟨k.toArray⟩∧e.val=.int .i64 (g k))∧(es.toList.map (·.key)).Nodup∧∀ k:List UInt8,(∀ e∈es.toList,e.key≠.string ⟨k.toArray⟩)→g k=0
inductive Rep(L:Nat→Lab)(w:World):Option (List Nat)→AV→Value→Prop
 | int {π n}:Rep L w π (.int n) (.int .i64 n)
 | bool {π b}:Rep L w π (.bool b) (.bool b)
 | str {π s}:Rep L w π (.str s) (.string ⟨s.toArray⟩)
 | val {π v}:Rep L w π (.val v) v
 | agg {π} {cs:List AV} {vs:List Value} (hl:vs.length=cs.length) (h:∀ (i:Nat) (x:AV) (v:Value),cs[i]?=some x→vs[i]?=some v→Rep L w none x v):Rep L w π (.agg cs) (.agg vs.toArray)
 | tup {π} {cs:List AV} {vs:List Value} (hl:vs.length=cs.length) (h:∀ (i:Nat) (x:AV) (v:Value),cs[i]?=some x→vs[i]?=some v→Rep L w (ch π i) x v):Rep L w π (.tup cs) (.tuple vs.toArray)
 | nil {π}:Rep L w π .nil (.slice none 0 0)
 | dead {π} {v:Value}:Rep L w π .dead v
 | slE {π} {own:Bool} {c:Nat} {a:Option Addr} {cap:Nat} (h:own=true→cap=0):Rep L w π (.sl own c []) (.slice a 0 cap)
 | slS {π} {c:Nat} {xs:List AV} {b off cap:Nat} (u:Nat→Value) (hcap:xs.length≤cap) (hL:L b=.sh) (hb:b<w.heap.size) (hc:∀ x∈xs,x.cells.length=c)
   (hcell:∀ o:Nat,o<xs.length*c→w.cell? ⟨b,off+o,none⟩=some (u o)) (hr:∀ (o:Nat) (y:AV),(flat xs)[o]?=some y→Rep L w none y (u o)) :
   Rep L w π (.sl false c xs) (.slice (some ⟨b,off,none⟩) xs.length cap)
 | slO {p:List Nat} {c:Nat} {xs:List AV} {b cap:Nat} {arr:Array Value} {e:TypeId} (u:Nat→Value) (hL:L b=.my p) (hb:w.heap[b]?=some (.cells arr e (0,0))) (hcap:xs.length≤cap) (hsz:arr.size=cap*c)
   (hc:∀ x∈xs,x.cells.length=c) (hcell:∀ o:Nat,o<xs.length*c→arr[o]?=some (u o)) (hr:∀ (o:Nat) (y:AV),(flat xs)[o]?=some y→Rep L w (some (p++[o])) y (u o)) :
   Rep L w (some p) (.sl true c xs) (.slice (some ⟨b,0,none⟩) xs.length cap)
 | ptS {π} {cs:List AV} {b off:Nat} (u:Nat→Value) (hL:L b=.sh) (hb:b<w.heap.size)
   (hcell:∀ o:Nat,o<cs.length→w.cell? ⟨b,off+o,none⟩=some (u o)) (hr:∀ (o:Nat) (y:AV),cs[o]?=some y→Rep L w none y (u o)) :
   Rep L w π (.pt false cs) (.pointer (some ⟨b,off,none⟩))
 | ptO {p:List Nat} {cs:List AV} {b:Nat} {arr:Array Value} {e:TypeId} (u:Nat→Value) (hL:L b=.my p) (hb:w.heap[b]?=some (.cells arr e (0,0))) (hsz:arr.size=cs.length)
   (hcell:∀ o:Nat,o<cs.length→arr[o]?=some (u o)) (hr:∀ (o:Nat) (y:AV),cs[o]?=some y→Rep L w (some (p++[o])) y (u o)) :
   Rep L w (some p) (.pt true cs) (.pointer (some ⟨b,0,none⟩))
 | fn {π} {S:Beh} {v:Value} {wE:World} {B:Nat→Prop} (h:S.holds wE B v) (hs:wE.heap.size≤w.heap.size) (ho:w.os=wE.os) (ht:w.tape=wE.tape) (hu:w.output=wE.output)
   (hb:∀ b,b<wE.heap.size→B b→L b=.sh∧w.heap[b]?=wE.heap[b]?):Rep L w π (.fn S) v
 | mpS {π} {g:Int→Int} {b:Nat} (hL:L b=.sh) (hb:b<w.heap.size) (hm:MapB w.heap[b]? g):Rep L w π (.mp false g) (.map (some b))
 | mpO {p:List Nat} {g:Int→Int} {b:Nat} (hL:L b=.my p) (hm:MapB w.heap[b]? g):Rep L w (some p) (.mp true g) (.map (some b))
 | msS {π} {g:List UInt8→Int} {b:Nat} (hL:L b=.sh) (hb:b<w.heap.size) (hm:MapT w.heap[b]? g):Rep L w π (.ms false g) (.map (some b))
 | msO {p:List Nat} {g:List UInt8→Int} {b:Nat} (hL:L b=.my p) (hm:MapT w.heap[b]? g):Rep L w (some p) (.ms true g) (.map (some b))
theorem flat_length{c:Nat}:∀ {xs:List AV},(∀ x∈xs,x.cells.length=c)→(flat xs).length=xs.length*c
 | [],_=>by simp [flat]
 | x::xs,h=>by
  have ih:=flat_length (xs:=xs) fun y hy=>h y (List.mem_cons_of_mem _ hy)
  simp only [flat,List.flatMap_cons,List.length_append] at ih ⊢
  rw [h x (List.mem_cons_self ..),ih,List.length_cons,Nat.add_mul];omega
theorem flat_append(xs ys:List AV):flat (xs++ys)=flat xs++flat ys:=by simp [flat]
theorem flat_get{c:Nat}:∀ {xs:List AV},(∀ x∈xs,x.cells.length=c)→∀ {i j:Nat} {x y:AV},xs[i]?=some x→x.cells[j]?=some y→(flat xs)[i*c+j]?=some y
 | [],_,i,j,x,y,hx,_=>by simp at hx
 | z::xs,h,0,j,x,y,hx,hy=>by
  simp only [List.getElem?_cons_zero,Option.some.injEq] at hx
  subst hx
  have hj:j<z.cells.length:=(List.getElem?_eq_some_iff.1 hy).1
  simp only [flat,List.flatMap_cons,Nat.zero_mul,Nat.zero_add]
  rw [List.getElem?_append_left hj];exact hy
 | z::xs,h,i+1,j,x,y,hx,hy=>by
  simp only [List.getElem?_cons_succ] at hx
  have ih:=flat_get (xs:=xs) (fun y hy=>h y (List.mem_cons_of_mem _ hy)) hx hy
  have hz:=h z (List.mem_cons_self ..)
  simp only [flat,List.flatMap_cons] at ih ⊢
  rw [List.getElem?_append_right (by rw [hz,Nat.add_mul];omega),hz,show(i+1)*c+j-c=i*c+j by rw [Nat.add_mul];omega]
  exact ih
theorem flat_split{c:Nat}:∀ {xs:List AV},(∀ x∈xs,x.cells.length=c)→∀ {o:Nat} {y:AV},(flat xs)[o]?=some y→∃ i j x,xs[i]?=some x∧x.cells[j]?=some y∧o=i*c+j∧j<c
 | [],_,o,y,h=>by simp [flat] at h
 | z::xs,hc,o,y,h=>by
  have hz:=hc z (List.mem_cons_self ..)
  simp only [flat,List.flatMap_cons] at h
  by_cases ho:o<z.cells.length
  ·rw [List.getElem?_append_left ho] at h
   exact⟨0,o,z,rfl,h,by omega,by omega⟩
  ·rw [List.getElem?_append_right (by omega)] at h
   obtain⟨i,j,x,h1,h2,h3,h4⟩:=flat_split (xs:=xs) (fun y hy=>hc y (List.mem_cons_of_mem _ hy)) h
   exact⟨i+1,j,x,h1,h2,by rw [Nat.add_mul];omega,h4⟩
theorem cell_of_heap{w w':World}{b o:Nat}(h:w'.heap[b]?=w.heap[b]?):w'.cell? ⟨b,o,none⟩=w.cell? ⟨b,o,none⟩:=World.cell?_of_block (w:=w) h
theorem Rep.frame{L L':Nat→Lab}{w w':World}(hs:w.heap.size≤w'.heap.size)(ho:w'.os=w.os)(ht:w'.tape=w.tape)(hu:w'.output=w.output)
  (hS:∀ b,L b=.sh→b<w.heap.size→L' b=.sh∧w'.heap[b]?=w.heap[b]?) {π:Option (List Nat)} {x:AV} {v:Value} (h:Rep L w π x v) :
  ∀ π':Option (List Nat),(∀ p,π=some p→∃ p',π'=some p'∧∀ b q,L b=.my (p++q)→L' b=.my (p'++q)∧w'.heap[b]?=w.heap[b]?)→Rep L' w' π' x v:=by
 induction h with
 | int=>exact fun _ _=>.int
 | bool=>exact fun _ _=>.bool
 | str=>exact fun _ _=>.str
 | val=>exact fun _ _=>.val
 | agg hl _ ih=>exact fun π' _=>.agg hl fun i x v hx hv=>ih i x v hx hv none (fun p hp=>by cases hp)
 | @tup π cs vs hl _ ih =>
  refine fun π' hO=>.tup hl fun i x v hx hv=>ih i x v hx hv _ fun p hp=>?_
  cases π with
  | none=>simp [ch] at hp
  | some p0 =>
   simp only [ch,Option.map_some,Option.some.injEq] at hp
   subst hp
   obtain⟨p',rfl,h⟩:=hO p0 rfl
   exact⟨p'++[i],rfl,fun b q hb=>by have:=h b ([i]++q) (by rw [← List.append_assoc];exact hb);rw [List.append_assoc];exact this⟩
 | nil=>exact fun _ _=>.nil
 | dead=>exact fun _ _=>.dead
 | slE h=>exact fun _ _=>.slE h
 | slS u hcap hL hb hc hcell hr ih =>
  intro π' _
  obtain⟨h1,h2⟩:=hS _ hL hb
  exact .slS u hcap h1 (by omega) hc (fun o ho=>by rw [cell_of_heap h2];exact hcell o ho) (fun o y hy=>ih o y hy none (fun p hp=>by cases hp))
 | @slO p c xs b cap arr e u hL hb hcap hsz hc hcell hr ih =>
  intro π' hO
  obtain⟨p',rfl,h⟩:=hO p rfl
  obtain⟨h1,h2⟩:=h b [] (by simpa using hL)
  refine .slO u (by simpa using h1) (h2.trans hb) hcap hsz hc hcell fun o y hy=>ih o y hy _ fun q hq=>?_
  cases hq
  exact⟨p'++[o],rfl,fun b q hb=>by have:=h b ([o]++q) (by rw [← List.append_assoc];exact hb);rw [List.append_assoc];exact this⟩
 | ptS u hL hb hcell hr ih =>
  intro π' _
  obtain⟨h1,h2⟩:=hS _ hL hb
  exact .ptS u h1 (by omega) (fun o ho=>by rw [cell_of_heap h2];exact hcell o ho) (fun o y hy=>ih o y hy none (fun p hp=>by cases hp))
 | @ptO p cs b arr e u hL hb hsz hcell hr ih =>
  intro π' hO
  obtain⟨p',rfl,h⟩:=hO p rfl
  obtain⟨h1,h2⟩:=h b [] (by simpa using hL)
  refine .ptO u (by simpa using h1) (h2.trans hb) hsz hcell fun o y hy=>ih o y hy _ fun q hq=>?_
  cases hq
  exact⟨p'++[o],rfl,fun b q hb=>by have:=h b ([o]++q) (by rw [← List.append_assoc];exact hb);rw [List.append_assoc];exact this⟩
 | fn h hs' ho' ht' hu' hb' =>
  intro π' _
  refine .fn h (Nat.le_trans hs' hs) (ho.trans ho') (ht.trans ht') (hu.trans hu') fun b hb hB=>?_
  obtain⟨h1,h2⟩:=hb' b hb hB
  obtain⟨h3,h4⟩:=hS b h1 (by omega)
  exact⟨h3,h4.trans h2⟩
 | mpS hL hb hm =>
  intro π' _
  obtain⟨h1,h2⟩:=hS _ hL hb
  exact .mpS h1 (by omega) (by rw [h2];exact hm)
 | @mpO p g b hL hm =>
  intro π' hO
  obtain⟨p',rfl,h⟩:=hO p rfl
  obtain⟨h1,h2⟩:=h b [] (by simpa using hL)
  exact .mpO (by simpa using h1) (by rw [h2];exact hm)
 | msS hL hb hm =>
  intro π' _
  obtain⟨h1,h2⟩:=hS _ hL hb
  exact .msS h1 (by omega) (by rw [h2];exact hm)
 | @msO p g b hL hm =>
  intro π' hO
  obtain⟨p',rfl,h⟩:=hO p rfl
  obtain⟨h1,h2⟩:=h b [] (by simpa using hL)
  exact .msO (by simpa using h1) (by rw [h2];exact hm)
mutual
def AV.sh:AV→AV
 | .int n=>.int n
 | .bool b=>.bool b
 | .str s=>.str s
 | .val v=>.val v
 | .agg cs=>.agg (AV.shL cs)
 | .tup vs=>.tup (AV.shL vs)
 | .nil=>.nil
 | .sl _ c xs=>.sl false c (AV.shL xs)
 | .pt _ cs=>.pt false (AV.shL cs)
 | .fn S=>.fn S
 | .mp _ g=>.mp false g
 | .ms _ g=>.ms false g
 | .dead=>.dead
def AV.shL:List AV→List AV
 | []=>[]
 | x::xs=>x.sh::AV.shL xs
end
theorem shL_eq:∀ xs:List AV,AV.shL xs=xs.map AV.sh
 | []=>rfl
 | x::xs=>by simp only [AV.shL,List.map_cons,shL_eq xs]
theorem shL_map{α:Type}(f:α→AV)(l:List α)(g:α→AV)(h:∀ x,(f x).sh=g x):AV.shL (l.map f)=l.map g:=by
 rw [shL_eq,List.map_map];exact List.map_congr_left fun x _=>h x
theorem sh_cells(x:AV):x.sh.cells=x.cells.map AV.sh:=by
 cases x<;>simp [AV.sh,AV.cells,shL_eq]
theorem flat_map_sh(xs:List AV):flat (AV.shL xs)=(flat xs).map AV.sh:=by
 rw [shL_eq]
 induction xs with
 | nil=>rfl
 | cons x xs ih=>simp only [flat,List.map_cons,List.flatMap_cons,List.map_append,sh_cells] at ih ⊢;rw [ih]
theorem Rep.toSh{L L':Nat→Lab}{w:World}(hS:∀ b,b<w.heap.size→L b=.sh→L' b=.sh){π:Option (List Nat)}{x:AV}{v:Value}(h:Rep L w π x v)
  (hO:∀ p,π=some p→∀ b q,L b=.my (p++q)→L' b=.sh):Rep L' w none x.sh v:=by
 induction h with
 | int=>exact .int
 | bool=>exact .bool
 | str=>exact .str
 | val=>exact .val
 | @agg π cs vs hl _ ih =>
  refine .agg (by simp [shL_eq,hl]) fun i x v hx hv=>?_
  simp only [shL_eq,List.getElem?_map,Option.map_eq_some_iff] at hx
  obtain⟨y,hy,rfl⟩:=hx
  exact ih i y v hy hv (fun p hp=>by cases hp)
 | @tup π cs vs hl _ ih =>
  refine .tup (by simp [shL_eq,hl]) fun i x v hx hv=>?_
  simp only [shL_eq,List.getElem?_map,Option.map_eq_some_iff] at hx
  obtain⟨y,hy,rfl⟩:=hx
  refine ih i y v hy hv fun p hp b q hb=>?_
  cases π with
  | none=>simp [ch] at hp
  | some p0=>simp only [ch,Option.map_some,Option.some.injEq] at hp;subst hp;exact hO p0 rfl b ([i]++q) (by rw [← List.append_assoc];exact hb)
 | nil=>exact .nil
 | dead=>exact .dead
 | slE h=>exact .slE (by simp)
 | @slS π c xs b off cap u hcap hL hb hc hcell hr ih =>
  have hlen:(AV.shL xs).length=xs.length:=by simp [shL_eq]
  rw [← hlen]
  refine .slS u (by rw [hlen];exact hcap) (hS _ hb hL) hb (fun x hx=>?_) (by rw [hlen];exact hcell) (fun o y hy=>?_)
  ·rw [shL_eq] at hx;obtain⟨y,hy,rfl⟩:=List.mem_map.1 hx;rw [sh_cells,List.length_map];exact hc y hy
  ·rw [flat_map_sh,List.getElem?_map,Option.map_eq_some_iff] at hy
   obtain⟨z,hz,rfl⟩:=hy
   exact ih o z hz (fun p hp=>by cases hp)
 | @slO p c xs b cap arr e u hL hb hcap hsz hc hcell hr ih =>
  have hb':b<w.heap.size:=(Array.getElem?_eq_some_iff.1 hb).1
  have hlen:(AV.shL xs).length=xs.length:=by simp [shL_eq]
  rw [← hlen]
  refine .slS (off:=0) u (by rw [hlen];exact hcap) (hO p rfl b [] (by simpa using hL)) hb' (fun x hx=>?_) (fun o ho=>?_) (fun o y hy=>?_)
  ·rw [shL_eq] at hx;obtain⟨y,hy,rfl⟩:=List.mem_map.1 hx;rw [sh_cells,List.length_map];exact hc y hy
  ·rw [Nat.zero_add,cell_of_row w b o arr e (0,0) hb];exact hcell o (by rw [← hlen];exact ho)
  ·rw [flat_map_sh,List.getElem?_map,Option.map_eq_some_iff] at hy
   obtain⟨z,hz,rfl⟩:=hy
   exact ih o z hz (fun q hq c' q' hc'=>by cases hq;exact hO p rfl c' ([o]++q') (by rw [← List.append_assoc];exact hc'))
 | @ptS π cs b off u hL hb hcell hr ih =>
  refine .ptS u (hS _ hb hL) hb (by simpa [shL_eq] using hcell) fun o y hy=>?_
  simp only [shL_eq,List.getElem?_map,Option.map_eq_some_iff] at hy
  obtain⟨z,hz,rfl⟩:=hy
  exact ih o z hz (fun p hp=>by cases hp)
 | @ptO p cs b arr e u hL hb hsz hcell hr ih =>
  have hb':b<w.heap.size:=(Array.getElem?_eq_some_iff.1 hb).1
  refine .ptS u (hO p rfl b [] (by simpa using hL)) hb' (fun o ho=>by rw [Nat.zero_add,cell_of_row w b o arr e (0,0) hb];exact hcell o (by simpa [shL_eq] using ho)) fun o y hy=>?_
  simp only [shL_eq,List.getElem?_map,Option.map_eq_some_iff] at hy
  obtain⟨z,hz,rfl⟩:=hy
  exact ih o z hz (fun q hq c' q' hc'=>by cases hq;exact hO p rfl c' ([o]++q') (by rw [← List.append_assoc];exact hc'))
 | fn h hs' ho' ht' hu' hb' =>
  exact .fn h hs' ho' ht' hu' fun b hb hB=>by
   obtain⟨h1,h2⟩:=hb' b hb hB
   exact⟨hS b (by omega) h1,h2⟩
 | mpS hL hb hm=>exact .mpS (hS _ hb hL) hb hm
 | @mpO p g b hL hm =>
  obtain⟨es,clock,he,_⟩:=id hm
  exact .mpS (hO p rfl b [] (by simpa using hL)) (Array.getElem?_eq_some_iff.1 he).1 hm
 | msS hL hb hm=>exact .msS (hS _ hb hL) hb hm
 | @msO p g b hL hm =>
  obtain⟨es,clock,he,_⟩:=id hm
  exact .msS (hO p rfl b [] (by simpa using hL)) (Array.getElem?_eq_some_iff.1 he).1 hm
theorem Rep.any{L:Nat→Lab}{w:World}{x:AV}{v:Value}(h:Rep L w none x v)(π:Option (List Nat)):Rep L w π x v :=
 h.frame (Nat.le_refl _) rfl rfl rfl (fun _ h _=>⟨h,rfl⟩) π (fun p hp=>by cases hp)
end FM
