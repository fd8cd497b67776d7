/- The seat's numbers, for a contract of the library's. Written by a program of the prover's (lay.py). -/
import Derived.Test.YtkkcnppgcnmikaaGreatDoorChecked
import Derived.Shelf.SlSortCmp.WholeK
import Derived.Test.YtkkcnppgcnmikaaGreatDoorAcc
import Derived.Test.YtkkcnppgcnmikaaGreatDoorAbi
import Derived.Lib.SliceRun
import Derived.Deep.QuietTactic
import Derived.BigQuiet
namespace Go.Proofs.YtkkcnppgcnmikaaGreatDoor
open Go Go.Proofs
set_option linter.all false
def lsa_ren:Go.Shelf.Ren:=⟨fun|6=>122|15=>63|14=>171|28=>119|29=>120|20=>216|21=>217|22=>218|23=>219|24=>220|25=>221|26=>222|27=>223|46=>247|47=>166|48=>167|49=>248|50=>249|57=>261|n=>n,fun|22=>25|24=>46|25=>176|3=>3|39=>120|0=>0|53=>172|55=>174|4=>4|46=>164|45=>163|50=>169|5=>5|9=>9|66=>218|70=>222|76=>261|77=>42|n=>n,fun|n=>n⟩
theorem lsa:SlLaysF0.n6 Tryz.prog lsa_ren:={
 mixed:=by kernel_rfl,
 f6:=⟨Tryz.f122.name,by decide,Tryz.func122.trans (congrArg some (by kernel_rfl))⟩,
 f14:=⟨Tryz.f171.name,by decide,Tryz.func171.trans (congrArg some (by kernel_rfl))⟩,
 f15:=Tryz.func63.trans (congrArg some (by kernel_rfl)),
 f20:=⟨Tryz.f216.name,by decide,Tryz.func216.trans (congrArg some (by kernel_rfl))⟩,
 f21:=⟨Tryz.f217.name,by decide,Tryz.func217.trans (congrArg some (by kernel_rfl))⟩,
 f22:=⟨Tryz.f218.name,by decide,Tryz.func218.trans (congrArg some (by kernel_rfl))⟩,
 f23:=⟨Tryz.f219.name,by decide,Tryz.func219.trans (congrArg some (by kernel_rfl))⟩,
 f24:=⟨Tryz.f220.name,by decide,Tryz.func220.trans (congrArg some (by kernel_rfl))⟩,
 f25:=⟨Tryz.f221.name,by decide,Tryz.func221.trans (congrArg some (by kernel_rfl))⟩,
 f26:=⟨Tryz.f222.name,by decide,Tryz.func222.trans (congrArg some (by kernel_rfl))⟩,
 f27:=⟨Tryz.f223.name,by decide,Tryz.func223.trans (congrArg some (by kernel_rfl))⟩,
 f28:=Tryz.func119.trans (congrArg some (by kernel_rfl)),
 f29:=Tryz.func120.trans (congrArg some (by kernel_rfl)),
 f46:=⟨Tryz.f247.name,by decide,Tryz.func247.trans (congrArg some (by kernel_rfl))⟩,
 f47:=Tryz.func166.trans (congrArg some (by kernel_rfl)),
 f48:=Tryz.func167.trans (congrArg some (by kernel_rfl)),
 f49:=⟨Tryz.f248.name,by decide,Tryz.func248.trans (congrArg some (by kernel_rfl))⟩,
 f50:=⟨Tryz.f249.name,by decide,Tryz.func249.trans (congrArg some (by kernel_rfl))⟩,
 f57:=⟨Tryz.f261.name,by decide,Tryz.func261.trans (congrArg some (by kernel_rfl))⟩,
 t0:=Tryz.underlying0,
 a0:=Tryz.isAgg0,
 z0:=Tryz.sizeOf0,
 v0:=Tryz.zeroValue0,
 t3:=Tryz.underlying3,
 a3:=Tryz.isAgg3,
 z3:=Tryz.sizeOf3,
 v3:=Tryz.zeroValue3,
 t4:=Tryz.underlying4,
 a4:=Tryz.isAgg4,
 z4:=Tryz.sizeOf4,
 v4:=Tryz.zeroValue4,
 t5:=Tryz.underlying5,
 a5:=Tryz.isAgg5,
 z5:=Tryz.sizeOf5,
 v5:=Tryz.zeroValue5,
 t9:=Tryz.underlying9,
 a9:=Tryz.isAgg9,
 z9:=Tryz.sizeOf9,
 v9:=Tryz.zeroValue9,
 t22:=Tryz.underlying25,
 a22:=Tryz.isAgg25,
 z22:=Tryz.sizeOf25,
 v22:=Tryz.zeroValue25,
 t25:=Tryz.underlying176,
 a25:=Tryz.isAgg176,
 z25:=Tryz.sizeOf176,
 v25:=Tryz.zeroValue176,
 t39:=Tryz.underlying120,
 a39:=Tryz.isAgg120,
 z39:=Tryz.sizeOf120,
 v39:=Tryz.zeroValue120,
 t45:=Tryz.underlying163,
 a45:=Tryz.isAgg163,
 z45:=Tryz.sizeOf163,
 v45:=Tryz.zeroValue163,
 t46:=Tryz.underlying164,
 a46:=Tryz.isAgg164,
 z46:=Tryz.sizeOf164,
 v46:=Tryz.zeroValue164,
 t50:=Tryz.underlying169,
 a50:=Tryz.isAgg169,
 z50:=Tryz.sizeOf169,
 v50:=Tryz.zeroValue169,
 t53:=Tryz.underlying172,
 a53:=Tryz.isAgg172,
 z53:=Tryz.sizeOf172,
 v53:=Tryz.zeroValue172,
 t55:=Tryz.underlying174,
 a55:=Tryz.isAgg174,
 z55:=Tryz.sizeOf174,
 v55:=Tryz.zeroValue174,
 t66:=Tryz.underlying218,
 a66:=Tryz.isAgg218,
 z66:=Tryz.sizeOf218,
 v66:=Tryz.zeroValue218,
 t70:=Tryz.underlying222,
 a70:=Tryz.isAgg222,
 z70:=Tryz.sizeOf222,
 v70:=Tryz.zeroValue222,
 t76:=Tryz.underlying261,
 a76:=Tryz.isAgg261,
 z76:=Tryz.sizeOf261,
 v76:=Tryz.zeroValue261,
 t77:=Tryz.underlying42,
 a77:=Tryz.isAgg42,
 z77:=Tryz.sizeOf42,
 v77:=Tryz.zeroValue42 }
end Go.Proofs.YtkkcnppgcnmikaaGreatDoor
namespace Go.Proofs.YtkkcnppgcnmikaaGreatDoor
open Go FM Go.Proofs Go.Shelf Go.RowKit Go.Lib Go.Sort
set_option maxRecDepth 10000
set_option maxHeartbeats 1600000
set_option linter.all false
instance : Inhabited Ac := ⟨([], 0, 0, ())⟩
def encA(x:Ac):List Value:=[.string ⟨x.1.toArray⟩,.int .i64 x.2.1,.int .i64 x.2.2.1]
def cfA(x y:Ac):Int:=if x.1<y.1 then -1 else 1
theorem ltA{x y:Ac}:ltOf cfA x y=decide (x.1<y.1):=by
 unfold ltOf cfA
 by_cases c:x.1<y.1
 ·rw [if_pos c,decide_eq_true c];rfl
 ·rw [if_neg c,decide_eq_false c];rfl
theorem swoA:SWO (ltOf cfA):=by
 refine⟨fun x=>?_,fun x y z h1 h2=>?_,fun x y z h1 h2=>?_⟩<;>rw [ltA] at *<;>simp only [decide_eq_true_eq,decide_eq_false_iff_not] at *
 ·exact List.lt_irrefl _
 ·exact List.lt_trans h1 h2
 ·exact List.not_lt.2 (List.le_trans (List.not_lt.1 h2) (List.not_lt.1 h1))
def asort(l:List Ac):List Ac:=(pdq (ltOf cfA) l.toArray 0 l.length (Lib.bitLen l.length) true true).toList
theorem asort_spec(l:List Ac):(asort l).Perm l∧(asort l).Pairwise (fun x y=>¬ y.1<x.1):=by
 obtain⟨⟨h1,_,h2⟩,h3⟩:=pdq_sorts (ltOf cfA) swoA l.toArray 0 l.length (Lib.bitLen l.length) true true (Nat.zero_le _) (by simp) (Or.inl rfl)
 unfold asort
 generalize pdq (ltOf cfA) l.toArray 0 l.length (Lib.bitLen l.length) true true=d at *
 have hs:d.size=l.length:=by simpa using h1
 refine⟨?_,?_⟩
 ·have e1:d.extract 0 l.length=d:=by rw [← hs];exact Array.extract_size
  have e2:l.toArray.extract 0 l.length=l.toArray:=by have:=Array.extract_size (xs:=l.toArray);simpa using this
  rw [e1,e2] at h2
  simpa using h2
 ·rw [List.pairwise_iff_getElem]
  intro i j hi hj hij
  have hi':i<d.size:=by simpa using hi
  have hj':j<d.size:=by simpa using hj
  have:=h3 i j (Nat.zero_le _) hij (by omega)
  rw [getElem!_pos d i hi',getElem!_pos d j hj',ltA] at this
  simpa using this
theorem asort_length(l:List Ac):(asort l).length=l.length:=(asort_spec l).1.length_eq
theorem cmpA(x y:Ac)(W:World):Calls Tryz.prog 123 #[.agg (encA x).toArray,.agg (encA y).toArray] W fun e w'=>e=.returned (.int .i64 (cfA x y))∧∃ q os,w'=grow (W.drewN q) os:=by
 obtain⟨s,b,c,u⟩:=x
 obtain⟨s',b',c',u'⟩:=y
 show Calls Tryz.prog _ #[.agg #[.string ⟨s.toArray⟩,.int .i64 b,.int .i64 c],.agg #[.string ⟨s'.toArray⟩,.int .i64 b',.int .i64 c']] W fun e w'=>e=.returned (.int .i64 (if s<s' then -1 else 1))∧_
 go_enter Tryz.func123,Tryz.ntmps123
 by_cases c:s<s'
 ·rw [if_pos c]
  have hb:Op.bytesLess s s'=true:=by rw [less_lt];exact decide_eq_true c
  go_wp2
  go_ret
  refine⟨rfl,0,?_⟩
  rw [alloc_eq_grow,alloc_eq_grow,grow_grow]
  exact⟨_,rfl⟩
 ·rw [if_neg c]
  have hb:Op.bytesLess s s'=false:=by rw [less_lt];exact decide_eq_false c
  go_wp2
  go_ret
  refine⟨rfl,0,?_⟩
  rw [alloc_eq_grow,alloc_eq_grow,grow_grow]
  exact⟨_,rfl⟩
theorem cells_ac(x:Ac):(acA x).cells=[.str x.1,.int x.2.1,.int x.2.2.1]:=rfl
theorem ac_cells{l:List Ac}:∀ x∈l.map acA,x.cells.length=3:=fun x hx=>by obtain⟨z,_,rfl⟩:=List.mem_map.1 hx;rfl
theorem rep_enc{L:Nat→Lab}{w:World}{π:Option (List Nat)}{x:Ac}{j:Nat}{y:AV}(h:(acA x).cells[j]?=some y):Rep L w π y (encA x)[j]! := by
 match j,h with
 | 0,h=>cases h;exact .str
 | 1,h=>cases h;exact .int
 | 2,h=>cases h;exact .int
 | j+3,h=>simp [cells_ac] at h
theorem enc_rep{L:Nat→Lab}{w:World}{π:Option (List Nat)}{x:Ac}{j:Nat}{y:AV}{v:Value}(h:(acA x).cells[j]?=some y)(hr:Rep L w π y v):v=(encA x)[j]! := by
 match j,h with
 | 0,h=>cases h;cases hr;rfl
 | 1,h=>cases h;cases hr;rfl
 | 2,h=>cases h;cases hr;rfl
 | j+3,h=>simp [cells_ac] at h
theorem back_rowA{L:Nat→Lab}{w:World}{v:Value}{l l':List Ac}{n:Nat}{rest:List AV}{vrest:List Value}(hpre:FM.Pre n L w)(hrep:Rep L w (some [0]) (.sl true 3 (l.map acA)) v)(hlen:l'.length=l.length)(hne:l≠[])(hn:n=rest.length+1)(hl:vrest.length=rest.length)
  (hsh:∀ (i:Nat) x u,rest[i]?=some x→vrest[i]?=some u→Rep L w (some [i+1]) x u∧x.isOwn=false) :
  ∃ blk cap,v=.slice (some ⟨blk,0,none⟩) l.length cap∧HoldsK encA 3 w blk 0 l.toArray∧blk<w.heap.size∧L blk=.my [0] ∧
   ∀ k os,∃ L',FM.Back n (.sl true 3 (l'.map acA)::rest) (.tup []) L w (v::vrest) (.tuple #[]) (sortWorldK encA 3 w blk 0 k l'.toArray os) L':=by
 cases hl0:l with
 | nil=>exact absurd hl0 hne
 | cons x0 l0 =>
 rw [← hl0]
 generalize hxs:l.map acA=xs at hrep
 cases hrep with
 | slE h=>rw [hl0] at hxs;cases hxs
 | @slO p c xs b cap arr e u hL hb hcap hsz hc hcell hr =>
  subst hxs
  have hbl:b<w.heap.size:=(Array.getElem?_eq_some_iff.1 hb).1
  rw [List.length_map] at hcap hcell ⊢
  have hval:∀ o,o<l.length*3→arr[o]?=some ((encA l.toArray[o / 3]!)[o%3]!):=fun o ho=>by
   have hi:o / 3<l.length:=by omega
   have h1:=hcell o ho
   have hx:(l.map acA)[o / 3]?=some (acA l[o / 3]):=by rw [List.getElem?_map,List.getElem?_eq_getElem hi];rfl
   have e1:l.toArray[o / 3]! = l[o / 3]:=by rw [getElem!_pos l.toArray (o / 3) (by simpa using hi)];simp
   rw [e1]
   have e2:o / 3*3+o%3=o:=by omega
   have hm:o%3<(acA l[o / 3]).cells.length:=by rw [cells_ac];exact Nat.mod_lt _ (by decide)
   have hy:(acA l[o / 3]).cells[o%3]?=some ((acA l[o / 3]).cells[o%3]):=List.getElem?_eq_getElem hm
   have h2:=flat_get hc hx hy
   rw [e2] at h2
   rw [h1,enc_rep hy (hr o _ h2)]
  refine⟨b,cap,rfl,fun j hj=>?_,hbl,hL,fun k os=>?_⟩
  ·have hj':j<l.length*3:=by simpa using hj
   refine⟨?_,?_⟩
   ·rw [cell_of_row w b (0+j) arr e (0,0) hb,Nat.zero_add,hval j hj',get_flatK _ _ _ _ (by simpa using hj')];rfl
   ·simp only [World.frozen?,hb];simp
  ·obtain⟨W,hW⟩:∃ W,W=sortWorldK encA 3 w b 0 k l'.toArray os:=⟨_,rfl⟩
   rw [← hW]
   have hWs:W.heap.size=w.heap.size+os.size:=by rw [hW];simp [sortWorldK,putRowK,Go.Sort.grow,Go.Sort.putRow,Go.Sort.mapBlock,Go.Sort.ahead]
   have hWo:W.os=w.os:=by rw [hW];rfl
   have hWt:W.tape=w.tape:=by rw [hW];rfl
   have hWu:W.output=w.output:=by rw [hW];rfl
   have hWb:W.heap[b]?=some (.cells (Go.Sort.putCells id 0 (flatK encA 3 l'.toArray) arr) e (0,0)):=by
    rw [hW]
    simp only [sortWorldK,putRowK,Go.Sort.grow,Go.Sort.putRow,Go.Sort.mapBlock,Go.Sort.ahead]
    rw [Array.getElem?_append_left (by simpa using hbl),Array.getElem?_modify,if_pos rfl,hb];rfl
   have hWk:∀ b',b'<w.heap.size→b'≠b→W.heap[b']?=w.heap[b']?:=fun b' h1 h2=>by
    rw [hW]
    simp only [sortWorldK,putRowK,Go.Sort.grow,Go.Sort.putRow,Go.Sort.mapBlock,Go.Sort.ahead]
    rw [Array.getElem?_append_left (by simpa using h1),Array.getElem?_modify,if_neg (fun e=>h2 e.symm)]
   clear hW
   refine⟨L,⟨hWo,hWt,hWu,by omega,fun b' h1 h2=>hWk b' h1 (fun e=>by subst e;exact h2 _ hL)⟩,⟨fun b' p hp=>by have:=hpre.lt b' p hp;omega,hpre.inj,fun b' p hp e=>?_,fun b' p _ hp=>⟨p,hp⟩,fun b' _=>Iff.rfl,fun b' h1 h2=>hpre.new b' (by omega) h2⟩,fun b' p hp=>?_,fun i x u' hx hu=>?_,.tup rfl fun i x v h=>by simp at h⟩
   ·subst e;obtain⟨i,q,h,_⟩:=hpre.head b' [] hp;cases h
   ·obtain⟨i,q,h,h2⟩:=hpre.head b' p hp;exact⟨i,q,h,by omega⟩
   ·cases i with
    | zero =>
     simp only [List.getElem?_cons_zero,Option.some.injEq] at hx hu
     subst hx;subst hu
     have hsl:(l'.map acA).length=l.length:=by rw [List.length_map,hlen]
     rw [← hsl]
     refine .slO (fun o=>(flatK encA 3 l'.toArray)[o]!) hL hWb (by rw [hsl];exact hcap) (by simp [Go.Sort.putCells,hsz]) ac_cells (fun o ho=>?_) fun o y hy=>?_
     ·rw [hsl] at ho
      have hoa:o<arr.size:=by rw [hsz];exact Nat.lt_of_lt_of_le ho (Nat.mul_le_mul_right _ hcap)
      simp only [Go.Sort.putCells,Array.getElem?_mapIdx,Array.getElem?_eq_getElem hoa,Option.map_some]
      rw [if_pos ⟨Nat.zero_le _,by simp;omega⟩];rfl
     ·obtain⟨i,j,x,h1,h2,h3,h4⟩:=flat_split ac_cells hy
      rw [List.getElem?_map,Option.map_eq_some_iff] at h1
      obtain⟨z,hz,rfl⟩:=h1
      have hil:i<l'.length:=(List.getElem?_eq_some_iff.1 hz).1
      have e1:l'.toArray[o / 3]! = z:=by
       rw [show o / 3=i by omega,getElem!_pos l'.toArray i (by simpa using hil)]
       simp only [List.getElem_toArray]
       rw [List.getElem?_eq_getElem hil] at hz;exact Option.some.inj hz
      show Rep L W _ y (flatK encA 3 l'.toArray)[o]!
      rw [get_flatK _ _ _ _ (by simp;omega),e1,show o%3=j by omega]
      exact rep_enc h2
    | succ i =>
     simp only [List.getElem?_cons_succ] at hx hu
     obtain⟨h1,h2⟩:=hsh i x u' hx hu
     refine(Rep.frame (by omega) hWo hWt hWu (fun b' hb' hlt=>⟨hb',hWk b' hlt (fun e=>by subst e;rw [hL] at hb';cases hb')⟩) (h1.replace (π':=none) h2) none (fun p hp=>by cases hp)).any _
theorem srtA_ok:FnOk Sy.P 122:=⟨_,Tryz.func122,rfl,rfl⟩
theorem acJ{S:FM.Sys}{N:Nat}{σ:FM.St}{l:List Ac}{t1 s d ty:Nat}{ops:Array Oper}{k:List Oper}{K:FM.St→Prop}{ts:Array Nat}{pos:String}{aft:Array Edge}{g:Option (Nat×Bool)}(hP:Sy.P=S.P)(hg:live ops g σ=some true)
  (h1:slotAt σ (.tmp t1)=some s) (h2:FM.get σ s=.av (.sl true 3 (l.map acA))) (hne:l≠[]) (hlb:l.length≤1000000) (h3:Nat.beq s d=false)
  (h:J false S N ops k K (putM [(s,0)] [.sl true 3 ((asort l).map acA),.dead] (σ.put d (.av (.tup []))))) :
  J false S N ops (⟨some d,.call ⟨.value (.func 122),#[.tmp t1,.func 123],ts⟩,ty,pos,aft,g⟩::k) K σ:=by
 refine J.callMP (xs:=[.func 123]) (op:=.tmp t1) srtA_ok hP hg h1 h2 h3 (fun w0 L0 a w L hR hpre hrep=>?_) noSh_unit ⟨_,rfl,.sl fun x hx=>?_⟩ h
 ·obtain⟨blk,cap,hv,hH,hb,hL,hBk⟩:=back_rowA (l':=asort l) (n:=2) (rest:=[.dead]) (vrest:=[a.eval (.func 123)]) hpre hrep (asort_length l) hne rfl rfl (fun i x u hx hu=>by
   match i with
   | 0=>simp only [List.getElem?_cons_zero,Option.some.injEq] at hx;subst hx;exact⟨.dead,rfl⟩
   | i+1=>simp at hx)
  have eg:∀ args w,(callFunc 123 args).run Tryz.prog w=.ok (.enter 123 args) w:=enters_of Tryz.func123 (by kernel_rfl) rfl
  have hcon:=AnyQ.slices_SortFunc_eq lsa 3 Tryz.isAgg46 Tryz.sizeOf46 encA (fun _=>rfl) (fun x v hv=>by simp [encA] at hv;rcases hv with rfl|rfl|rfl<;>rfl) cfA swoA 123 #[] blk 0 cap l.toArray w eg (fun m os dk _ x y=>cmpA x y _) hH hb (by simp;omega)
  simp only [List.map_cons,List.map_nil,hv]
  rw [hv] at hBk
  have hsz:l.toArray.size=l.length:=by simp
  rw [hsz] at hcon
  refine Calls.mono hcon fun e w' ⟨he,q,os,hw⟩=>?_
  obtain⟨L',hB'⟩:=hBk q os
  subst hw
  refine⟨_,L',he,?_⟩
  unfold asort at hB' ⊢
  exact hB'
 ·obtain⟨z,_,rfl⟩:=List.mem_map.1 hx
  exact noSh_aggL rfl
end Go.Proofs.YtkkcnppgcnmikaaGreatDoor
namespace Go.Proofs.YtkkcnppgcnmikaaGreatDoor
open Go FM
set_option maxRecDepth 10000
set_option linter.all false
def opE(l:List Ac)(s:Str)(m:Int):Int :=
 if acE l≠0 then acE l else if nmB s=false then 3 else if wiB m=false then 1 else if 0≤fA l s then 7 else if 6≤l.length then 8 else 0
def opK(l:List Ac)(s:Str):Nat:=(l.takeWhile fun a=>decide (a.1<s)).length
def opM(l:List Ac)(s:Str)(m:Int):List Ac:=l.take (opK l s)++(s,m,0,())::l.drop (opK l s)
theorem opK_le{l:List Ac}{s:Str}:opK l s≤l.length:=List.Sublist.length_le (List.takeWhile_sublist _)
theorem opK_lt:∀ {l:List Ac} {s:Str} {k:Nat} (_:k<opK l s) (hl:k<l.length),l[k].1<s
 | [],s,k,h,hl=>absurd hl (Nat.not_lt_zero _)
 | a::r,s,k,h,hl=>by
  unfold opK at h
  rw [List.takeWhile_cons] at h
  by_cases c:a.1<s
  ·rw [if_pos (decide_eq_true c)] at h
   cases k with
   | zero=>exact c
   | succ k=>exact opK_lt (l:=r) (k:=k) (by unfold opK;simpa using h) (by simpa using hl)
  ·rw [if_neg (by simpa using c)] at h;simp at h
theorem opK_at:∀ {l:List Ac} {s:Str} (h:opK l s<l.length),¬ l[opK l s].1<s
 | [],s,h=>absurd h (Nat.not_lt_zero _)
 | a::r,s,h=>by
  have e:opK (a::r) s=if a.1<s then opK r s+1 else 0:=by
   unfold opK
   rw [List.takeWhile_cons]
   by_cases c:a.1<s
   ·rw [if_pos (decide_eq_true c),if_pos c];rfl
   ·rw [if_neg (by simpa using c),if_neg c];rfl
  by_cases c:a.1<s
  ·rw [if_pos c] at e
   have h':opK r s<r.length:=by rw [e] at h;simpa using h
   have:=opK_at (l:=r) h'
   intro hh
   apply this
   have e2:(a::r)[opK (a::r) s]=r[opK r s]:=by
    have:∀ (j:Nat) (hj:j<(a::r).length),j=opK r s+1→(a::r)[j]=r[opK r s]:=fun j hj hje=>by subst hje;rfl
    exact this _ _ e
   rw [e2] at hh;exact hh
  ·rw [if_neg c] at e
   intro hh
   apply c
   have:∀ (j:Nat) (hj:j<(a::r).length),j=0→(a::r)[j]=a:=fun j hj hje=>by subst hje;rfl
   rw [this _ _ e] at hh;exact hh
theorem fidx_none{α:Type}{p:α→Bool}:∀ {l:List α} {k:Nat},fidx p l k<0→∀ x∈l,p x=false
 | [],k,_,x,h=>by cases h
 | y::r,k,h,x,hx=>by
  unfold fidx at h
  cases hp:p y with
  | true=>rw [hp,cond_true] at h;omega
  | false =>
   rw [hp,cond_false] at h
   rcases List.mem_cons.1 hx with rfl|hx
   ·exact hp
   ·exact fidx_none h x hx
theorem nm_unique{l l':List Ac}(hp:l.Perm l')(h:l.Pairwise fun a b=>¬ b.1<a.1)(h':l'.Pairwise fun a b=>¬ b.1<a.1)(hn:∀ a∈l,∀ b∈l,a.1=b.1→a=b):l=l' :=
 List.Perm.eq_of_pairwise (le:=fun a b=>¬ b.1<a.1) (fun a b ha hb h1 h2=>hn a ha b (hp.mem_iff.2 hb) (List.le_antisymm (List.not_lt.1 h1) (List.not_lt.1 h2))) h h' hp
theorem opM_srt{l:List Ac}{s:Str}{m:Int}(h:l.Pairwise fun a b=>a.1<b.1):(opM l s m).Pairwise fun a b=>¬ b.1<a.1:=by
 have irr:∀ {a b:Str},a<b→¬ b<a:=fun h1 h2=>List.lt_irrefl _ (List.lt_trans h1 h2)
 unfold opM
 rw [List.pairwise_append,List.pairwise_cons]
 refine⟨(h.sublist (List.take_sublist _ _)).imp fun h=>irr h,⟨fun b hb=>?_,(h.sublist (List.drop_sublist _ _)).imp fun h=>irr h⟩,fun a ha b hb=>?_⟩
 ·obtain⟨j,hj,rfl⟩:=List.mem_iff_getElem.1 hb
  rw [List.length_drop] at hj
  rw [List.getElem_drop]
  have h0:=opK_at (l:=l) (s:=s) (by omega)
  by_cases e:j=0
  ·subst e
   have:l[opK l s+0]=l[opK l s]'(by omega):=rfl
   rw [this];exact h0
  ·have h1:=List.pairwise_iff_getElem.1 h (opK l s) (opK l s+j) (by omega) (by omega) (by omega)
   intro h2
   exact h0 (List.lt_trans h1 h2)
 ·obtain⟨j,hj,rfl⟩:=List.mem_iff_getElem.1 ha
  rw [List.length_take] at hj
  rw [List.getElem_take]
  have h0:=opK_lt (l:=l) (s:=s) (k:=j) (by omega) (by omega)
  rcases List.mem_cons.1 hb with rfl|hb
  ·exact irr h0
  ·obtain⟨i,hi,rfl⟩:=List.mem_iff_getElem.1 hb
   rw [List.length_drop] at hi
   rw [List.getElem_drop]
   exact irr (List.pairwise_iff_getElem.1 h j (opK l s+i) (by omega) (by omega) (by omega))
theorem opM_perm{l:List Ac}{s:Str}{m:Int}:(l++[(s,m,0,())]).Perm (opM l s m):=by
 unfold opM
 refine List.Perm.trans ?_ (List.perm_middle.symm)
 rw [List.take_append_drop]
 exact List.perm_append_singleton _ _
theorem nm_inj{l:List Ac}(h:l.Pairwise fun a b=>a.1<b.1){s:Str}{m:Int}(hf:fA l s<0):∀ a∈l++[(s,m,0,())],∀ b∈l++[(s,m,0,())],a.1=b.1→a=b:=by
 have hno:∀ a∈l,a.1≠s:=fun a ha e=>by
  have:=fidx_none (p:=fun a:Ac=>decide (a.1=s)) hf a ha
  rw [decide_eq_false_iff_not] at this;exact this e
 have hin:∀ a∈l,∀ b∈l,a.1=b.1→a=b:=fun a ha b hb e=>by
  obtain⟨i,hi,rfl⟩:=List.mem_iff_getElem.1 ha
  obtain⟨j,hj,rfl⟩:=List.mem_iff_getElem.1 hb
  rcases Nat.lt_trichotomy i j with c|c|c
  ·have:=List.pairwise_iff_getElem.1 h i j hi hj c
   rw [e] at this;exact absurd this (List.lt_irrefl _)
  ·subst c;rfl
  ·have:=List.pairwise_iff_getElem.1 h j i hj hi c
   rw [e] at this;exact absurd this (List.lt_irrefl _)
 intro a ha b hb e
 rcases List.mem_append.1 ha with ha|ha<;>rcases List.mem_append.1 hb with hb|hb
 ·exact hin a ha b hb e
 ·rw [List.mem_singleton] at hb;subst hb;exact absurd e (hno a ha)
 ·rw [List.mem_singleton] at ha;subst ha;exact absurd e.symm (hno b hb)
 ·rw [List.mem_singleton] at ha hb;rw [ha,hb]
theorem opM_len{l:List Ac}{s:Str}{m:Int}:(opM l s m).length=l.length+1:=by rw [← opM_perm.length_eq,List.length_append];rfl
end Go.Proofs.YtkkcnppgcnmikaaGreatDoor
namespace Go.Proofs.YtkkcnppgcnmikaaGreatDoor
open Go FM Go.Proofs
set_option maxRecDepth 10000
set_option maxHeartbeats 3200000
set_option linter.all false
theorem asort_open{l:List Ac}{s:Str}{m:Int}(h:l.Pairwise fun a b=>a.1<b.1)(hf:fA l s<0):asort (l++[(s,m,0,())])=opM l s m:=by
 obtain⟨h1,h2⟩:=asort_spec (l++[(s,m,0,())])
 have hp:(asort (l++[(s,m,0,())])).Perm (opM l s m):=h1.trans opM_perm
 refine nm_unique hp h2 (opM_srt h) fun a ha b hb e=>?_
 exact nm_inj h hf a (h1.mem_iff.1 ha) b (h1.mem_iff.1 hb) e
theorem open_spec(l:List Ac)(s:Str)(m:Int)(hL:AcL l)(h1:s.length≤9223372036854775807):FnSpec Sy.P 64 [.sl false 3 (l.map acA),.str s,.int m] [.sl false 3 (l.map acA),.str s,.int m] (resA (opM l s m) (opE l s m)):=by
 have hC:=check_spec l hL
 have hN:=named_spec s h1
 have hF:=find_spec l s hL.len
 have hCr:=acE_range l
 have hfr:=fA_range l s
 unfold opE resA
 by_cases c1:acE l=0
 ·have hok:=acE_ok c1
  rw [c1] at hC
  rw [if_neg (not_not_intro c1)]
  cases c2:nmB s with
  | false =>
   rw [c2] at hN
   rw [if_pos rfl,if_neg (by decide)]
   refine enT Tryz.func64 Tryz.ntmps64 fun v0=>?_
   repeat' first|refine w9x ?_|refine w9p (hC) ?_|refine w9p (hN) ?_|refine w9p (hF) ?_|(refine w9c ?_ ?_<;>intro _<;>try exact w9o)|fail
   all_goals exact w9e
  | true =>
  rw [c2] at hN
  rw [if_neg (show ¬ (true=false) from by simp)]
  by_cases c3:wiB m=false
  ·have hm:=wiB_no.1 c3
   rw [if_pos c3,if_neg (by decide)]
   refine enT Tryz.func64 Tryz.ntmps64 fun v0=>?_
   repeat' first|refine w9x ?_|refine w9p (hC) ?_|refine w9p (hN) ?_|refine w9p (hF) ?_|(refine w9c ?_ ?_<;>intro _<;>try exact w9o)|fail
   all_goals exact w9e
  rw [if_neg c3]
  have hm:=wiB_iff.1 (by simpa using c3)
  by_cases c4:0≤fA l s
  ·rw [if_pos c4,if_neg (by decide)]
   refine enT Tryz.func64 Tryz.ntmps64 fun v0=>?_
   repeat' first|refine w9x ?_|refine w9p (hC) ?_|refine w9p (hN) ?_|refine w9p (hF) ?_|(refine w9c ?_ ?_<;>intro _<;>try exact w9o)|fail
   all_goals exact w9e
  rw [if_neg c4]
  have hl6:=hok.len
  by_cases c5:6≤l.length
  ·rw [if_pos c5,if_neg (by decide)]
   refine enT Tryz.func64 Tryz.ntmps64 fun v0=>?_
   repeat' first|refine w9x ?_|refine w9p (hC) ?_|refine w9p (hN) ?_|refine w9p (hF) ?_|(refine w9c ?_ ?_<;>intro _<;>try exact w9o)|fail
   all_goals exact w9e
  rw [if_neg c5,if_pos rfl]
  have hCl:=cloneAc_spec l (by omega)
  rw [← asort_open hok.srt (by omega)]
  have hmap0:TV.av (AV.sl true 3 (l.map acA++[acA (s,m,0,())]))=TV.av (AV.sl true 3 ((l++[(s,m,0,())]).map acA)):=by rw [List.map_append];rfl
  have hne0:l++[(s,m,0,())]≠[]:=by simp
  have hlb0:(l++[(s,m,0,())]).length≤1000000:=by rw [List.length_append,List.length_singleton];omega
  refine enT Tryz.func64 Tryz.ntmps64 fun v0=>?_
  repeat' first|(refine acJ (l:=l++[(s,m,0,())]) rfl rfl rfl hmap0 hne0 hlb0 rfl ?_)|refine w9x ?_|refine w9p (hC) ?_|refine w9p (hN) ?_|refine w9p (hF) ?_|refine w9p (hCl) ?_|(refine w9c ?_ ?_<;>intro _<;>try exact w9o)|fail
  all_goals exact w9e
 ·rw [if_pos c1,if_neg c1]
  generalize acE l=e at *
  refine enT Tryz.func64 Tryz.ntmps64 fun v0=>?_
  repeat' first|refine w9x ?_|refine w9p (hC) ?_|(refine w9c ?_ ?_<;>intro _<;>try exact w9o)|fail
  all_goals exact w9e
end Go.Proofs.YtkkcnppgcnmikaaGreatDoor
