/- Maps from strings to ints that the call makes: made, written, looked up. No program in sight. -/
import Derived.Test.YtkkcnppgcnmikaaGreatDoorAbb
import Derived.Test.YtkkcnppgcnmikaaGreatDoorAbc
import Derived.MapKept
import Derived.MapFrom
import Derived.Test.YtkkcnppgcnmikaaGreatDoorAef
import Derived.Test.YtkkcnppgcnmikaaGreatDoorAbj
import Derived.Test.YtkkcnppgcnmikaaGreatDoorAdb
namespace FM
open Go Go.RowKit Go.MapKept
set_option linter.unusedVariables false
theorem strKey{k k':List UInt8}(h:Value.string ⟨k.toArray⟩=.string ⟨k'.toArray⟩):k=k':=by
 injection h with h;injection h with h
 have:=congrArg Array.toList h
 simpa using this
theorem mst_key(k:List UInt8):IsKey .string (.string ⟨k.toArray⟩):=trivial
theorem mst_keys{es:Array MapEntry}{g:List UInt8→Int}(he:∀ e∈es.toList,∃ k,e.key=.string ⟨k.toArray⟩∧e.val=.int .i64 (g k)):∀ x∈es.toList,IsKey .string x.key:=fun x hx=>by
 obtain⟨k,e,_⟩:=he x hx
 rw [e];trivial
theorem modify_eqsetT{α:Type}(f:α→α):∀ (l:List α) (j:Nat) (e:α),l[j]?=some e→l.modify j f=l.set j (f e)
 | [],_,_,h=>by simp at h
 | a::r,0,e,h=>by simp at h;subst h;simp [List.modify]
 | a::r,j+1,e,h=>by
  simp at h
  simp [List.modify_succ_cons,modify_eqsetT f r j e h]
theorem mst_upd{P:Program}{t kt et b:Nat}{g:List UInt8→Int}{w:World}(ht:P.underlying t=some (.map kt et))(hk:P.underlying kt=some .string)(hm:MapT w.heap[b]? g)(k:List UInt8)(v:Int) :
  ∃ W:World,(Instr.mapUpdate t (.map (some b)) (.string ⟨k.toArray⟩) (.int .i64 v)).run P w=.ok () W∧W.heap.size=w.heap.size∧W.os=w.os∧W.tape=w.tape∧W.output=w.output∧(∀ j,j≠b→W.heap[j]?=w.heap[j]?)∧MapT W.heap[b]? (fun j=>if j=k then v else g j):=by
 obtain⟨es,clock,hb,he,hn,hz⟩:=hm
 have hks:=mst_keys he
 rcases findNow_spec (mst_key k) es.toList 0 hks with⟨h1,h2⟩|⟨j,e0,h1,h2,h3⟩
 ·refine⟨{ w with heap:=w.heap.setIfInBounds b (.map (es.push ⟨.string ⟨k.toArray⟩,.int .i64 v,clock⟩) (clock+1)) },?_,by simp,rfl,rfl,rfl,fun j hj=>(heap_set hb).2 j hj,es.push ⟨.string ⟨k.toArray⟩,.int .i64 v,clock⟩,clock+1,(heap_set hb).1,?_,?_,?_⟩
  ·simp [Instr.mapUpdate,run_underlying ht,run_getObj_map hb,run_checkKey hk (mst_key k),run_findKey hk h1,run_setObj_map _ hb,Result.andThen]
  ·intro e hx
   simp only [Array.toList_push,List.mem_append,List.mem_singleton] at hx
   rcases hx with hx|rfl
   ·obtain⟨k',e1,e2⟩:=he e hx
    refine⟨k',e1,?_⟩
    show e.val=.int .i64 (if k'=k then v else g k')
    rw [if_neg (fun h=>h2 e hx (by rw [e1,h]))];exact e2
   ·exact⟨k,rfl,by show Value.int .i64 v=.int .i64 (if k=k then v else g k);rw [if_pos rfl]⟩
  ·simp only [Array.toList_push,List.map_append,List.map_cons,List.map_nil]
   refine List.nodup_append.2 ⟨hn,by simp,fun x hx y hy=>?_⟩
   obtain⟨e,he',rfl⟩:=List.mem_map.1 hx
   simp only [List.mem_singleton] at hy
   subst hy
   exact h2 e he'
  ·intro k' hk'
   have h4:k'≠k:=fun h=>hk' ⟨.string ⟨k.toArray⟩,.int .i64 v,clock⟩ (by simp) (by rw [h])
   simp only [if_neg h4]
   exact hz k' fun e hx=>hk' e (by simp only [Array.toList_push,List.mem_append];exact .inl hx)
 ·have hj:es[j]?=some e0:=by simpa using h2
  have hmem:e0∈es.toList:=List.mem_of_getElem? h2
  refine⟨{ w with heap:=w.heap.setIfInBounds b (.map (es.modify j fun e'=>{ e' with key:=.string ⟨k.toArray⟩,val:=.int .i64 v }) clock) },?_,by simp,rfl,rfl,rfl,fun j hj=>(heap_set hb).2 j hj,es.modify j fun e'=>{ e' with key:=.string ⟨k.toArray⟩,val:=.int .i64 v },clock,(heap_set hb).1,?_,?_,?_⟩
  ·simp [Instr.mapUpdate,run_underlying ht,run_getObj_map hb,run_checkKey hk (mst_key k),run_findKey hk h1,hj,h3,run_keyThatStays (mst_key k),run_setObj_map _ hb,Result.andThen]
  ·intro e hx
   rw [Array.toList_modify,modify_eqsetT _ _ _ _ h2] at hx
   obtain⟨i,hi,hxi⟩:=List.mem_iff_getElem.1 hx
   rw [List.getElem_set] at hxi
   split at hxi
   ·subst hxi
    exact⟨k,rfl,by show Value.int .i64 v=.int .i64 (if k=k then v else g k);rw [if_pos rfl]⟩
   ·rename_i hne
    have hi':i<es.toList.length:=by simpa using hi
    have hmi:e∈es.toList:=by rw [← hxi];exact List.getElem_mem hi'
    obtain⟨k',e1,e2⟩:=he e hmi
    refine⟨k',e1,?_⟩
    show e.val=.int .i64 (if k'=k then v else g k')
    rw [if_neg];exact e2
    intro h
    subst h
    have hn':=List.pairwise_iff_getElem.1 hn
    have hjl:j<es.toList.length:=(List.getElem?_eq_some_iff.1 h2).1
    have g1:(es.toList.map (·.key))[i]?=some (.string ⟨k'.toArray⟩):=by rw [List.getElem?_map,List.getElem?_eq_getElem hi',hxi,Option.map_some,e1]
    have g2:(es.toList.map (·.key))[j]?=some (.string ⟨k'.toArray⟩):=by rw [List.getElem?_map,h2,Option.map_some,h3]
    obtain⟨q1,g1⟩:=List.getElem?_eq_some_iff.1 g1
    obtain⟨q2,g2⟩:=List.getElem?_eq_some_iff.1 g2
    rcases Nat.lt_or_gt_of_ne hne with h|h
    ·exact hn' j i q2 q1 h (by rw [g1,g2])
    ·exact hn' i j q1 q2 h (by rw [g1,g2])
  ·rw [Array.toList_modify,modify_eqsetT _ _ _ _ h2,List.map_set]
   have:(es.toList.map (·.key)).set j (.string ⟨k.toArray⟩)=es.toList.map (·.key):=by
    refine List.ext_getElem? fun i=>?_
    rw [List.getElem?_set]
    split
    ·rename_i h;subst h
     rw [List.getElem?_map,h2,Option.map_some,h3]
     have hjl:j<es.toList.length:=(List.getElem?_eq_some_iff.1 h2).1
     rw [if_pos (by simpa using hjl)]
    ·rfl
   rw [show(({ e0 with key:=.string ⟨k.toArray⟩,val:=.int .i64 v }:MapEntry)).key=.string ⟨k.toArray⟩ from rfl,this];exact hn
  ·intro k' hk'
   rw [Array.toList_modify,modify_eqsetT _ _ _ _ h2] at hk'
   have hjl:j<es.toList.length:=(List.getElem?_eq_some_iff.1 h2).1
   have h4:k'≠k:=fun h=>hk' { e0 with key:=.string ⟨k.toArray⟩,val:=.int .i64 v } (List.mem_of_getElem? (i:=j) (by rw [List.getElem?_set,if_pos rfl,if_pos hjl])) (by rw [h])
   simp only [if_neg h4]
   refine hz k' fun e hx=>?_
   obtain⟨i,hi,hxi⟩:=List.mem_iff_getElem.1 hx
   by_cases hij:j=i
   ·subst hij
    have:e=e0:=by rw [List.getElem?_eq_getElem hi] at h2;rw [← hxi];exact Option.some.inj h2
    rw [this,h3];intro h;exact h4 (strKey h).symm
   ·exact hk' e (List.mem_of_getElem? (i:=i) (by rw [List.getElem?_set,if_neg hij,List.getElem?_eq_getElem hi,hxi]))
theorem mst_look{P:Program}{t kt et b:Nat}{g:List UInt8→Int}{w:World}(ht:P.underlying t=some (.map kt et))(hk:P.underlying kt=some .string)(hz:∀ w,(zeroValue et).run P w=.ok (.int .i64 0) w)(hm:MapT w.heap[b]? g)(k:List UInt8) :
  (Instr.lookup t (.map (some b)) (.string ⟨k.toArray⟩) false).run P w=.ok (.int .i64 (g k)) w:=by
 obtain⟨es,clock,hb,he,hn,h0⟩:=hm
 have hks:=mst_keys he
 rcases findNow_spec (mst_key k) es.toList 0 hks with⟨h1,h2⟩|⟨j,e0,h1,h2,h3⟩
 ·simp [Instr.lookup,run_underlying ht,run_getObj_map hb,run_checkKey hk (mst_key k),run_findKey hk h1,hz,Result.andThen,h0 k h2]
 ·obtain⟨k',e1,e2⟩:=he e0 (List.mem_of_getElem? h2)
  have:k'=k:=by rw [h3] at e1;exact(strKey e1).symm
  subst this
  simp [Instr.lookup,run_underlying ht,run_getObj_map hb,run_checkKey hk (mst_key k'),run_findKey hk h1,Result.andThen,e2]
section
variable {S:Sys} {N:Nat} {σ:St} {d:Nat} {ty:Nat} {pos:String} {aft:Array Edge} {g:Option (Nat×Bool)}
theorem e_mkMs{t:Nat}:EStep S ⟨some d,.makeMap t none,ty,pos,aft,g⟩ σ (σ.put d (.av (.ms true fun _=>0))):=by
 intro w0 L0 N a w hN ⟨L,hR⟩
 refine⟨.map (some w.heap.size),w.alloc (.map #[] 0),.inl ?_,hR.alloc (hN d rfl) ?_⟩
 ·simp [execOp,Instr.makeMap,Result.andThen]
 exact .msO (by simp [setL]) ⟨#[],0,(heap_alloc w _).1,by simp,by simp,fun _ _=>rfl⟩
def msAt(σ:St)(x:Operand):Option (Nat×(List UInt8→Int)):=match ov σ x with
 | .ref s=>match get σ s with
  | .av (.ms true g)=>some (s,g)
  | _=>none
 | .av (.ms true g)=>match x with
  | .tmp t=>some (t,g)
  | _=>none
 | _=>none
theorem msAt_spec{x:Operand}{s:Nat}{m:List UInt8→Int}(h:msAt σ x=some (s,m)){w0:World}{L0:Nat→Lab}{a:Act}{w:World}{L:Nat→Lab}(hR:RelL S w0 L0 N σ a w L) :
  s<N∧get σ s=.av (.ms true m)∧∃ b,a.eval x=.map (some b)∧a.tmps.getD s undef=.map (some b)∧L b=.my [s]∧MapT w.heap[b]? m:=by
 have key:∀ s,get σ s=.av (.ms true m)→s<N∧∃ b,a.tmps.getD s undef=.map (some b)∧L b=.my [s]∧MapT w.heap[b]? m:=fun s hs=>by
  have hl:s<N:=own_lt hR hs (by simp)
  have hh:=hR.hold s hl
  rw [hs] at hh
  generalize hv:a.tmps.getD s undef=v at hh
  cases hh with
  | msO hL hm=>exact⟨hl,_,rfl,hL,hm⟩
 unfold msAt at h
 split at h
 ·rename_i q hq
  split at h
  ·rename_i g' hg
   injection h with h;injection h with h1 h2
   subst h1;subst h2
   obtain⟨hl,b,e1,e2,e3⟩:=key _ hg
   refine⟨hl,hg,b,?_,e1,e2,e3⟩
   cases x with
   | tmp t =>
    simp only [ov] at hq
    have ht:=own_lt hR hq (by simp)
    have hh:=hR.hold t ht
    rw [hq] at hh
    simp only [Hold] at hh
    simp only [Act.eval]
    rw [hh];exact e1
   | const v=>simp only [ov] at hq;cases hq
   | func f=>simp only [ov] at hq;cases hq
   | global g=>simp only [ov] at hq;cases hq
  ·cases h
 ·rename_i g' hg
  split at h
  ·rename_i t
   injection h with h;injection h with h1 h2
   subst h1;subst h2
   simp only [ov] at hg
   obtain⟨hl,b,e1,e2,e3⟩:=key _ hg
   exact⟨hl,hg,b,e1,e1,e2,e3⟩
  ·cases h
 ·cases h
theorem e_msSet{t kt et s:Nat}{x k v:Operand}{m:List UInt8→Int}{i:List UInt8}{n:Int}(hx:msAt σ x=some (s,m))(ht:S.P.underlying t=some (.map kt et))(hk:S.P.underlying kt=some .string)(hi:ov σ k=.av (.str i))(hv:ov σ v=.av (.int n)) :
  EStep S ⟨none,.mapUpdate t x k v,ty,pos,aft,g⟩ σ (σ.upd false s (.av (.ms true fun j=>if j=i then n else m j))):=by
 intro w0 L0 N a w hN ⟨L,hR⟩
 obtain⟨hl,hs,b,e1,e2,hL,hm⟩:=msAt_spec hx hR
 obtain⟨W,h1,h2,h3,h4,h5,h6,h7⟩:=mst_upd ht hk hm i n
 refine⟨undef,W,.inr ⟨?_,rfl⟩,L,hR.write hl hL h2 h3 h4 h5 h6 ?_ false (fun h=>by cases h)⟩
 ·simp [execOp,e1,ev_str hR hi,ev_int hR hv,h1,Result.andThen]
 ·rw [e2];exact .msO hL h7
theorem e_msIns{t kt et s:Nat}{x k v:Operand}{m:List UInt8→Int}{i:List UInt8}{n:Int}(hx:msAt σ x=some (s,m))(ht:S.P.underlying t=some (.map kt et))(hk:S.P.underlying kt=some .string)(hi:ov σ k=.av (.str i))(hv:ov σ v=.av (.int n)) :
  EStep S ⟨none,.insert t x k v,ty,pos,aft,g⟩ σ (σ.upd false s (.av (.ms true fun j=>if j=i then n else m j))):=e_msSet (ty:=ty) (pos:=pos) (aft:=aft) (g:=g) hx ht hk hi hv
theorem s_msGet{t kt et s:Nat}{x k:Operand}{m:List UInt8→Int}{i:List UInt8}(hx:msAt σ x=some (s,m))(ht:S.P.underlying t=some (.map kt et))(hk:S.P.underlying kt=some .string)(hz:∀ w,(zeroValue et).run S.P w=.ok (.int .i64 0) w)(hi:ov σ k=.av (.str i)) :
  Step S ⟨some d,.lookup t x k false,ty,pos,aft,g⟩ σ (σ.put d (.av (.int (m i)))):=by
 refine step_val rfl fun w0 L0 N a w L hR=>?_
 obtain⟨hl,hs,b,e1,e2,hL,hm⟩:=msAt_spec hx hR
 refine⟨.int .i64 (m i),fun w' hE=>?_,.int⟩
 have hb:w'.heap[b]?=w.heap[b]?:=by
  obtain⟨es,clock,he,_⟩:=id hm
  exact hE.block _ (Array.getElem?_eq_some_iff.1 he).1
 simp [execOp,e1,ev_str hR hi,mst_look ht hk hz (by rw [hb];exact hm),Result.andThen]
end
theorem map_key(k:Int):IsKey (.int .i64) (.int .i64 k):=rfl
theorem map_keys{es:Array MapEntry}{g:Int→Int}(he:∀ e∈es.toList,∃ k,e.key=.int .i64 k∧e.val=.int .i64 (g k)):∀ x∈es.toList,IsKey (.int .i64) x.key:=fun x hx=>by
 obtain⟨k,e,_⟩:=he x hx
 rw [e];rfl
theorem modify_eqset{α:Type}(f:α→α):∀ (l:List α) (j:Nat) (e:α),l[j]?=some e→l.modify j f=l.set j (f e)
 | [],_,_,h=>by simp at h
 | a::r,0,e,h=>by simp at h;subst h;simp [List.modify]
 | a::r,j+1,e,h=>by
  simp at h
  simp [List.modify_succ_cons,modify_eqset f r j e h]
theorem map_upd{P:Program}{t kt et b:Nat}{g:Int→Int}{w:World}(ht:P.underlying t=some (.map kt et))(hk:P.underlying kt=some (.int .i64))(hm:MapB w.heap[b]? g)(k v:Int) :
  ∃ W:World,(Instr.mapUpdate t (.map (some b)) (.int .i64 k) (.int .i64 v)).run P w=.ok () W∧W.heap.size=w.heap.size∧W.os=w.os∧W.tape=w.tape∧W.output=w.output∧(∀ j,j≠b→W.heap[j]?=w.heap[j]?)∧MapB W.heap[b]? (fun j=>if j=k then v else g j):=by
 obtain⟨es,clock,hb,he,hn,hz⟩:=hm
 have hks:=map_keys he
 rcases findNow_spec (map_key k) es.toList 0 hks with⟨h1,h2⟩|⟨j,e0,h1,h2,h3⟩
 ·refine⟨{ w with heap:=w.heap.setIfInBounds b (.map (es.push ⟨.int .i64 k,.int .i64 v,clock⟩) (clock+1)) },?_,by simp,rfl,rfl,rfl,fun j hj=>(heap_set hb).2 j hj,es.push ⟨.int .i64 k,.int .i64 v,clock⟩,clock+1,(heap_set hb).1,?_,?_,?_⟩
  ·simp [Instr.mapUpdate,run_underlying ht,run_getObj_map hb,run_checkKey hk (map_key k),run_findKey hk h1,run_setObj_map _ hb,Result.andThen]
  ·intro e hx
   simp only [Array.toList_push,List.mem_append,List.mem_singleton] at hx
   rcases hx with hx|rfl
   ·obtain⟨k',e1,e2⟩:=he e hx
    refine⟨k',e1,?_⟩
    show e.val=.int .i64 (if k'=k then v else g k')
    rw [if_neg (fun h=>h2 e hx (by rw [e1,h]))];exact e2
   ·exact⟨k,rfl,by show Value.int .i64 v=.int .i64 (if k=k then v else g k);rw [if_pos rfl]⟩
  ·simp only [Array.toList_push,List.map_append,List.map_cons,List.map_nil]
   refine List.nodup_append.2 ⟨hn,by simp,fun x hx y hy=>?_⟩
   obtain⟨e,he',rfl⟩:=List.mem_map.1 hx
   simp only [List.mem_singleton] at hy
   subst hy
   exact h2 e he'
  ·intro k' hk'
   have h4:k'≠k:=fun h=>hk' ⟨.int .i64 k,.int .i64 v,clock⟩ (by simp) (by rw [h])
   simp only [if_neg h4]
   exact hz k' fun e hx=>hk' e (by simp only [Array.toList_push,List.mem_append];exact .inl hx)
 ·have hj:es[j]?=some e0:=by simpa using h2
  have hmem:e0∈es.toList:=List.mem_of_getElem? h2
  refine⟨{ w with heap:=w.heap.setIfInBounds b (.map (es.modify j fun e'=>{ e' with key:=.int .i64 k,val:=.int .i64 v }) clock) },?_,by simp,rfl,rfl,rfl,fun j hj=>(heap_set hb).2 j hj,es.modify j fun e'=>{ e' with key:=.int .i64 k,val:=.int .i64 v },clock,(heap_set hb).1,?_,?_,?_⟩
  ·simp [Instr.mapUpdate,run_underlying ht,run_getObj_map hb,run_checkKey hk (map_key k),run_findKey hk h1,hj,h3,run_keyThatStays (map_key k),run_setObj_map _ hb,Result.andThen]
  ·intro e hx
   rw [Array.toList_modify,modify_eqset _ _ _ _ h2] at hx
   obtain⟨i,hi,hxi⟩:=List.mem_iff_getElem.1 hx
   rw [List.getElem_set] at hxi
   split at hxi
   ·subst hxi
    exact⟨k,rfl,by show Value.int .i64 v=.int .i64 (if k=k then v else g k);rw [if_pos rfl]⟩
   ·rename_i hne
    have hi':i<es.toList.length:=by simpa using hi
    have hmi:e∈es.toList:=by rw [← hxi];exact List.getElem_mem hi'
    obtain⟨k',e1,e2⟩:=he e hmi
    refine⟨k',e1,?_⟩
    show e.val=.int .i64 (if k'=k then v else g k')
    rw [if_neg];exact e2
    intro h
    subst h
    have hn':=List.pairwise_iff_getElem.1 hn
    have hjl:j<es.toList.length:=(List.getElem?_eq_some_iff.1 h2).1
    have g1:(es.toList.map (·.key))[i]?=some (.int .i64 k'):=by rw [List.getElem?_map,List.getElem?_eq_getElem hi',hxi,Option.map_some,e1]
    have g2:(es.toList.map (·.key))[j]?=some (.int .i64 k'):=by rw [List.getElem?_map,h2,Option.map_some,h3]
    obtain⟨q1,g1⟩:=List.getElem?_eq_some_iff.1 g1
    obtain⟨q2,g2⟩:=List.getElem?_eq_some_iff.1 g2
    rcases Nat.lt_or_gt_of_ne hne with h|h
    ·exact hn' j i q2 q1 h (by rw [g1,g2])
    ·exact hn' i j q1 q2 h (by rw [g1,g2])
  ·rw [Array.toList_modify,modify_eqset _ _ _ _ h2,List.map_set]
   have:(es.toList.map (·.key)).set j (.int .i64 k)=es.toList.map (·.key):=by
    refine List.ext_getElem? fun i=>?_
    rw [List.getElem?_set]
    split
    ·rename_i h;subst h
     rw [List.getElem?_map,h2,Option.map_some,h3]
     have hjl:j<es.toList.length:=(List.getElem?_eq_some_iff.1 h2).1
     rw [if_pos (by simpa using hjl)]
    ·rfl
   rw [show(({ e0 with key:=.int .i64 k,val:=.int .i64 v }:MapEntry)).key=.int .i64 k from rfl,this];exact hn
  ·intro k' hk'
   rw [Array.toList_modify,modify_eqset _ _ _ _ h2] at hk'
   have hjl:j<es.toList.length:=(List.getElem?_eq_some_iff.1 h2).1
   have h4:k'≠k:=fun h=>hk' { e0 with key:=.int .i64 k,val:=.int .i64 v } (List.mem_of_getElem? (i:=j) (by rw [List.getElem?_set,if_pos rfl,if_pos hjl])) (by rw [h])
   simp only [if_neg h4]
   refine hz k' fun e hx=>?_
   obtain⟨i,hi,hxi⟩:=List.mem_iff_getElem.1 hx
   by_cases hij:j=i
   ·subst hij
    have:e=e0:=by rw [List.getElem?_eq_getElem hi] at h2;rw [← hxi];exact Option.some.inj h2
    rw [this,h3];intro h;exact h4 (by injection h with _ h;exact h.symm)
   ·exact hk' e (List.mem_of_getElem? (i:=i) (by rw [List.getElem?_set,if_neg hij,List.getElem?_eq_getElem hi,hxi]))
theorem map_look{P:Program}{t kt et b:Nat}{g:Int→Int}{w:World}(ht:P.underlying t=some (.map kt et))(hk:P.underlying kt=some (.int .i64))(hz:∀ w,(zeroValue et).run P w=.ok (.int .i64 0) w)(hm:MapB w.heap[b]? g)(k:Int) :
  (Instr.lookup t (.map (some b)) (.int .i64 k) false).run P w=.ok (.int .i64 (g k)) w:=by
 obtain⟨es,clock,hb,he,hn,h0⟩:=hm
 have hks:=map_keys he
 rcases findNow_spec (map_key k) es.toList 0 hks with⟨h1,h2⟩|⟨j,e0,h1,h2,h3⟩
 ·simp [Instr.lookup,run_underlying ht,run_getObj_map hb,run_checkKey hk (map_key k),run_findKey hk h1,hz,Result.andThen,h0 k h2]
 ·obtain⟨k',e1,e2⟩:=he e0 (List.mem_of_getElem? h2)
  have:k'=k:=by rw [h3] at e1;injection e1 with _ e;exact e.symm
  subst this
  simp [Instr.lookup,run_underlying ht,run_getObj_map hb,run_checkKey hk (map_key k'),run_findKey hk h1,Result.andThen,e2]
section
variable {S:Sys} {N:Nat} {σ:St} {d:Nat} {ty:Nat} {pos:String} {aft:Array Edge} {g:Option (Nat×Bool)}
theorem e_mkMap{t:Nat}:EStep S ⟨some d,.makeMap t none,ty,pos,aft,g⟩ σ (σ.put d (.av (.mp true fun _=>0))):=by
 intro w0 L0 N a w hN ⟨L,hR⟩
 refine⟨.map (some w.heap.size),w.alloc (.map #[] 0),.inl ?_,hR.alloc (hN d rfl) ?_⟩
 ·simp [execOp,Instr.makeMap,Result.andThen]
 exact .mpO (by simp [setL]) ⟨#[],0,(heap_alloc w _).1,by simp,by simp,fun _ _=>rfl⟩
def mpAt(σ:St)(x:Operand):Option (Nat×(Int→Int)):=match ov σ x with
 | .ref s=>match get σ s with
  | .av (.mp true g)=>some (s,g)
  | _=>none
 | .av (.mp true g)=>match x with
  | .tmp t=>some (t,g)
  | _=>none
 | _=>none
theorem mpAt_spec{x:Operand}{s:Nat}{m:Int→Int}(h:mpAt σ x=some (s,m)){w0:World}{L0:Nat→Lab}{a:Act}{w:World}{L:Nat→Lab}(hR:RelL S w0 L0 N σ a w L) :
  s<N∧get σ s=.av (.mp true m)∧∃ b,a.eval x=.map (some b)∧a.tmps.getD s undef=.map (some b)∧L b=.my [s]∧MapB w.heap[b]? m:=by
 have key:∀ s,get σ s=.av (.mp true m)→s<N∧∃ b,a.tmps.getD s undef=.map (some b)∧L b=.my [s]∧MapB w.heap[b]? m:=fun s hs=>by
  have hl:s<N:=own_lt hR hs (by simp)
  have hh:=hR.hold s hl
  rw [hs] at hh
  generalize hv:a.tmps.getD s undef=v at hh
  cases hh with
  | mpO hL hm=>exact⟨hl,_,rfl,hL,hm⟩
 unfold mpAt at h
 split at h
 ·rename_i q hq
  split at h
  ·rename_i g' hg
   injection h with h;injection h with h1 h2
   subst h1;subst h2
   obtain⟨hl,b,e1,e2,e3⟩:=key _ hg
   refine⟨hl,hg,b,?_,e1,e2,e3⟩
   cases x with
   | tmp t =>
    simp only [ov] at hq
    have ht:=own_lt hR hq (by simp)
    have hh:=hR.hold t ht
    rw [hq] at hh
    simp only [Hold] at hh
    simp only [Act.eval]
    rw [hh];exact e1
   | const v=>simp only [ov] at hq;cases hq
   | func f=>simp only [ov] at hq;cases hq
   | global g=>simp only [ov] at hq;cases hq
  ·cases h
 ·rename_i g' hg
  split at h
  ·rename_i t
   injection h with h;injection h with h1 h2
   subst h1;subst h2
   simp only [ov] at hg
   obtain⟨hl,b,e1,e2,e3⟩:=key _ hg
   exact⟨hl,hg,b,e1,e1,e2,e3⟩
  ·cases h
 ·cases h
theorem e_mpSet{t kt et s:Nat}{x k v:Operand}{m:Int→Int}{i n:Int}(hx:mpAt σ x=some (s,m))(ht:S.P.underlying t=some (.map kt et))(hk:S.P.underlying kt=some (.int .i64))(hi:ov σ k=.av (.int i))(hv:ov σ v=.av (.int n)) :
  EStep S ⟨none,.mapUpdate t x k v,ty,pos,aft,g⟩ σ (σ.upd false s (.av (.mp true fun j=>if j=i then n else m j))):=by
 intro w0 L0 N a w hN ⟨L,hR⟩
 obtain⟨hl,hs,b,e1,e2,hL,hm⟩:=mpAt_spec hx hR
 obtain⟨W,h1,h2,h3,h4,h5,h6,h7⟩:=map_upd ht hk hm i n
 refine⟨undef,W,.inr ⟨?_,rfl⟩,L,hR.write hl hL h2 h3 h4 h5 h6 ?_ false (fun h=>by cases h)⟩
 ·simp [execOp,e1,ev_int hR hi,ev_int hR hv,h1,Result.andThen]
 ·rw [e2];exact .mpO hL h7
theorem s_mpGet{t kt et s:Nat}{x k:Operand}{m:Int→Int}{i:Int}(hx:mpAt σ x=some (s,m))(ht:S.P.underlying t=some (.map kt et))(hk:S.P.underlying kt=some (.int .i64))(hz:∀ w,(zeroValue et).run S.P w=.ok (.int .i64 0) w)(hi:ov σ k=.av (.int i)) :
  Step S ⟨some d,.lookup t x k false,ty,pos,aft,g⟩ σ (σ.put d (.av (.int (m i)))):=by
 refine step_val rfl fun w0 L0 N a w L hR=>?_
 obtain⟨hl,hs,b,e1,e2,hL,hm⟩:=mpAt_spec hx hR
 refine⟨.int .i64 (m i),fun w' hE=>?_,.int⟩
 have hb:w'.heap[b]?=w.heap[b]?:=by
  obtain⟨es,clock,he,_⟩:=id hm
  exact hE.block _ (Array.getElem?_eq_some_iff.1 he).1
 simp [execOp,e1,ev_int hR hi,map_look ht hk hz (by rw [hb];exact hm),Result.andThen]
end
end FM
namespace FM
open Go Go.RowKit
set_option linter.all false
section
variable {S:Sys} {N:Nat} {σ:St} {d:Nat} {ty:Nat} {pos:String} {aft:Array Edge} {g:Option (Nat×Bool)}
theorem e_mpIns{t kt et s:Nat}{x k v:Operand}{m:Int→Int}{i n:Int}(hx:mpAt σ x=some (s,m))(ht:S.P.underlying t=some (.map kt et))(hk:S.P.underlying kt=some (.int .i64))(hi:ov σ k=.av (.int i))(hv:ov σ v=.av (.int n)) :
  EStep S ⟨none,.insert t x k v,ty,pos,aft,g⟩ σ (σ.upd false s (.av (.mp true fun j=>if j=i then n else m j))):=e_mpSet (ty:=ty) (pos:=pos) (aft:=aft) (g:=g) hx ht hk hi hv
theorem s_msGetE{t kt et s:Nat}{x k:Operand}{m:List UInt8→Int}{i:List UInt8}{n:Int}(hx:msAt σ x=some (s,m))(ht:S.P.underlying t=some (.map kt et))(hk:S.P.underlying kt=some .string)(hz:∀ w,(zeroValue et).run S.P w=.ok (.int .i64 0) w)(hi:ov σ k=.av (.str i))(hv:m i=n) :
  Step S ⟨some d,.lookup t x k false,ty,pos,aft,g⟩ σ (σ.put d (.av (.int n))):=hv▸s_msGet hx ht hk hz hi
theorem s_mpGetE{t kt et s:Nat}{x k:Operand}{m:Int→Int}{i n:Int}(hx:mpAt σ x=some (s,m))(ht:S.P.underlying t=some (.map kt et))(hk:S.P.underlying kt=some (.int .i64))(hz:∀ w,(zeroValue et).run S.P w=.ok (.int .i64 0) w)(hi:ov σ k=.av (.int i))(hv:m i=n) :
  Step S ⟨some d,.lookup t x k false,ty,pos,aft,g⟩ σ (σ.put d (.av (.int n))):=hv▸s_mpGet hx ht hk hz hi
theorem e_stTl{t s o:Nat}{ti:TI}{x v:Operand}{y0:AV}{cs zs:List AV}(hx:ov σ x=.fpt s o y0)(hs:FM.get σ s=.av (.pt true cs))(hT:S.T t=some ti)(hv:ov σ v=.av (.agg zs))(hok:(AV.agg zs).varOk=true)(hc2:Nat.beq ti.size zs.length=true)(hl:Nat.beq (o+zs.length) cs.length=true) :
  EStep S ⟨none,.store t x v,ty,pos,aft,g⟩ σ (σ.upd false s (.av (.pt true (cs.take o++zs)))):=by
 intro w0 L0 N a w _ ⟨L,hR⟩
 have hc3:=Nat.eq_of_beq_eq_true hc2
 have hl3:=Nat.eq_of_beq_eq_true hl
 obtain⟨_,⟨b,hL,hp,_⟩,_⟩:=hold_plain hR hx (by simp)
 have hsN:=own_lt hR hs (by simp)
 have hh:=hR.hold s hsN
 rw [hs] at hh
 simp only [Hold] at hh
 obtain⟨v1,v2,v3⟩:=val_cells hR hv rfl hok
 have hto:(cs.take o).length=o:=by rw [List.length_take];omega
 obtain⟨W,hrun,hsz,ho',ht,hu,hother,hrep⟩:=pt_core hT (off:=o) (zs:=zs) (cs':=cs.take o++zs) hL hR.lok.inj hh (by omega) (by rw [hc3]) v1 v2 v3 (by rw [List.length_append,hto,hl3]) (fun j y hy=>by
  rw [List.getElem?_append] at hy
  rw [hto] at hy
  split at hy
  ·rename_i hj
   rw [List.getElem?_take_of_lt hj] at hy
   exact .inr ⟨by omega,hy⟩
  ·rename_i hj
   have:=(List.getElem?_eq_some_iff.1 hy).1
   exact .inl ⟨by omega,by omega,hy⟩)
 exact⟨undef,W,.inr ⟨by simp only [execOp,hp,Sem.run_bind,hrun];rfl,rfl⟩,L,hR.write (b:=b) (q0:=[]) hsN hL hsz ho' ht hu hother hrep false (fun h=>by cases h)⟩
theorem s_minE{ts:Array Nat}{x y:Operand}{a b c:Int}(hx:ov σ x=.av (.int a))(hy:ov σ y=.av (.int b))(hc:min a b=c):Step S ⟨some d,.call ⟨.builtin .min,#[x,y],ts⟩,ty,pos,aft,g⟩ σ (σ.put d (.av (.int c))):=hc▸s_min hx hy
end
end FM
namespace Go.Proofs.YtkkcnppgcnmikaaGreatDoor
open Go FM Go.Proofs
set_option maxRecDepth 10000
set_option maxHeartbeats 6400000
set_option linter.all false
section
variable {S:FM.Sys} {N:Nat} {σ:FM.St} {d:Nat} {ty:Nat} {pos:String} {aft:Array Edge} {g:Option (Nat×Bool)} {s:Nat} {x k v:Operand} {n:Int}
theorem rA(_:S.P=Tryz.prog):EStep S ⟨some d,.makeMap 152 none,ty,pos,aft,g⟩ σ (σ.put d (.av (.ms true fun _=>0))):=e_mkMs
theorem rB{m:Str→Int}{i:Str}(h:S.P=Tryz.prog)(hx:msAt σ x=some (s,m))(hi:ov σ k=.av (.str i))(hv:ov σ v=.av (.int n)):EStep S ⟨none,.insert 152 x k v,ty,pos,aft,g⟩ σ (σ.upd false s (.av (.ms true fun j=>if j=i then n else m j))):=e_msIns hx (h▸Tryz.underlying152) (h▸Tryz.underlying9) hi hv
theorem rC{m:Str→Int}{i:Str}(hv:m i=n)(h:S.P=Tryz.prog)(hx:msAt σ x=some (s,m))(hi:ov σ k=.av (.str i)):Step S ⟨some d,.lookup 152 x k false,ty,pos,aft,g⟩ σ (σ.put d (.av (.int n))):=s_msGetE hx (h▸Tryz.underlying152) (h▸Tryz.underlying9) (h▸fun w=>Tryz.zeroValue3 w) hi hv
theorem rD(_:S.P=Tryz.prog):EStep S ⟨some d,.makeMap 153 none,ty,pos,aft,g⟩ σ (σ.put d (.av (.mp true fun _=>0))):=e_mkMap
theorem rE{m:Int→Int}{i:Int}(h:S.P=Tryz.prog)(hx:mpAt σ x=some (s,m))(hi:ov σ k=.av (.int i))(hv:ov σ v=.av (.int n)):EStep S ⟨none,.insert 153 x k v,ty,pos,aft,g⟩ σ (σ.upd false s (.av (.mp true fun j=>if j=i then n else m j))):=e_mpIns hx (h▸Tryz.underlying153) (h▸Tryz.underlying3) hi hv
theorem rF{m:Int→Int}{i:Int}(hv:m i=n)(h:S.P=Tryz.prog)(hx:mpAt σ x=some (s,m))(hi:ov σ k=.av (.int i)):Step S ⟨some d,.lookup 153 x k false,ty,pos,aft,g⟩ σ (σ.put d (.av (.int n))):=s_mpGetE hx (h▸Tryz.underlying153) (h▸Tryz.underlying3) (h▸fun w=>Tryz.zeroValue3 w) hi hv
end
def kdF(w:Str):Int:=if w=[100,114,111,112] then 7 else if w=[109,111,110,101,121] then 6 else if w=[99,114,97,115,104] then 5 else if w=[115,121,110,99] then 4 else if w=[98,117,105,108,100] then 3 else if w=[111,102,102,101,114] then 2 else if w=[111,112,101,110] then 1 else 0
def nmF(k:Int):Int:=if k=7 then 1 else if k=6 then 1 else if k=3 then 1 else if k=2 then 2 else if k=1 then 1 else 0
def lnF(k:Int):Int:=if k=7 then 2 else if k=6 then 1 else if k=5 then 1 else if k=3 then 2 else if k=2 then 6 else if k=1 then 2 else 0
section
variable (A:List Ac) (O:List Dl) (k:Str) (n:Int) (A':List Ac) (O':List Dl) (k':Str) (n':Int)
theorem ao_none(line:Str)(hl:line.length≤5000)  (hw:Xf.wg [] line=[]):FnSpec Sy.P 53 [hsR A O k n,.str line] [hsR A O k n,.str line] (.tup [hsR A O k n,.str (rfS 12)]):=by
 have hW:=ffn_spec line hl
 rw [hw] at hW
 have hR:=refusal_spec 12 (by decide)
 refine enT Tryz.func53 Tryz.ntmps53 fun v0=>?_
 repeat' first|((with_reducible refine w9i ?_);first|refine w9J2 3 0 1 ?_ ?_|refine w9J1 2 0 ?_|refine w9J1 2 1 ?_|refine w9J1 1 2 ?_|refine w9Jt 0 3 ?_|refine w9J0 ?_)|(refine J.freezeO 6 rfl rfl (sh_map (g:=AV.str) (fun _=>rfl)) rfl ?_)|refine w9U 0 4 ?_|refine w9x ?_|refine w9p (hW) ?_|refine w9p (hR) ?_|fail
 all_goals exact w9e
theorem ao_bad0(line:Str)(hl:line.length≤5000)(w:Str)  (l:List Str)(hw:Xf.wg [] line=w::l)(K NM:Int)(hK:kdF w=K)(hN:nmF K=NM)(hM:min NM ((((w::l).length:Nat):Int)-1)=0)(hll:l.length≤10000)(hb:l.all nuB=false)(hs:∀ s∈l,s.length≤9223372036854775807):FnSpec Sy.P 53 [hsR A O k n,.str line] [hsR A O k n,.str line] (.tup [hsR A O k n,.str (rfS 12)]):=by
 have hW:=ffn_spec line hl
 rw [hw] at hW
 have hwc:(w::l).length=l.length+1:=rfl
 have hwl:(w::l).length≤10010:=by omega
 have hR:=refusal_spec 12 (by decide)
 have hD:=digits_no l hb (by omega) hs
 refine enT Tryz.func53 Tryz.ntmps53 fun v0=>?_
 repeat' first|(refine J.freezeO 6 rfl rfl (sh_map (g:=AV.str) (fun _=>rfl)) rfl ?_)|refine w9x ?_|refine w9p (hW) ?_|fail
 repeat' first|(refine CW.cut (c:=.region 4 _ _) [(2,.av (.pt true (hsR A O k n).cells)),(4,.av (.pt true [.nil,.nil,.str [],.int 0])),(6,.av (swS (w::l))),(7,.av (.int (K)))] ?_ ?_)|exact w9g|(refine CW.cut (c:=.region 5 _ _) [(2,.av (.pt true (hsR A O k n).cells)),(4,.av (.pt true [.nil,.nil,.str [],.int 0])),(6,.av (swS (w::l))),(7,.av (.int (K))),(8,.av (.int (0)))] ?_ ?_)|exact w9g|((with_reducible apply J.step);rfl;((with_reducible apply(rC hK))<;>rfl))|refine w9E @rA ?_|refine w9E @rB ?_|refine w9x ?_|fail
 all_goals repeat' first|exact w9g|((with_reducible apply J.step);rfl;((with_reducible apply(rF hN))<;>rfl))|((with_reducible apply J.step);rfl;((with_reducible apply(s_minE (hc:=hM)))<;>rfl))|refine w9E @rD ?_|refine w9E @rE ?_|refine w9x ?_|fail
 all_goals repeat' first|((with_reducible refine w9i ?_);first|refine w9J2 3 0 1 ?_ ?_|refine w9J1 2 0 ?_|refine w9J1 2 1 ?_|refine w9J1 1 2 ?_|refine w9Jt 0 3 ?_|refine w9J0 ?_)|refine w9U 0 4 ?_|refine w9x ?_|refine w9p (hD) ?_|refine w9p (hR) ?_|fail
 all_goals exact w9e
theorem ao_bad1(line:Str)(hl:line.length≤5000)(w:Str)(a:Str)(l:List Str)(hw:Xf.wg [] line=w::a::l)(K NM:Int)(hK:kdF w=K)(hN:nmF K=NM)(hM:min NM ((((w::a::l).length:Nat):Int)-1)=1)(hll:l.length≤10000)(hb:l.all nuB=false)(hs:∀ s∈l,s.length≤9223372036854775807):FnSpec Sy.P 53 [hsR A O k n,.str line] [hsR A O k n,.str line] (.tup [hsR A O k n,.str (rfS 12)]):=by
 have hW:=ffn_spec line hl
 rw [hw] at hW
 have hwc:(w::a::l).length=l.length+2:=rfl
 have hwl:(w::a::l).length≤10010:=by omega
 have hR:=refusal_spec 12 (by decide)
 have hD:=digits_no l hb (by omega) hs
 refine enT Tryz.func53 Tryz.ntmps53 fun v0=>?_
 repeat' first|(refine J.freezeO 6 rfl rfl (sh_map (g:=AV.str) (fun _=>rfl)) rfl ?_)|refine w9x ?_|refine w9p (hW) ?_|fail
 repeat' first|(refine CW.cut (c:=.region 4 _ _) [(2,.av (.pt true (hsR A O k n).cells)),(4,.av (.pt true [.nil,.nil,.str [],.int 0])),(6,.av (swS (w::a::l))),(7,.av (.int (K)))] ?_ ?_)|exact w9g|(refine CW.cut (c:=.region 5 _ _) [(2,.av (.pt true (hsR A O k n).cells)),(4,.av (.pt true [.nil,.nil,.str [],.int 0])),(6,.av (swS (w::a::l))),(7,.av (.int (K))),(8,.av (.int (1)))] ?_ ?_)|exact w9g|((with_reducible apply J.step);rfl;((with_reducible apply(rC hK))<;>rfl))|refine w9E @rA ?_|refine w9E @rB ?_|refine w9x ?_|fail
 all_goals repeat' first|exact w9g|((with_reducible apply J.step);rfl;((with_reducible apply(rF hN))<;>rfl))|((with_reducible apply J.step);rfl;((with_reducible apply(s_minE (hc:=hM)))<;>rfl))|refine w9E @rD ?_|refine w9E @rE ?_|refine w9x ?_|fail
 all_goals repeat' first|((with_reducible refine w9i ?_);first|refine w9J2 3 0 1 ?_ ?_|refine w9J1 2 0 ?_|refine w9J1 2 1 ?_|refine w9J1 1 2 ?_|refine w9Jt 0 3 ?_|refine w9J0 ?_)|refine w9U 0 4 ?_|refine w9x ?_|refine w9p (hD) ?_|refine w9p (hR) ?_|fail
 all_goals exact w9e
theorem ao_bad2(line:Str)(hl:line.length≤5000)(w:Str)(a b:Str)(l:List Str)(hw:Xf.wg [] line=w::a::b::l)(K NM:Int)(hK:kdF w=K)(hN:nmF K=NM)(hM:min NM ((((w::a::b::l).length:Nat):Int)-1)=2)(hll:l.length≤10000)(hb:l.all nuB=false)(hs:∀ s∈l,s.length≤9223372036854775807):FnSpec Sy.P 53 [hsR A O k n,.str line] [hsR A O k n,.str line] (.tup [hsR A O k n,.str (rfS 12)]):=by
 have hW:=ffn_spec line hl
 rw [hw] at hW
 have hwc:(w::a::b::l).length=l.length+3:=rfl
 have hwl:(w::a::b::l).length≤10010:=by omega
 have hR:=refusal_spec 12 (by decide)
 have hD:=digits_no l hb (by omega) hs
 refine enT Tryz.func53 Tryz.ntmps53 fun v0=>?_
 repeat' first|(refine J.freezeO 6 rfl rfl (sh_map (g:=AV.str) (fun _=>rfl)) rfl ?_)|refine w9x ?_|refine w9p (hW) ?_|fail
 repeat' first|(refine CW.cut (c:=.region 4 _ _) [(2,.av (.pt true (hsR A O k n).cells)),(4,.av (.pt true [.nil,.nil,.str [],.int 0])),(6,.av (swS (w::a::b::l))),(7,.av (.int (K)))] ?_ ?_)|exact w9g|(refine CW.cut (c:=.region 5 _ _) [(2,.av (.pt true (hsR A O k n).cells)),(4,.av (.pt true [.nil,.nil,.str [],.int 0])),(6,.av (swS (w::a::b::l))),(7,.av (.int (K))),(8,.av (.int (2)))] ?_ ?_)|exact w9g|((with_reducible apply J.step);rfl;((with_reducible apply(rC hK))<;>rfl))|refine w9E @rA ?_|refine w9E @rB ?_|refine w9x ?_|fail
 all_goals repeat' first|exact w9g|((with_reducible apply J.step);rfl;((with_reducible apply(rF hN))<;>rfl))|((with_reducible apply J.step);rfl;((with_reducible apply(s_minE (hc:=hM)))<;>rfl))|refine w9E @rD ?_|refine w9E @rE ?_|refine w9x ?_|fail
 all_goals repeat' first|((with_reducible refine w9i ?_);first|refine w9J2 3 0 1 ?_ ?_|refine w9J1 2 0 ?_|refine w9J1 2 1 ?_|refine w9J1 1 2 ?_|refine w9Jt 0 3 ?_|refine w9J0 ?_)|refine w9U 0 4 ?_|refine w9x ?_|refine w9p (hD) ?_|refine w9p (hR) ?_|fail
 all_goals exact w9e
end
end Go.Proofs.YtkkcnppgcnmikaaGreatDoor
