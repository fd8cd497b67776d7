/- The tail of a row that a slot owns is cleared. No program in sight. -/
import Derived.Test.YtkkcnppgcnmikaaGreatDoorAbe
import Derived.Test.YtkkcnppgcnmikaaGreatDoorAba
import Derived.Test.YtkkcnppgcnmikaaGreatDoorAci
import Derived.Lib.SliceRun
import Derived.Test.YtkkcnppgcnmikaaGreatDoorAce
import Derived.Test.YtkkcnppgcnmikaaGreatDoorAcd
import Derived.Test.YtkkcnppgcnmikaaGreatDoorAch
import Derived.Test.YtkkcnppgcnmikaaGreatDoorAcb
import Derived.Test.YtkkcnppgcnmikaaGreatDoorAcf
namespace FM
open Go Go.RowKit
set_option linter.all false
def deadE(c:Nat):AV:=.agg (List.replicate c .dead)
theorem run_sliceLo{P:Program}{t e:Nat}(ht:P.underlying t=some (.slice e)){f:TypeInfo}(hf:P.info? e=some f){a:Addr}{len cap n:Nat}(hn:n≤len)(w:World) :
  (Instr.sliceAt t (.slice (some a) len cap) (some (.int .i64 (n:Nat))) none none).run P w=.ok (.slice (if cap=n then some a else some (a.add (n*f.size))) (len-n) (cap-n)) w:=by
 have e1:∀ (x:Nat) (y:Nat) (code:BoundsCode),x≤y→(Instr.sliceBound (.int .i64 (x:Nat)) y code).run P w=.ok x w:=fun x y code hxy=>by
  have:(0:Int)≤(x:Int)∧(x:Int)≤(y:Int):=by omega
  simp [Instr.sliceBound,asIntOf,this,hxy]
 have hb:(Instr.sliceBounds true len cap (some (.int .i64 (n:Nat))) none none).run P w=.ok (n,len,cap) w:=by
  simp [Instr.sliceBounds,e1 n len .sliceB hn]
 simp [Instr.sliceAt,Instr.slice,run_underlying ht,hb,Go.sizeOf,typeInfo,hf]
theorem J.clr{S:Sys}{N:Nat}{σ:St}{t e c sz by_:Nat}{z0:List AV}{ti:TI}{x b:Operand}{s d n:Nat}{xs:List AV}{ops:Array Oper}{l:List Oper}{K:St→Prop}{ty ty2:Nat}{pos pos2:String}{aft aft2:Array Edge}
  (hx:ov σ x=.ref s) (hs:get σ s=.av (.sl true c xs)) (hb:ov σ b=.av (.int (n:Nat))) (hn:n≤xs.length) (hne:xs≠[]) (hT:S.T t=some ⟨.slice e,sz,by_,z0⟩) (hE:S.T e=some ti) (hc:ti.size=c) (hsd:Nat.beq s d=false) (h1:((ti.zero.map AV.toV).all fun v=>v.oneCell')=true)
  (h:J false S N ops l K ((σ.put d (.av .dead)).upd false s (.av (.sl true c (xs.take n++List.replicate (xs.length-n) (deadE c)))))) :
  J false S N ops (⟨some d,.slice t x (some b) none none,ty,pos,aft,none⟩::⟨none,.call ⟨.builtin .clear,#[.tmp d],#[t]⟩,ty2,pos2,aft2,none⟩::l) K σ:=by
 unfold J at *
 intro hdo w0 L0 Q a w hQ ⟨L,hR⟩
 obtain⟨hd1,hdo2⟩:=dstOk_cons hdo
 obtain⟨_,hd2⟩:=dstOk_cons hdo2
 have hd:=hd1 d rfl
 have hsN:=own_lt hR hs (by simp)
 have hh:=hR.hold s hsN
 rw [hs] at hh
 simp only [Hold] at hh
 obtain⟨m,hm,_⟩:=hold_plain hR hx (by simp)
 simp only [Hold] at hm
 obtain⟨n2,hb2⟩:=ev_av hR hb
 generalize hbv:a.eval b=bv at hb2
 cases hb2
 obtain⟨f,zv,hf1,hf2,hf3,hf4,hf5,hf6,hf7⟩:=(S.ok e _ hE).info
 have hfc:f.size=c:=by rw [← hc];exact hf2
 have hzc:zv.cells.size=c:=by rw [← hc];exact hf7
 have hu:=(S.ok t _ hT).slice
 generalize hsv:a.tmps.getD s undef=sv at hh hm
 cases hh with
 | slE h=>exact absurd rfl hne
 | @slO p _ _ blk cap arr ee u hL hblk hcap hsz hcx hcell hr =>
  have hrun1:=run_sliceLo (P:=S.P) hu hf1 (a:=⟨blk,0,none⟩) (len:=xs.length) (cap:=cap) hn w
  have hop1:(execOp a.eval (⟨some d,.slice t x (some b) none none,ty,pos,aft,none⟩:Oper)).run S.P w=.ok (.value (.slice (if cap=n then some ⟨blk,0,none⟩ else some ((⟨blk,0,none⟩:Addr).add (n*f.size))) (xs.length-n) (cap-n))) w:=by
   simp only [execOp,Option.map_none,Option.map_some,Sem.run_bind,hm,hbv,hrun1,Result.andThen_ok,Sem.run_pure]
  generalize hv1:Value.slice (if cap=n then some ⟨blk,0,none⟩ else some ((⟨blk,0,none⟩:Addr).add (n*f.size))) (xs.length-n) (cap-n)=v1 at hop1
  simp only [wpList,if_true,Region.wanted]
  refine .inl ?_
  unfold Oper.wp
  rw [hop1]
  have hR1:RelL S w0 L0 N (σ.put d (.av .dead)) (a.put (some d) v1) w (FM.clear d L):=hR.put hd .dead
  have hsd':d≠s:=fun e=>by subst e;rw [Nat.beq_refl] at hsd;cases hsd
  have hL1:FM.clear d L blk=.my [s]:=by
   unfold FM.clear
   rw [hL]
   simp [Lab.without,hsd]
  have hsv1:(a.put (some d) v1).tmps.getD s undef=.slice (some ⟨blk,0,none⟩) xs.length cap:=(getD_set_other hsd').trans hsv
  have he2:(a.put (some d) v1).eval (.tmp d)=v1:=getD_set_same (by rw [hR.size];exact hd.lt)
  have hlen:(xs.take n++List.replicate (xs.length-n) (deadE c)).length=xs.length:=by rw [List.length_append,List.length_take,List.length_replicate];omega
  have hcx':∀ y∈xs.take n++List.replicate (xs.length-n) (deadE c),y.cells.length=c:=fun y hy=>by
   rcases List.mem_append.1 hy with hy|hy
   ·exact hcx y (List.mem_of_mem_take hy)
   ·rw [List.eq_of_mem_replicate hy];exact List.length_replicate
  -- what is read behind it, wherever the row's first cells are as they were
  have fin:∀ (W:World) (A:Array Value),W.heap[blk]?=some (.cells A ee (0,0))→A.size=arr.size→(∀ j,j<n*c→A[j]?=arr[j]?)→W.heap.size=w.heap.size→(∀ k,k≠blk→W.heap[k]?=w.heap[k]?)→W.os=w.os→W.tape=w.tape→W.output=w.output →
    wpList S.P ops Q l (a.put (some d) v1) W:=fun W A hA hAs hAj hWs hWk hWo hWt hWu=>by
   refine h hd2 w0 L0 Q _ W hQ ⟨_,hR1.write (b:=blk) (q0:=[]) hsN hL1 hWs hWo hWt hWu hWk ?_ false (fun h=>by cases h)⟩
   rw [hsv1]
   suffices key:Rep (FM.clear d L) W (some [s]) (.sl true c (xs.take n++List.replicate (xs.length-n) (deadE c))) (.slice (some ⟨blk,0,none⟩) (xs.take n++List.replicate (xs.length-n) (deadE c)).length cap) by rw [hlen] at key;exact key
   refine .slO (fun o=>(A[o]?).getD undef) hL1 hA (by rw [hlen];exact hcap) (by rw [hAs,hsz]) hcx' (fun o ho=>?_) fun o y hy=>?_
   ·have:o<A.size:=by rw [hAs,hsz];rw [hlen] at ho;exact Nat.lt_of_lt_of_le ho (Nat.mul_le_mul_right _ hcap)
    rw [Array.getElem?_eq_getElem this];rfl
   ·rw [flat_append] at hy
    have htl:(flat (xs.take n)).length=n*c:=by rw [flat_length (fun y hy=>hcx y (List.mem_of_mem_take hy)),List.length_take,Nat.min_eq_left hn]
    by_cases ho:o<n*c
    ·rw [List.getElem?_append_left (by omega)] at hy
     have hol:o<xs.length*c:=Nat.lt_of_lt_of_le ho (Nat.mul_le_mul_right _ hn)
     rw [hAj o ho,hcell o hol]
     have hy2:(flat xs)[o]?=some y:=by
      have e:flat xs=flat (xs.take n)++flat (xs.drop n):=by rw [← flat_append,List.take_append_drop]
      rw [e,List.getElem?_append_left (by omega)];exact hy
     refine(hr o y hy2).frame (by omega) hWo hWt hWu (fun k hk _=>⟨?_,hWk k (fun e=>by subst e;rw [hL] at hk;cases hk)⟩) _ fun p' hp'=>?_
     ·unfold FM.clear;rw [hk];rfl
     ·cases hp'
      refine⟨_,rfl,fun k q hk=>⟨?_,hWk k (fun e=>?_)⟩⟩
      ·unfold FM.clear
       rw [hk]
       simp [Lab.without,hsd]
      ·subst e;rw [hL] at hk;injection hk with hk
       have:=congrArg List.length hk
       simp at this
    ·rw [List.getElem?_append_right (by omega)] at hy
     have hm:=List.mem_of_getElem? hy
     unfold flat at hm
     rw [List.mem_flatMap] at hm
     obtain⟨z,hz,hyz⟩:=hm
     rw [List.eq_of_mem_replicate hz] at hyz
     have:y=.dead:=List.eq_of_mem_replicate hyz
     subst this
     exact .dead
  have hp2:∀ W,(Builtin.clear_ #[t] ty2 #[v1]).run S.P w=.ok (.tuple #[]) W→wpList S.P ops Q l (a.put (some d) v1) W→wpList S.P ops Q (⟨none,.call ⟨.builtin .clear,#[.tmp d],#[t]⟩,ty2,pos2,aft2,none⟩::l) (a.put (some d) v1) w:=fun W hW hk=>by
   simp only [wpList,if_true,Region.wanted]
   refine .inl ?_
   unfold Oper.wp
   have:(execOp (a.put (some d) v1).eval (⟨none,.call ⟨.builtin .clear,#[.tmp d],#[t]⟩,ty2,pos2,aft2,none⟩:Oper)).run S.P w=.ok (.value (.tuple #[])) W:=by
    simp only [execOp,resolve,invoke,builtin,Sem.run_bind,Sem.run_pure,Result.andThen_ok,List.map_toArray,List.map_cons,List.map_nil,he2,hW]
   rw [this]
   exact hk
  by_cases hnl:n=xs.length
  ·refine hp2 w ?_ (fin w arr hblk rfl (fun _ _=>rfl) rfl (fun _ _=>rfl) rfl rfl rfl)
   rw [← hv1,hnl,Nat.sub_self]
   split<;>simp [Builtin.clear_,run_underlying hu]
  ·have hcn:¬ cap=n:=by omega
   obtain⟨k,hk⟩:∃ k,xs.length-n=k+1:=⟨xs.length-n-1,by omega⟩
   obtain⟨news,hnews⟩:∃ news,news=(Builtin.zeroCells zv.cells (k+1)).toList:=⟨_,rfl⟩
   have hnl2:news.length=(k+1)*c:=by rw [hnews,Array.length_toList,size_zeroCells,hzc]
   have hfit:n*c+0+news.length≤arr.size:=by
    rw [hnl2,hsz,Nat.add_zero,←Nat.add_mul];exact Nat.mul_le_mul_right _ (by omega)
   have hn1:∀ v∈news,v.oneCell'=true:=fun v hv=>by
    rw [hnews] at hv
    have hz:∀ v∈zv.cells.toList,v.oneCell'=true:=fun v hv=>by
     rw [hf5] at hv
     exact List.all_eq_true.1 h1 v hv
    unfold Builtin.zeroCells at hv
    rw [Array.toList_map,List.mem_map] at hv
    obtain⟨i,hi,rfl⟩:=hv
    have hc0:0<zv.cells.size:=by
     rcases Nat.eq_zero_or_pos zv.cells.size with e0|e0
     ·rw [e0] at hi;simp at hi
     ·exact e0
    rw [getElem!_pos zv.cells _ (Nat.mod_lt _ hc0)]
    exact hz _ (Array.getElem_mem_toList _)
   have hst:=run_storeCells_at S.P blk (n*c) ee news 0 arr w hblk hfit hn1
   simp only [Nat.add_zero] at hst
   refine hp2 (w.setRow blk (arr.toList.take (n*c)++news++arr.toList.drop (n*c+news.length)).toArray) ?_ (fin _ (arr.toList.take (n*c)++news++arr.toList.drop (n*c+news.length)).toArray (setRow_heap w blk arr _ ee (0,0) hblk) ?_ (fun j hj=>?_) (by simp) (fun k hk=>setRow_other w blk k _ hk) rfl rfl rfl)
   ·rw [← hv1,if_neg hcn,hk]
    have hzr:(zeroValue e).run S.P w=.ok zv w:=by simp [zeroValue,typeInfo,hf1,hf4]
    simp only [addr_add,Nat.zero_add,hfc]
    simp [Builtin.clear_,run_underlying hu,hzr,←hnews,hst]
   ·rw [hnl2,Nat.add_zero] at hfit
    simp [hnl2];omega
   ·rw [hnl2] at hfit
    have h1:j<(arr.toList.take (n*c)).length:=by rw [List.length_take,Array.length_toList];omega
    simp only [List.getElem?_toArray]
    rw [List.append_assoc,List.getElem?_append_left h1,List.getElem?_take,if_pos hj,Array.getElem?_toList]
theorem s_cutA{S:Sys}{σ:St}{d ty:Nat}{pos:String}{aft:Array Edge}{g:Option (Nat×Bool)}{t e c sz by_:Nat}{z:List AV}{ti:TI}{x b:Operand}{s:Nat}{xs:List AV}{n:Int}(hx:ov σ x=.ref s)(hs:get σ s=.av (.sl true c xs))(hT:S.T t=some ⟨.slice e,sz,by_,z⟩)(hE:S.T e=some ti)
  (hb:ov σ b=.av (.int n)) (h0:0≤n) (h1:n.toNat≤xs.length) (hsd:Nat.beq s d=false) :
  Step S ⟨some d,.slice t x none (some b) none,ty,pos,aft,g⟩ σ ((σ.put s .none).put d (.av (.sl true c (xs.take n.toNat)))):=by
 have:=s_cutO (S:=S) (σ:=σ) (d:=d) (ty:=ty) (pos:=pos) (aft:=aft) (g:=g) (f:=id) (l:=xs) hx (by rw [List.map_id];exact hs) hT hE hb h0 h1 hsd
 rwa [List.map_id] at this
inductive CapsM(σ:St)(ms:List (Nat×Nat)):List Nat→List AV→Prop
 | nil:CapsM σ ms [] []
 | cons {s ss x z zs} (h:get σ s=.av x) (hm:idxM ms s=none) (hz:x.sh=z) (r:CapsM σ ms ss zs):CapsM σ ms (s::ss) (z::zs)
theorem CapsM.length{σ:St}{ms:List (Nat×Nat)}{ss:List Nat}{zs:List AV}(h:CapsM σ ms ss zs):ss.length=zs.length:=by induction h<;>simp_all
open Classical in
noncomputable def onlyB (B:Nat→Prop) (b:Nat):Lab:=if B b then .sh else .fo
theorem CapsM.rep{S:Sys}{N:Nat}{σ:St}{ms:List (Nat×Nat)}{ss:List Nat}{zs:List AV}(h:CapsM σ ms ss zs){w0:World}{L0:Nat→Lab}{a:Act}{w:World}{L:Nat→Lab}(hR:RelL S w0 L0 N σ a w L):∀ (i:Nat) z v,zs[i]?=some z→(ss.map fun s=>a.tmps.getD s undef)[i]?=some v→Rep (onlyB fun b=>inM ms L b=.sh) w none z v:=by
 induction h with
 | nil=>intro i z v hz;simp at hz
 | @cons s ss x z zs h hm hz r ih =>
  intro i z' v hz' hv
  cases i with
  | zero =>
   simp only [List.getElem?_cons_zero,Option.some.injEq,List.map_cons] at hz' hv
   subst hz';subst hv;subst hz
   have hh:=hR.hold s (own_lt hR h (by simp))
   rw [h] at hh
   refine Rep.toSh (fun b _ hb=>?_) hh (fun p hp b q hb=>?_)
   ·unfold onlyB;rw [if_pos (inM_sh hb)]
   ·cases hp;unfold onlyB;rw [if_pos (inM_no hb hm)]
  | succ i=>exact ih i z' v (by simpa using hz') (by simpa using hv)
theorem ArgM.clo{S:Sys}{N:Nat}{σ:St}{P:Program}{dom:List AV→Prop}{r:List AV→AV}{ms:List (Nat×Nat)}{i f t:Nat}{caps:List Nat}{zs:List AV}(hP:P=S.P)(ht:get σ t=.clo f caps)(hc:CapsM σ ms caps zs)(hf:FnOk P f)(hs:∀ xs9,dom xs9→FnSpec P f (xs9++zs) (xs9++zs) (r xs9))(hr:∀ xs9,dom xs9→(r xs9).flatPlain=true):ArgM S N σ ms i (.tmp t) (.fn (BehA P dom r)):=by
 subst hP
 refine .fn fun w0 L0 a w L hR=>?_
 have hh:=hR.hold t (own_lt hR ht (by simp))
 rw [ht] at hh
 simp only [Hold] at hh
 refine⟨f,_,hh,hf,fun w' xs9 vs hd hx hgl hl hrep=>?_⟩
 have hcl:(caps.map fun s=>a.tmps.getD s undef).length=zs.length:=by rw [List.length_map,hc.length]
 have:=(hs xs9 hd).calls w' (fun _=>.sh) (vs++caps.map fun s=>a.tmps.getD s undef) (by rw [List.length_append,List.length_append,hl,hcl]) (pre_none (fun _ _ h=>by cases h) (fun _ _ h=>by cases h) hgl) (fun i x v hx' hv=>by
  refine Rep.any ?_ _
  by_cases hi:i<xs9.length
  ·rw [List.getElem?_append_left hi] at hx'
   rw [List.getElem?_append_left (by omega)] at hv
   exact hrep i x v hx' hv
  ·rw [List.getElem?_append_right (by omega)] at hx'
   rw [List.getElem?_append_right (by omega),hl] at hv
   refine(hc.rep hR _ x v hx' hv).frame hx.size hx.os hx.tape hx.output (fun b hb hlt=>⟨rfl,hx.block b hlt ?_⟩) none (fun p hp=>by cases hp)
   unfold onlyB at hb
   split at hb
   ·assumption
   ·cases hb)
 have e:vs.toArray++(caps.map fun s=>a.tmps.getD s undef).toArray=(vs++caps.map fun s=>a.tmps.getD s undef).toArray:=by simp
 rw [e]
 refine this.mono fun e w'' ⟨v,L',he,hB⟩=>?_
 subst he
 have h1:=hr xs9 hd
 have hv:v=(r xs9).toV:=by
  have h2:=hB.res
  generalize r xs9=y at *
  cases h2<;>first|rfl|(simp [AV.flatPlain] at h1)
 subst hv
 exact⟨rfl,⟨hB.keep.os,hB.keep.tape,hB.keep.output,hB.keep.size,fun b hb=>hB.keep.block b hb (fun p h=>by cases h)⟩⟩
end FM
namespace Go.Proofs.YtkkcnppgcnmikaaGreatDoor
open Go FM Go.Proofs
set_option maxRecDepth 10000
set_option maxHeartbeats 3200000
set_option linter.all false
def cnt(p:Dl→Bool)(l:List Dl)(j:Nat):Nat:=((l.take j).filter fun d=>!p d).length
theorem kept_succ{p:Dl→Bool}{l:List Dl}{j:Nat}(h:j<l.length):((l.take (j+1)).filter fun d=>!p d)=((l.take j).filter fun d=>!p d)++(if p l[j] then [] else [l[j]]):=by
 rw [List.take_succ_eq_append_getElem h,List.filter_append]
 congr 1
 cases hp:p l[j]<;>simp [hp]
structure Dst(p:Dl→Bool)(l:List Dl)(j:Nat)(X:List Dl):Prop where
 le:j≤l.length
 len:X.length=l.length
 lt:cnt p l j<j
 low:X.take (cnt p l j)=(l.take j).filter fun d=>!p d
 high:X.drop j=l.drop j
theorem Dst.skip{p:Dl→Bool}{l:List Dl}{j:Nat}{X:List Dl}(h:Dst p l j X)(hj:j<l.length)(hp:p l[j]=true):cnt p l (j+1)=cnt p l j∧Dst p l (j+1) X:=by
 have hk:=kept_succ (p:=p) hj
 rw [if_pos hp,List.append_nil] at hk
 have hc:cnt p l (j+1)=cnt p l j:=by unfold cnt;rw [hk]
 refine⟨hc,hj,h.len,by rw [hc];have:=h.lt;omega,by rw [hc,hk];exact h.low,?_⟩
 have:=congrArg (List.drop 1) h.high
 rwa [List.drop_drop,List.drop_drop] at this
theorem Dst.keep{p:Dl→Bool}{l:List Dl}{j:Nat}{X:List Dl}(h:Dst p l j X)(hj:j<l.length)(hp:p l[j]=false):cnt p l (j+1)=cnt p l j+1∧Dst p l (j+1) (X.set (cnt p l j) l[j]):=by
 have hk:=kept_succ (p:=p) hj
 rw [if_neg (by rw [hp];simp)] at hk
 have hc:cnt p l (j+1)=cnt p l j+1:=by unfold cnt;rw [hk];simp
 have hlt:=h.lt
 have hlen:=h.len
 refine⟨hc,hj,by rw [List.length_set];exact h.len,by rw [hc];omega,?_,?_⟩
 ·rw [hc,hk,←h.low,List.take_succ_eq_append_getElem (by rw [List.length_set];omega),List.getElem_set_self,List.take_set_of_le (by omega)]
 ·rw [List.drop_set_of_lt (by omega)]
  have:=congrArg (List.drop 1) h.high
  rwa [List.drop_drop,List.drop_drop] at this
theorem Dst.get{p:Dl→Bool}{l:List Dl}{j:Nat}{X:List Dl}(h:Dst p l j X)(hj:j<l.length):X[j]?=some l[j]:=by
 have:=congrArg (fun z:List Dl=>z[0]?) h.high
 simp only [List.getElem?_drop,Nat.add_zero] at this
 rw [this,List.getElem?_eq_getElem hj]
theorem fidx_first{α:Type}{p:α→Bool}:∀ {l:List α} {k:Nat},0≤fidx p l k→∃ i:Nat,∃ (h:i<l.length),fidx p l k=((k+i:Nat):Int)∧p l[i]=true∧∀ (j:Nat) (hj:j<i),p (l[j]'(by omega))=false
 | [],k,h=>by simp [fidx] at h
 | x::r,k,h=>by
  rw [fidx_cons] at h ⊢
  cases hp:p x with
  | true=>exact⟨0,by simp,by rw [cond_true];rfl,hp,fun j hj=>absurd hj (Nat.not_lt_zero _)⟩
  | false =>
   rw [hp,cond_false] at h
   obtain⟨i,hi,e1,e2,e3⟩:=fidx_first h
   refine⟨i+1,by simpa using hi,?_,e2,fun j hj=>?_⟩
   ·rw [cond_false,e1,show k+1+i=k+(i+1) by omega]
   ·cases j with
    | zero=>exact hp
    | succ j=>exact e3 j (by omega)
theorem Dst.start{p:Dl→Bool}{l:List Dl}{i:Nat}(h:i<l.length)(hp:p l[i]=true)(ha:∀ (j:Nat) (hj:j<i),p (l[j]'(by omega))=false):cnt p l (i+1)=i∧Dst p l (i+1) l:=by
 have hf:((l.take i).filter fun d=>!p d)=l.take i:=by
  rw [List.filter_eq_self]
  intro d hd
  obtain⟨j,hj,rfl⟩:=List.mem_iff_getElem.1 hd
  rw [List.length_take] at hj
  rw [List.getElem_take,ha j (by omega)];rfl
 have hk:=kept_succ (p:=p) h
 rw [if_pos hp,List.append_nil,hf] at hk
 have hc:cnt p l (i+1)=i:=by unfold cnt;rw [hk,List.length_take];omega
 exact⟨hc,h,rfl,by omega,by rw [hc,hk],rfl⟩
theorem le_of_eqA{x y:AV}(h:x=y):AV.le x y:=h▸.refl _
theorem delf_spec(l:List Dl)(D:Dl→Prop)(p:Dl→Bool)(hl:l.length≤1000)(hD:∀ x∈l,D x):FnSpec Sy.P 127 [.sl true 6 (l.map dlA),fnDl D p] [.dead,fnDl D p] (.sl true 6 ((l.filter fun d=>!p d).map dlA)):=by
 have hI:=indexDl_spec l D p (by omega) hD
 refine FnSpec.enter (S:=Sy) 1 Tryz.func127 rfl rfl rfl Tryz.ntmps127 rfl rfl rfl rfl fun v0=>?_
 by_cases h0:0≤fidx p l 0
 ·obtain⟨i,hi,e1,hp,ha⟩:=fidx_first h0
  obtain⟨hc0,hS0⟩:=Dst.start hi hp ha
  rw [e1,Nat.zero_add] at hI
  repeat' first|refine w9x ?_|refine w9p (hI) ?_|(refine w9c ?_ ?_<;>intro _<;>try exact w9o)|(refine w9d ?_ ?_<;>intro _<;>try exact w9s)|fail
  all_goals try exact w9o
  refine CW.loop (fun v:Nat×List Dl=>[(0,.av (.sl true 6 (v.2.map dlA))),(1,.av (fnDl D p)),(5,.av (.int (cnt p l v.1))),(6,.av (.int (v.1)))]) (fun v=>Dst p l v.1 v.2) (fun v=>l.length-v.1) ((i+1,l)) ?_ (w9a) ?_
  ·exact hS0
  rintro⟨j,X⟩ hS
  dsimp only at hS ⊢
  have hle:=hS.le
  have hXl:=hS.len
  have hct:=hS.lt
  by_cases hlt:j<l.length
  ·have hx:=hS.get hlt
   have hd:D l[j]:=hD _ (List.getElem_mem hlt)
   have hres:(AV.bool (p (l[j].1,l[j].2.1,l[j].2.2.1,l[j].2.2.2.1,l[j].2.2.2.2.1,l[j].2.2.2.2.2.1,())))=.bool (p l[j]):=rfl
   cases hb:p l[j] with
   | true =>
    obtain⟨c1,hS1⟩:=hS.skip hlt hb
    generalize cnt p l j=c at *
    obtain⟨o,hci⟩:∃ o,X[c]?=some o:=⟨_,List.getElem?_eq_getElem (show c<X.length by omega)⟩
    rw [hb] at hres
    repeat' first|refine w9x ?_|(refine J.callF [dlA l[j]] rfl rfl rfl ⟨_,rfl,hd⟩ (by exact w9A) (by first|assumption|rfl|simp) rfl ?_)|(refine J.callFQ [dlA l[j]] rfl rfl rfl ⟨_,rfl,hd⟩ (by exact w9A) (by first|assumption|rfl|simp) rfl ?_)|(refine w9c ?_ ?_<;>intro _<;>try exact w9o)|(refine w9d ?_ ?_<;>intro _<;>try exact w9s)|fail
    all_goals first|(exfalso;omega)|(exfalso;contradiction)|(exfalso;simp_all;done)|skip
    refine⟨(j+1,X),?_,w9n,w9a⟩
    all_goals first|exact hS1|omega
   | false =>
    obtain⟨c1,hS1⟩:=hS.keep hlt hb
    generalize cnt p l j=c at *
    obtain⟨o,hci⟩:∃ o,X[c]?=some o:=⟨_,List.getElem?_eq_getElem (show c<X.length by omega)⟩
    rw [hb] at hres
    repeat' first|((with_reducible apply J.eff);rfl;(exact e_stM (x:=l[j]) rfl rfl rfl rfl rfl rfl))|refine w9x ?_|(refine J.callF [dlA l[j]] rfl rfl rfl ⟨_,rfl,hd⟩ (by exact w9A) (by first|assumption|rfl|simp) rfl ?_)|(refine J.callFQ [dlA l[j]] rfl rfl rfl ⟨_,rfl,hd⟩ (by exact w9A) (by first|assumption|rfl|simp) rfl ?_)|(refine w9c ?_ ?_<;>intro _<;>try exact w9o)|(refine w9d ?_ ?_<;>intro _<;>try exact w9s)|fail
    all_goals first|(exfalso;omega)|(exfalso;contradiction)|(exfalso;simp_all;done)|skip
    refine⟨(j+1,X.set c l[j]),?_,w9n,w9a⟩
    all_goals first|exact hS1|omega
  ·obtain rfl:j=l.length:=by omega
   have hlow:=hS.low
   rw [List.take_length] at hlow
   have heq:∀ rep:List AV,((X.map dlA).take (cnt p l l.length)++rep).take ((cnt p l l.length:Nat):Int).toNat=(l.filter fun d=>!p d).map dlA:=fun rep=>by
    rw [Int.toNat_natCast,List.take_append_of_le_length (by rw [List.length_take,List.length_map];omega),List.take_take,Nat.min_self,←List.map_take,hlow]
   have hn1:cnt p l l.length≤(X.map dlA).length:=by rw [List.length_map];omega
   have hn2:X.map dlA≠[]:=by intro e;rw [List.map_eq_nil_iff] at e;rw [e] at hXl;simp at hXl;omega
   have hn3:(0:Int)≤((cnt p l l.length:Nat):Int):=by omega
   have hn4:((cnt p l l.length:Nat):Int).toNat≤((X.map dlA).take (cnt p l l.length)++List.replicate ((X.map dlA).length-cnt p l l.length) (deadE 6)).length:=by
    rw [List.length_append,List.length_take,List.length_replicate];omega
   repeat' first|(refine J.clr rfl rfl rfl hn1 hn2 rfl rfl rfl rfl rfl ?_)|((with_reducible apply J.step);rfl;(exact s_cutA rfl rfl rfl rfl rfl hn3 hn4 rfl))|refine w9x ?_|(refine w9c ?_ ?_<;>intro _<;>try exact w9o)|(refine w9d ?_ ?_<;>intro _<;>try exact w9s)|fail
   all_goals first|(exfalso;omega)|exact⟨rfl,⟨_,rfl,le_of_eqA (congrArg (AV.sl true 6) (heq _))⟩,rfl,args_start (args_mv rfl (args_pl rfl args_nil))⟩
 ·have hno:=fidx_none (p:=p) (show fidx p l 0<0 by omega)
  have hf:(l.filter fun d=>!p d)=l:=by rw [List.filter_eq_self];intro d hd;rw [hno d hd];rfl
  have hr:=fidx_range (p:=p) (l:=l) (k:=0)
  rw [show fidx p l 0=-1 by omega] at hI
  rw [hf]
  repeat' first|refine w9x ?_|refine w9p (hI) ?_|(refine w9c ?_ ?_<;>intro _<;>try exact w9o)|(refine w9d ?_ ?_<;>intro _<;>try exact w9s)|fail
  all_goals first|(exfalso;omega)|exact⟨rfl,⟨_,rfl,.refl _⟩,rfl,args_start (args_mv rfl (args_pl rfl args_nil))⟩
def tA(d:Dl)(a:Ac):Bool:=decide (a.1=d.1)&&decide (d.2.2.1<a.2.2.1)
def late(L:List Ac)(d:Dl):Bool:=decide (0≤fidx (tA d) L 0)
theorem clean11_spec(a:Ac)(d:Dl):FnSpec Sy.P 130 [acA a,.pt false [.str d.1,.str d.2.1,.int d.2.2.1,.int d.2.2.2.1,.int d.2.2.2.2.1,.int d.2.2.2.2.2.1]] [acA a,.pt false [.str d.1,.str d.2.1,.int d.2.2.1,.int d.2.2.2.1,.int d.2.2.2.2.1,.int d.2.2.2.2.2.1]] (.bool (tA d a)):=by
 unfold tA
 obtain⟨s,t,n,m,f,z,u⟩:=d
 obtain⟨s',m',n',u'⟩:=a
 refine enT Tryz.func130 Tryz.ntmps130 fun v0=>?_
 by_cases h:s'=s
 ·rw [decide_eq_true h,Bool.true_and]
  repeat' first|refine w9x ?_|(refine w9c ?_ ?_<;>intro _<;>try exact w9o)|fail
  all_goals exact w9e
 ·rw [decide_eq_false h,Bool.false_and]
  repeat' first|refine w9x ?_|(refine w9c ?_ ?_<;>intro _<;>try exact w9o)|fail
  all_goals exact w9e
theorem clean11_arg{d:Dl}{m:Nat}{v:Nat→Value}{N:Nat}{σ:St}{t q:Nat}(ht:FM.get σ t=.clo 130 [q])(h1:FM.get σ q=.av (.pt true [.str d.1,.str d.2.1,.int d.2.2.1,.int d.2.2.2.1,.int d.2.2.2.2.1,.int d.2.2.2.2.2.1])):ArgOk (Sy.fixed m v) N σ (.tmp t) true (fnAc (fun _=>True) (tA d)) :=
 cloAc (zs:=[.pt false [.str d.1,.str d.2.1,.int d.2.2.1,.int d.2.2.2.1,.int d.2.2.2.2.1,.int d.2.2.2.2.2.1]]) ht (.cons h1 rfl .nil) (clean11_spec ([],0,0,()) d0).ok fun x _=>clean11_spec x d
theorem containsAc_spec(l:List Ac)(p:Ac→Bool)(hl:l.length≤9223372036854775807):FnSpec Sy.P 129 [.sl false 3 (l.map acA),fnAc (fun _=>True) p] [.sl false 3 (l.map acA),fnAc (fun _=>True) p] (.bool (decide (0≤fidx p l 0))):=by
 have hI:=indexAc_spec l (fun _=>True) p hl (fun _ _=>trivial)
 refine enT Tryz.func129 Tryz.ntmps129 fun v0=>?_
 repeat' first|refine w9x ?_|refine w9p (hI) ?_|fail
 exact .mk rfl rfl rfl
theorem clean1_spec(d:Dl)(L:List Ac)(hl:L.length≤9223372036854775807):FnSpec Sy.P 128 [dlA d,.pt false [.sl false 3 (L.map acA)]] [dlA d,.pt false [.sl false 3 (L.map acA)]] (.bool (late L d)):=by
 have hI:=containsAc_spec L (tA d) hl
 unfold late
 refine enT Tryz.func128 Tryz.ntmps128 fun v0=>?_
 repeat' first|((with_reducible apply J.step);rfl;(exact s_mkf (caps:=[2]) rfl rfl))|refine w9x ?_|((with_reducible first|apply J.callP (hI)|apply J.callPQ (hI));rfl;rfl;(repeat' (first|exact ArgsOk.nil|exact clean11_arg rfl rfl|apply ArgsOk.cons|exact ArgOk.pl rfl rfl|exact ArgOk.br rfl AV.noConfusion (by first|rfl|exact sh_int|exact sh_rows|exact sh_rowsO|exact sh_box|exact sh_map (fun _=>rfl))));(first|rfl|exact gn0|exact gnI))
 exact .mk rfl rfl rfl
def clE(l:List Dl)(L:List Ac):Int:=if ofE l≠0 then ofE l else if acE L≠0 then acE L else 0
def clM(l:List Dl)(L:List Ac):List Dl:=l.filter fun d=>!late L d
theorem sh_box1{L:List Ac}:(AV.pt true [.sl false 3 (L.map acA)]).sh=.pt false [.sl false 3 (L.map acA)]:=by
 show AV.pt false [AV.sl false 3 (AV.shL (L.map acA))]=_
 rw [shL_map acA L acA (fun _=>rfl)]
theorem clean1_argM{L:List Ac}{m:Nat}{v:Nat→Value}{N:Nat}{σ:St}{ms:List (Nat×Nat)}{i t q:Nat}(hl:L.length≤9223372036854775807)(ht:FM.get σ t=.clo 128 [q])(h1:FM.get σ q=.av (.pt true [.sl false 3 (L.map acA)]))(hm:idxM ms q=none):ArgM (Sy.fixed m v) N σ ms i (.tmp t) (fnDl (fun _=>True) (late L)) :=
 ArgM.clo (zs:=[.pt false [.sl false 3 (L.map acA)]]) rfl ht (.cons h1 hm sh_box1 .nil) (clean1_spec d0 [] (by simp)).ok (fun ws hd=>by obtain⟨x,rfl,hx⟩:=hd;exact clean1_spec x L hl) (fun ws hd=>by obtain⟨x,rfl,hx⟩:=hd;rfl)
theorem clean_spec(l:List Dl)(L:List Ac)(hl:DlL l)(hL:AcL L):FnSpec Sy.P 70 [.sl false 6 (l.map dlA),.sl false 3 (L.map acA)] [.sl false 6 (l.map dlA),.sl false 3 (L.map acA)] (resD (clM l L) (clE l L)):=by
 have hC:=qcheck_spec l hl
 have hC2:=check_spec L hL
 have hCr:=ofE_range l
 have hCr2:=acE_range L
 unfold clE resD clM
 by_cases c1:ofE l=0
 ·have hok:=ofE_ok c1
  rw [c1] at hC
  rw [if_neg (not_not_intro c1)]
  have hl20:=hok.len
  have hCl:=cloneDl_spec l (by omega)
  by_cases c2:acE L=0
  ·rw [if_neg (not_not_intro c2),if_pos rfl]
   rw [c2] at hC2
   have hDf:=delf_spec l (fun _=>True) (late L) (by omega) (fun _ _=>trivial)
   refine enT Tryz.func70 Tryz.ntmps70 fun v0=>?_
   repeat' first|(refine J.callM1 hDf rfl rfl rfl rfl rfl (.cons (clean1_argM hL.len rfl rfl rfl) .nil) noSh_dls .dead ?_)|((with_reducible apply J.step);rfl;(exact s_mkf (caps:=[3]) rfl rfl))|refine w9x ?_|refine w9p (hC) ?_|refine w9p (hC2) ?_|refine w9p (hCl) ?_|(refine w9c ?_ ?_<;>intro _<;>try exact w9o)|fail
   all_goals exact w9e
  ·rw [if_pos c2,if_neg c2]
   generalize acE L=e at *
   refine enT Tryz.func70 Tryz.ntmps70 fun v0=>?_
   repeat' first|refine w9x ?_|refine w9p (hC) ?_|refine w9p (hC2) ?_|(refine w9c ?_ ?_<;>intro _<;>try exact w9o)|fail
   all_goals exact w9e
 ·rw [if_pos c1,if_neg c1]
  generalize ofE l=e at *
  refine enT Tryz.func70 Tryz.ntmps70 fun v0=>?_
  repeat' first|refine w9x ?_|refine w9p (hC) ?_|(refine w9c ?_ ?_<;>intro _<;>try exact w9o)|fail
  all_goals exact w9e
/-! ### open -/
def onE(A:List Ac)(k w:Str)(m:Int):Int:=if opE A w m≠0 then opE A w m else appE k (recO w m)
def onA(A:List Ac)(k w:Str)(m:Int):List Ac:=if onE A k w m=0 then opM A w m else A
def onD(A:List Ac)(k w:Str)(m:Int):Str:=if onE A k w m=0 then k++frm (recO w m) else k
theorem opE_ok{A:List Ac}{w:Str}{m:Int}(h:opE A w m=0):acE A=0∧nmB w=true∧(0≤m∧m≤1000000)∧A.length<6:=by
 unfold opE at h
 by_cases c1:acE A≠0
 ·rw [if_pos c1] at h;exact absurd h c1
 rw [if_neg c1] at h
 by_cases c2:nmB w=false
 ·rw [if_pos c2] at h;cases h
 rw [if_neg c2] at h
 by_cases c3:wiB m=false
 ·rw [if_pos c3] at h;cases h
 rw [if_neg c3] at h
 by_cases c4:0≤fA A w
 ·rw [if_pos c4] at h;cases h
 rw [if_neg c4] at h
 by_cases c5:6≤A.length
 ·rw [if_pos c5] at h;cases h
 have c3:wiB m=true:=by simpa using c3
 unfold wiB at c3
 rw [decide_eq_true_eq] at c3
 exact⟨Classical.not_not.1 c1,by simpa using c2,c3,by omega⟩
theorem recO_len{w:Str}{m:Int}(h:nmB w=true)(hm:0≤m∧m≤1000000):(recO w m).length≤20:=by
 have h1:=nm_len h
 have h2:=Zp.itoa_len m hm.1 hm.2
 unfold recO
 simp only [List.length_append,List.length_cons,List.length_nil];omega
/-! ### build -/
abbrev bT(O:List Dl)(A:List Ac)(w:Str)(room:Int):List Int:=bdT O A w room 1001
abbrev bA(O:List Dl)(A:List Ac)(w:Str)(room:Int):List Ac:=bdL O A w room 1001
def rk(O:List Dl)(w:Str)(T:List Int):List Str:=T.map fun x=>recD (at0 O x) w
def feeS(O:List Dl):List Int→Int
 | []=>0
 | x::T=>fee (at0 O x)+feeS O T
theorem feeS_app(O:List Dl):∀ (a b:List Int),feeS O (a++b)=feeS O a+feeS O b
 | [],b=>by simp [feeS]
 | x::a,b=>by rw [List.cons_append,feeS,feeS,feeS_app O a b];omega
theorem bld_mem{l:List Dl}{w:Str}:∀ (f:Nat) (L:List Ac) (room:Int),∀ x∈(bld l w f L room).1,∃ i:Nat,i<l.length∧x=(i:Int)
 | 0,L,room,x,h=>by simp [bld] at h
 | f+1,L,room,x,h=>by
  by_cases c:nxE l L w room=0
  ·obtain⟨_,_,_,i,hi,hk,hd,_,_,_⟩:=nx_at c
   rw [bld_step c hk hd] at h
   rcases List.mem_cons.1 h with rfl|h
   ·exact⟨i,hi,rfl⟩
   ·exact bld_mem f _ _ x h
  ·rw [bld_end c] at h;cases h
theorem bT_mem{O:List Dl}{A:List Ac}{w:Str}{room:Int}:∀ x∈bT O A w room,∃ i:Nat,i<O.length∧x=(i:Int):=by
 intro x h
 unfold bT bdT at h
 split at h
 ·exact bld_mem _ _ _ x h
 ·cases h
theorem bdE_ok{O:List Dl}{A:List Ac}{w:Str}{room:Int}(h:bdE O A w room=0):ofE O=0∧acE A=0∧0≤room∧room≤1000:=by
 unfold bdE at h
 by_cases c:nxE O A w room=0∨nxE O A w room=4
 ·exact nxE_04 c
 ·rw [if_neg c] at h;exact absurd (.inl h) c
theorem bT_len{O:List Dl}{A:List Ac}{w:Str}{room:Int}:((bT O A w room).length:Int)≤1000:=by
 unfold bT bdT
 split
 ·rename_i c
  obtain⟨_,_,h1,h2⟩:=bdE_ok c
  have:=bld_len (l:=O) (w:=w) 1001 A room h1
  omega
 ·simp
theorem bld_ac{l:List Dl}{w:Str}:∀ (f:Nat) (L:List Ac) (room:Int),acE L=0→AcL L→acE (bld l w f L room).2=0∧AcL (bld l w f L room).2
 | 0,L,room,h,hl=>⟨h,hl⟩
 | f+1,L,room,h,hl=>by
  by_cases c:nxE l L w room=0
  ·obtain⟨_,_,_,i,hi,hk,hd,htk,_,_⟩:=nx_at c
   rw [bld_step c hk hd]
   exact bld_ac f _ _ (tkE_ok htk).2.2 (tkM_L hl)
  ·rw [bld_end c];exact⟨h,hl⟩
theorem bA_ok{O:List Dl}{A:List Ac}{w:Str}{room:Int}(h:bdE O A w room=0)(hA:AcL A):acE (bA O A w room)=0∧AcL (bA O A w room):=by
 unfold bA bdL
 rw [if_pos h]
 exact bld_ac _ _ _ (bdE_ok h).2.1 hA
theorem at_ok{O:List Dl}(h:ofE O=0){x:Int}(hx:∃ i:Nat,i<O.length∧x=(i:Int)):DlOk (at0 O x):=by
 obtain⟨i,hi,rfl⟩:=hx
 have:at0 O (i:Int)=O[i]:=by unfold at0;rw [Int.toNat_natCast];exact getD_of hi
 rw [this]
 exact(ofE_ok h).ok _ (List.getElem_mem hi)
theorem w_name{A:List Ac}{w:Str}(h:0≤fA A w)(hA:acE A=0):nmB w=true:=by
 obtain⟨i,hi,_,e⟩:=fA_at h
 rw [← e]
 exact((acE_ok hA).nm _ (List.getElem_mem hi))
def buE(O:List Dl)(A:List Ac)(k w:Str)(room:Int):Int :=
 if fA A w<0 then 4 else if bdE O A w room≠0 then bdE O A w room else if 4000<k.length+(dk (rk O w (bT O A w room))).length then 8 else 0
def buA(O:List Dl)(A:List Ac)(k w:Str)(room:Int):List Ac:=if buE O A k w room=0 then bA O A w room else A
def buO(O:List Dl)(A:List Ac)(k w:Str)(room:Int):List Dl:=if buE O A k w room=0 then clM O (bA O A w room) else O
def buD(O:List Dl)(A:List Ac)(k w:Str)(room:Int):Str:=if buE O A k w room=0 then k++dk (rk O w (bT O A w room)) else k
def buN(O:List Dl)(A:List Ac)(k w:Str)(room:Int):Int:=if buE O A k w room=0 then(bT O A w room).length else 0
def buM(O:List Dl)(A:List Ac)(k w:Str)(room:Int):Int:=if buE O A k w room=0 then feeS O (bT O A w room) else 0
theorem buE_ok{O:List Dl}{A:List Ac}{k w:Str}{room:Int}(h:buE O A k w room=0):0≤fA A w∧bdE O A w room=0∧k.length+(dk (rk O w (bT O A w room))).length≤4000:=by
 unfold buE at h
 by_cases c1:fA A w<0
 ·rw [if_pos c1] at h;cases h
 rw [if_neg c1] at h
 by_cases c2:bdE O A w room≠0
 ·rw [if_pos c2] at h;exact absurd h c2
 rw [if_neg c2] at h
 by_cases c3:4000<k.length+(dk (rk O w (bT O A w room))).length
 ·rw [if_pos c3] at h;cases h
 exact⟨by omega,Classical.not_not.1 c2,by omega⟩
theorem rk_app(O:List Dl)(w:Str)(a b:List Int):rk O w (a++b)=rk O w a++rk O w b:=List.map_append ..
theorem rk_take(O:List Dl)(w:Str)(T:List Int){j:Nat}{x:Int}(h:T[j]?=some x):rk O w (T.take (j+1))=rk O w (T.take j)++[recD (at0 O x) w]:=by
 rw [List.take_add_one,h,rk_app];rfl
theorem fee_take(O:List Dl)(T:List Int){j:Nat}{x:Int}(h:T[j]?=some x):feeS O (T.take (j+1))=feeS O (T.take j)+fee (at0 O x):=by
 rw [List.take_add_one,h,feeS_app];simp [feeS]
theorem dk_mono(l:List Str)(j:Nat):(dk (l.take j)).length≤(dk l).length:=by
 rw [← dk_take_drop l j,List.length_append];omega
theorem rk_take_comm(O:List Dl)(w:Str)(T:List Int)(j:Nat):(rk O w T).take j=rk O w (T.take j):=by unfold rk;rw [List.map_take]
theorem feeS_bound{O:List Dl}(h:ofE O=0):∀ T:List Int,(∀ x∈T,∃ i:Nat,i<O.length∧x=(i:Int))→0≤feeS O T∧feeS O T≤1000000*T.length
 | [],_=>by simp [feeS]
 | x::T,hT=>by
  have ih:=feeS_bound h T fun y hy=>hT y (List.mem_cons_of_mem _ hy)
  have hx:=(at_ok h (hT x (List.mem_cons_self ..))).fee
  rw [feeS,List.length_cons]
  unfold fee
  omega
/-! ### the whole state -/
structure Hs where
 A:List Ac
 O:List Dl
 R:List Rc
 n:Int
abbrev Hs.k(s:Hs):Str:=dk (s.R.map Rc.str)
structure HsOk(s:Hs):Prop where
 a:AcL s.A
 al:s.A.length≤6
 o:DlL s.O
 ol:s.O.length≤20
 r:∀ x∈s.R,x.ok
 k:s.k.length≤4000
 n:0≤s.n∧s.n≤s.k.length
theorem strs_le{R:List Rc}(h:∀ x∈R,x.ok):∀ s∈R.map Rc.str,s.length≤64:=fun s hs=>by
 obtain⟨r,hr,rfl⟩:=List.mem_map.1 hs
 exact str_len (h r hr)
theorem R_len(R:List Rc):R.length≤(dk (R.map Rc.str)).length:=by
 have:=dk_len (R.map Rc.str)
 rw [List.length_map] at this;exact this
theorem crash_at{s:Hs}(h:HsOk s){m:Int}(hc:crE s.k s.n m=0):∃ R':List Rc,(∀ x∈R',x.ok)∧crD s.k s.n m=dk (R'.map Rc.str)∧crN s.k s.n m=((dk (R'.map Rc.str)).length:Nat)∧(dk (R'.map Rc.str)).length≤4000∧R'.length≤4000:=by
 have hk:=h.k
 have hn:=h.n
 have hr:=h.r
 unfold crE at hc
 unfold crD crN
 unfold Hs.k at *
 split at hc
 ·cases hc
 ·rename_i c
  rw [if_neg c,if_neg c]
  obtain⟨j,h1,h2,h3,h4,_⟩:=scan_cut (s.R.map Rc.str) (s.n+m).toNat (strs_le hr) (by omega)
  rw [h3]
  have e1:(dk (s.R.map Rc.str)).take (s.n+m).toNat=(dk (s.R.map Rc.str)).take (s.n+m).toNat:=rfl
  have e2:((dk (s.R.map Rc.str)).take (s.n+m).toNat).take (dk ((s.R.map Rc.str).take j)).length=dk ((s.R.map Rc.str).take j):=by
   rw [List.take_take,Nat.min_eq_left h4,dk_take]
  rw [e2,←List.map_take]
  have h5:=dk_mono (s.R.map Rc.str) j
  rw [← List.map_take] at h5
  have h6:=R_len (s.R.take j)
  exact⟨s.R.take j,fun x hx=>hr x (List.mem_of_mem_take hx),rfl,rfl,by omega,by omega⟩
theorem rcs_AL{R:List Rc}(h:∀ x∈R,x.ok):AcL (rcs R)∧(rcs R).length≤6:=by
 have key:∀ (R:List Rc) (A:List Ac),(∀ x∈R,x.ok)→AcL A∧A.length≤6→AcL (R.foldl rcS A)∧(R.foldl rcS A).length≤6:=fun R=>by
  induction R with
  | nil=>intro A _ h;exact h
  | cons r R ih =>
   intro A hR hA
   refine ih _ (fun x hx=>hR x (List.mem_cons_of_mem _ hx)) ⟨rcS_L hA.1 (hR r (List.mem_cons_self ..)),?_⟩
   cases r with
   | o s m =>
    show(ifA (opE A s m) (opM A s m)).length≤6
    unfold ifA;split
    ·rename_i c;rw [opM_len];have:=(opE_ok c).2.2.2;omega
    ·simp
   | d x w =>
    show(ifA (tkE A x w) (tkM A x w)).length≤6
    unfold ifA;split
    ·rw [tkM_len];exact hA.2
    ·simp
 exact key R [] h ⟨⟨by simp,fun a ha=>by cases ha⟩,by simp⟩
end Go.Proofs.YtkkcnppgcnmikaaGreatDoor
