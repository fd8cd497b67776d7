/- Function values: what one does, calls of one, closures. No program in sight. -/
import Derived.Test.YtkkcnppgcnmikaaGreatDoorAaj
namespace FM
open Go Go.RowKit
set_option linter.unusedVariables false
structure ExtB(B:Nat→Prop)(w w':World):Prop where
 os:w'.os=w.os
 tape:w'.tape=w.tape
 output:w'.output=w.output
 size:w.heap.size≤w'.heap.size
 block:∀ b,b<w.heap.size→B b→w'.heap[b]?=w.heap[b]?
def BehA(P:Program)(dom:List AV→Prop)(r:List AV→AV):Beh:=⟨fun wE B v=>∃ f cap,v=.func (.func f) #[] cap∧FnOk P f∧∀ (w:World) (xs9:List AV) (vs:List Value),dom xs9 →
 ExtB B wE w→Glob (fun _=>.sh) w→vs.length=xs9.length →
 (∀ (i:Nat) x u,xs9[i]?=some x→vs[i]?=some u→Rep (fun _=>.sh) w none x u)→Calls P f (vs.toArray++cap) w fun e w'=>e=.returned (r xs9).toV∧Ext w w'⟩
theorem beh_of_spec{P:Program}{dom:List AV→Prop}{r:List AV→AV}{f:Nat}(hf:FnOk P f)(hs:∀ xs9,dom xs9→FnSpec P f xs9 xs9 (r xs9))(hr:∀ xs9,dom xs9→(r xs9).flatPlain=true)(w:World)(B:Nat→Prop):(BehA P dom r).holds w B (.func (.func f) #[] #[]):=by
 refine⟨f,#[],rfl,hf,fun w xs9 vs hd _ hgl hl hrep=>?_⟩
 have:=(hs xs9 hd).calls w (fun _=>.sh) vs hl (pre_none (fun _ _ h=>by cases h) (fun _ _ h=>by cases h) hgl) (fun i x v hx hv=>(hrep i x v hx hv).any _)
 simp only [Array.append_empty]
 refine this.mono fun e w' ⟨v,L',he,hB⟩=>?_
 subst he
 have h1:=hr xs9 hd
 have hv:v=(r xs9).toV:=by
  have h2:=hB.res
  generalize r xs9=y at *
  cases h2<;>first|rfl|(simp [AV.flatPlain] at h1)
 subst hv
 exact⟨rfl,⟨hB.keep.os,hB.keep.tape,hB.keep.output,hB.keep.size,fun b hb=>hB.keep.block b hb (fun p h=>by cases h)⟩⟩
section
variable {S:Sys} {N:Nat} {σ:St}
theorem run_callF{P:Program}{f:Nat}{cap:Array Value}(hf:FnOk P f){ρ:Operand→Value}{t:Operand}{xs:List Operand}{ts:Array Nat}{o:Oper}(ho:o.op=.call ⟨.value t,xs.toArray,ts⟩)(hρ:ρ t=.func (.func f) #[] cap)(w:World) :
  (execOp ρ o).run P w=.ok (.enter f ((xs.map ρ).toArray++cap)) w:=by
 obtain⟨fn,h1,h2,h3⟩:=hf.out
 simp only [execOp,ho,resolve,hρ,Deferred.ofValue,Sem.run_bind,Sem.run_pure,Result.andThen_ok,invoke,callFunc,run_program,h1,h2,h3]
 simp
theorem callF_core{dom:List AV→Prop}{r:List AV→AV}{xs9:List AV}{t:Operand}{xs:List Operand}{b:Bool}(ht:ov σ t=.av (.fn (BehA S.P dom r)))(hd:dom xs9)(ha:ArgsOk S N σ xs b xs9){w0:World}{L0:Nat→Lab}{a:Act}{w:World}(hR:Rel S w0 L0 N σ a w) :
  ∃ f cap,a.eval t=.func (.func f) #[] cap∧FnOk S.P f∧Calls S.P f ((xs.map a.eval).toArray++cap) w fun e w'=>e=.returned (r xs9).toV∧Ext w w':=by
 obtain⟨L,hR⟩:=hR
 obtain⟨n,hn⟩:=ev_av hR ht
 generalize a.eval t=v at hn
 cases hn with
 | @fn _ _ _ wE _ h hs ho ht' hu hb =>
  obtain⟨f,cap,h1,h2,h3⟩:=h
  refine⟨f,cap,h1,h2,h3 w xs9 _ hd ⟨ho,ht',hu,hs,fun b hb' hB=>(hb b hb' hB).2⟩ hR.globNow.all (by rw [List.length_map,ha.length]) fun i x v hx hv=>?_⟩
  simp only [List.getElem?_map,Option.map_eq_some_iff] at hv
  obtain⟨y,hy,rfl⟩:=hv
  obtain⟨c,hc,_⟩:=ha.get i y x hy hx
  exact hc.readN hR
variable {dom:List AV→Prop} {r:List AV→AV} {xs9:List AV} {t:Operand} {xs:List Operand} {b:Bool} {y:AV} {P:Program} {ops:Array Oper} {l:List Oper} {K:St→Prop} {d ty:Nat} {ts:Array Nat} {pos:String} {aft:Array Edge} {g:Option (Nat×Bool)}
theorem put_flat{w0:World}{L0:Nat→Lab}{a:Act}{w:World}(hR:Rel S w0 L0 N σ a w)(hd:DOk S N d)(hr:y.flatPlain=true):Rel S w0 L0 N (σ.put d (.av y)) (a.put (some d) y.toV) w:=by
 obtain⟨L,hR⟩:=hR
 refine Rel.putPlain (n:=d) hR hd ?_ rfl (toV_rep hr)
 cases y<;>first|rfl|(simp [AV.flatPlain] at hr)
theorem J.callF(xs9:List AV)(ht:ov σ t=.av (.fn (BehA P dom r)))(hP:P=S.P)(hg:live ops g σ=some true)(hd:dom xs9)(ha:ArgsOk S N σ xs b xs9)(hy:r xs9=y)(hr:y.flatPlain=true)(h:J false S N ops l K (σ.put d (.av y))) :
  J false S N ops (⟨some d,.call ⟨.value t,xs.toArray,ts⟩,ty,pos,aft,g⟩::l) K σ:=by
 subst hP;subst hy
 unfold J at *
 intro hdo w0 L0 Q a w hQ hR
 obtain⟨h1,h2⟩:=dstOk_cons hdo
 have hw:=live_wanted (o:=⟨some d,.call ⟨.value t,xs.toArray,ts⟩,ty,pos,aft,g⟩) hg hR
 simp only [wpList,hw,if_true]
 refine .inl ?_
 obtain⟨f,cap,e1,hf,hc⟩:=callF_core ht hd ha hR
 unfold Oper.wp
 rw [run_callF hf rfl e1 w,Oper.upon_enter]
 refine hc.mono fun e w' ⟨he,hx⟩=>?_
 subst he
 exact h h2 w0 L0 Q _ w' hQ (put_flat (hR.ext hx) (h1 d rfl) hr)
theorem J.callFQ(xs9:List AV)(ht:ov σ t=.av (.fn (BehA P dom r)))(hP:P=S.P)(hg:live ops g σ=some true)(hd:dom xs9)(ha:ArgsOk S N σ xs b xs9)(hy:r xs9=y)(hr:y.flatPlain=true)(h:J true S N ops l K (σ.put d (.av y))) :
  J true S N ops (⟨some d,.call ⟨.value t,xs.toArray,ts⟩,ty,pos,aft,g⟩::l) K σ:=by
 subst hP;subst hy
 unfold J at *
 intro hdo w0 L0 Q a w hQ hR
 obtain⟨h1,h2⟩:=dstOk_cons hdo
 have hw:=live_wanted (o:=⟨some d,.call ⟨.value t,xs.toArray,ts⟩,ty,pos,aft,g⟩) hg hR
 simp only [wpQuiet,hw,if_true]
 refine⟨(r xs9).toV,fun w' hw'=>?_,h h2 w0 L0 Q _ w hQ (put_flat hR (h1 d rfl) hr)⟩
 unfold Oper.quietAt
 obtain⟨f,cap,e1,hf,hc⟩:=callF_core ht hd ha (hR.ext hw')
 rw [run_callF hf rfl e1 w']
 exact⟨rfl,hc.mono fun e w'' ⟨he,hx⟩=>⟨he,hw'.trans hx⟩⟩
theorem ArgOk.func{f:Nat}(hP:P=S.P)(hf:FnOk P f)(hs:∀ xs9,dom xs9→FnSpec P f xs9 xs9 (r xs9))(hr:∀ xs9,dom xs9→(r xs9).flatPlain=true):ArgOk S N σ (.func f) true (.fn (BehA P dom r)):=by
 subst hP
 exact .fn fun w0 L0 a w _=>beh_of_spec hf hs hr w _
/-! ### closures -/
theorem s_mkf{f:Nat}{caps:List Nat}(hc:caps.all (fun s=>!Nat.beq s d)=true)(hg:caps.all (fun s=>match get σ s with|.none=>false|_=>true)=true):Step S ⟨some d,.makeFunc (.func f) #[] (caps.map Operand.tmp).toArray,ty,pos,aft,g⟩ σ (σ.put d (.clo f caps)):=by
 intro w0 L0 N a w hN ⟨L,h⟩
 refine⟨.func (.func f) #[] ((caps.map Operand.tmp).toArray.map a.eval),fun w' _=>by simp [execOp,Instr.makeFunc],_,h.put (hN d rfl) ?_⟩
 simp only [Hold]
 congr 1
 rw [List.map_toArray,List.map_map]
 congr 1
 refine List.map_congr_left fun s hs=>?_
 have:=List.all_eq_true.1 hc s hs
 simp only [Bool.not_eq_true'] at this
 simp only [Function.comp,Act.eval]
 rw [getD_set_other (fun e=>of_not_beq this e.symm)]
inductive CapsOk(σ:St):List Nat→List AV→Prop
 | nil:CapsOk σ [] []
 | cons {s ss x z zs} (h:get σ s=.av x) (hz:x.sh=z) (r:CapsOk σ ss zs):CapsOk σ (s::ss) (z::zs)
theorem CapsOk.length{ss:List Nat}{zs:List AV}(h:CapsOk σ ss zs):ss.length=zs.length:=by induction h<;>simp_all
theorem CapsOk.rep{ss:List Nat}{zs:List AV}(h:CapsOk σ ss zs){w0:World}{L0:Nat→Lab}{a:Act}{w:World}{L:Nat→Lab}(hR:RelL S w0 L0 N σ a w L):∀ (i:Nat) z v,zs[i]?=some z→(ss.map fun s=>a.tmps.getD s undef)[i]?=some v→Rep (fun _=>.sh) w none z v:=by
 induction h with
 | nil=>intro i z v hz;simp at hz
 | @cons s ss x z zs h hz r ih =>
  intro i z' v hz' hv
  cases i with
  | zero =>
   simp only [List.getElem?_cons_zero,Option.some.injEq,List.map_cons] at hz' hv
   subst hz';subst hv;subst hz
   have hh:=hR.hold s (own_lt hR h (by simp))
   rw [h] at hh
   exact Rep.toSh (fun _ _ _=>rfl) hh (fun _ _ _ _ _=>rfl)
  | succ i=>exact ih i z' v (by simpa using hz') (by simpa using hv)
theorem ArgOk.clo{f t:Nat}{caps:List Nat}{zs:List AV}(hP:P=S.P)(ht:get σ t=.clo f caps)(hc:CapsOk σ caps zs)(hf:FnOk P f)(hs:∀ xs9,dom xs9→FnSpec P f (xs9++zs) (xs9++zs) (r xs9))(hr:∀ xs9,dom xs9→(r xs9).flatPlain=true):ArgOk S N σ (.tmp t) true (.fn (BehA P dom r)):=by
 subst hP
 refine .fn fun w0 L0 a w ⟨L,hR⟩=>?_
 have hh:=hR.hold t (own_lt hR ht (by simp))
 rw [ht] at hh
 simp only [Hold] at hh
 refine⟨f,_,hh,hf,fun w' xs9 vs hd hx hgl hl hrep=>?_⟩
 have hcl:(caps.map fun s=>a.tmps.getD s undef).length=zs.length:=by rw [List.length_map,hc.length]
 have:=(hs xs9 hd).calls w' (fun _=>.sh) (vs++caps.map fun s=>a.tmps.getD s undef) (by rw [List.length_append,List.length_append,hl,hcl]) (pre_none (fun _ _ h=>by cases h) (fun _ _ h=>by cases h) hgl) (fun i x v hx' hv=>by
  refine Rep.any ?_ _
  by_cases hi:i<xs9.length
  ·rw [List.getElem?_append_left hi] at hx'
   rw [List.getElem?_append_left (by omega)] at hv
   exact hrep i x v hx' hv
  ·rw [List.getElem?_append_right (by omega)] at hx'
   rw [List.getElem?_append_right (by omega),hl] at hv
   exact(hc.rep hR _ x v hx' hv).frame hx.size hx.os hx.tape hx.output (fun b _ hb=>⟨rfl,hx.block b hb trivial⟩) none (fun p hp=>by cases hp))
 have e:vs.toArray++(caps.map fun s=>a.tmps.getD s undef).toArray=(vs++caps.map fun s=>a.tmps.getD s undef).toArray:=by simp
 rw [e]
 refine this.mono fun e w'' ⟨v,L',he,hB⟩=>?_
 subst he
 have h1:=hr xs9 hd
 have hv:v=(r xs9).toV:=by
  have h2:=hB.res
  generalize r xs9=y at *
  cases h2<;>first|rfl|(simp [AV.flatPlain] at h1)
 subst hv
 exact⟨rfl,⟨hB.keep.os,hB.keep.tape,hB.keep.output,hB.keep.size,fun b hb=>hB.keep.block b hb (fun p h=>by cases h)⟩⟩
end
set_option linter.unusedSimpArgs false
section
variable {S:Sys} {σ:St} {d ty:Nat} {pos:String} {aft:Array Edge} {g:Option (Nat×Bool)}
theorem s_ixaD{t e c sz by_:Nat}{z:List AV}{ti:TI}{i:Operand}{s:Nat}{xs:List AV}{n:Int}{y:AV}(hs:get σ s=.av (.sl true c xs))(hi:ov σ i=.av (.int n))(hT:S.T t=some ⟨.slice e,sz,by_,z⟩)(hE:S.T e=some ti)(hc:ti.size=c)
  (h0:0≤n) (hy:xs[n.toNat]?=some y) (hsd:Nat.beq s d=false):Step S ⟨some d,.indexAddr t (.tmp s) i,ty,pos,aft,g⟩ σ (σ.put d (.ptr s n.toNat c y)):=by
 intro w0 L0 N a w hN ⟨L,hR⟩
 have hh:=hR.hold s (own_lt hR hs (by simp))
 rw [hs] at hh
 obtain⟨b,off,cap,hv,hb,hlt,⟨h,_⟩|⟨_,rfl,p,hp,hL,hcs⟩⟩:=elem_cells hh hy
 ·cases h
 ·cases hp
  refine⟨.pointer (some ⟨b,0+n.toNat*c,none⟩),fun w' _=>?_,Rel.putPlain (n:=d) hR (hN d rfl) rfl hsd ⟨b,hL,by rw [Nat.zero_add],fun _ j z hz=>?_⟩⟩
  ·subst hc
   have hv':a.eval (.tmp s)=.slice (some ⟨b,0,none⟩) xs.length cap:=hv
   simp only [execOp,hv',ev_int hR hi,Sem.run_bind,run_indexAt (S.ok t _ hT).slice (S.ok e _ hE).size h0 hlt]
   rfl
  ·have:=hcs j z hz
   rwa [Nat.zero_add] at this
/-! ### parts of slices -/
def bound(σ:St)(dflt:Nat):Option Operand→Option Nat
 | none=>some dflt
 | some x=>match ov σ x with
  | .av (.int n)=>bif decide (0≤n) then some n.toNat else none
  | _=>none
theorem flat_take_drop{c:Nat}:∀ {xs:List AV},(∀ x∈xs,x.cells.length=c)→∀ (l h:Nat),∀ (o:Nat) y,(flat ((xs.take h).drop l))[o]?=some y→(flat xs)[l*c+o]?=some y:=by
 intro xs hc l h o y hy
 have hc':∀ x∈(xs.take h).drop l,x.cells.length=c:=fun x hx=>hc x (List.mem_of_mem_take (List.mem_of_mem_drop hx))
 obtain⟨i,j,x,h1,h2,h3,_⟩:=flat_split hc' hy
 rw [List.getElem?_drop,List.getElem?_take] at h1
 split at h1
 ·have:=flat_get hc h1 h2
  rw [h3,←Nat.add_assoc,←Nat.add_mul];exact this
 ·cases h1
theorem slice_core{P:Program}{t e c:Nat}(ht:P.underlying t=some (.slice e))(hsz:∃ f,P.info? e=some f∧f.size=c){L:Nat→Lab}{w:World}{xs:List AV}{v:Value}(h:Rep L w none (.sl false c xs) v){lo hi:Option Value}{l u:Nat}
  (hlo:(lo=none∧l=0)∨lo=some (.int .i64 (l:Nat))) (hhi:(hi=none∧u=xs.length)∨hi=some (.int .i64 (u:Nat))) (hlu:l≤u) (hu:u≤xs.length) :
  ∃ v',(∀ w',(Instr.sliceAt t v lo hi none).run P w'=.ok v' w')∧Rep L w none (.sl false c ((xs.take u).drop l)) v':=by
 obtain⟨f,hf,rfl⟩:=hsz
 have run:∀ (a:Option Addr) (cap:Nat),xs.length≤cap→∀ w',(Instr.sliceAt t (.slice a xs.length cap) lo hi none).run P w'=.ok (.slice (if cap=l then a else a.map (·.add (l*f.size))) (u-l) (cap-l)) w':=by
  intro a cap hcap w'
  have e1:∀ (x:Nat) (y:Nat) (code:BoundsCode),x≤y→(Instr.sliceBound (.int .i64 (x:Nat)) y code).run P w'=.ok x w':=fun x y code hxy=>by
   have:(0:Int)≤(x:Int)∧(x:Int)≤(y:Int):=by omega
   simp [Instr.sliceBound,asIntOf,this,hxy]
  have hb:(Instr.sliceBounds true xs.length cap lo hi none).run P w'=.ok (l,u,cap) w':=by
   rcases hlo with⟨rfl,rfl⟩|rfl<;>rcases hhi with⟨rfl,rfl⟩|rfl
   ·simp [Instr.sliceBounds]
   ·simp [Instr.sliceBounds,e1 u cap .sliceAcap (by omega)]
   ·simp [Instr.sliceBounds,e1 l xs.length .sliceB hlu]
   ·simp [Instr.sliceBounds,e1 u cap .sliceAcap (by omega),e1 l u .sliceB hlu]
  simp [Instr.sliceAt,Instr.slice,run_underlying ht,hb,Go.sizeOf,typeInfo,hf]
 have hlen:((xs.take u).drop l).length=u-l:=by rw [List.length_drop,List.length_take];omega
 cases h with
 | @slE _ _ _ a cap _ =>
  have hl0:l=0:=by simp at hu;omega
  have hu0:u=0:=by simpa using hu
  refine⟨_,run a cap (by simp),?_⟩
  subst hl0;subst hu0
  simp only [List.take_nil,List.drop_nil]
  exact .slE (by simp)
 | @slS _ c xs b off cap uu hcap hL hb hc hcell hr =>
  refine⟨_,run _ cap hcap,?_⟩
  by_cases hul:u=l
  ·subst hul
   have:(xs.take u).drop u=[]:=List.drop_eq_nil_of_le (by rw [List.length_take];omega)
   rw [this,Nat.sub_self]
   exact .slE (by simp)
  ·have hcl:¬ cap=l:=by omega
   rw [if_neg hcl]
   simp only [Option.map_some,addr_add]
   rw [← hlen]
   refine .slS (fun o=>uu (l*f.size+o)) (by omega) hL hb (fun x hx=>hc x (List.mem_of_mem_take (List.mem_of_mem_drop hx))) (fun o ho=>?_) (fun o y hy=>hr _ y (flat_take_drop hc l u o y hy))
   rw [Nat.add_assoc]
   refine hcell _ ?_
   rw [hlen] at ho
   have:(l+(u-l))*f.size≤xs.length*f.size:=Nat.mul_le_mul_right _ (by omega)
   rw [Nat.add_mul] at this
   omega
theorem bound_ev{N:Nat}{w0:World}{L0:Nat→Lab}{a:Act}{w:World}{L:Nat→Lab}(hR:RelL S w0 L0 N σ a w L){dflt l:Nat}{o:Option Operand}(h:bound σ dflt o=some l):(o.map a.eval=none∧l=dflt)∨o.map a.eval=some (.int .i64 (l:Nat)):=by
 cases o with
 | none=>simp only [bound,Option.some.injEq] at h;exact .inl ⟨rfl,h.symm⟩
 | some x =>
  simp only [bound] at h
  split at h
  ·rename_i n hx
   cases hn:decide (0≤n) with
   | false=>rw [hn] at h;cases h
   | true =>
    rw [hn,cond_true] at h
    injection h with h
    right
    have:=of_decide_eq_true hn
    simp only [Option.map_some,ev_int hR hx]
    congr 2
    omega
  ·cases h
theorem ovb{x:Operand}{n:Int}(hx:ov σ x=.av (.int n))(h0:0≤n){k:Nat}:bound σ k (some x)=some n.toNat:=by
 simp only [bound,hx,decide_eq_true h0,cond_true]
theorem s_slcS{t e c sz by_:Nat}{z:List AV}{ti:TI}{x:Operand}{lo hi:Option Operand}{xs:List AV}{l u:Nat}(hx:ov σ x=.av (.sl false c xs))(hT:S.T t=some ⟨.slice e,sz,by_,z⟩)(hE:S.T e=some ti)(hc:ti.size=c)
  (hl:bound σ 0 lo=some l) (hu:bound σ xs.length hi=some u) (h1:l≤u) (h2:u≤xs.length):Step S ⟨some d,.slice t x lo hi none,ty,pos,aft,g⟩ σ (σ.put d (.av (.sl false c ((xs.take u).drop l)))) :=
 step_val rfl fun w0 L0 N a w L hR=>by
  obtain⟨m,hm⟩:=ev_av hR hx
  obtain⟨v',hv,hr⟩:=slice_core (S.ok t _ hT).slice (by subst hc;exact(S.ok e _ hE).size) (Rep.replace (π':=none) hm rfl) (bound_ev hR hl) (bound_ev hR hu) h1 h2
  exact⟨v',fun w' _=>by simp only [execOp,Option.map_none,Sem.run_bind,hv w',Result.andThen_ok,Sem.run_pure],hr⟩
theorem s_slcR{t e c sz by_:Nat}{z:List AV}{ti:TI}{x:Operand}{lo hi:Option Operand}{s:Nat}{y:AV}{xs:List AV}{l u:Nat}(hx:ov σ x=.ref s)(hs:get σ s=.av y)(hy:y.sh=.sl false c xs)(hT:S.T t=some ⟨.slice e,sz,by_,z⟩)(hE:S.T e=some ti)(hc:ti.size=c)
  (hl:bound σ 0 lo=some l) (hu:bound σ xs.length hi=some u) (h1:l≤u) (h2:u≤xs.length) (hsd:Nat.beq s d=false):Step S ⟨some d,.slice t x lo hi none,ty,pos,aft,g⟩ σ (σ.put d (.bor s (.sl false c ((xs.take u).drop l)))):=by
 intro w0 L0 N a w hN ⟨L,hR⟩
 obtain⟨m,hm,_⟩:=hold_plain hR hx (by simp)
 simp only [Hold] at hm
 have hh:=hR.hold s (own_lt hR hs (by simp))
 rw [hs,←hm] at hh
 simp only [Hold] at hh
 have hsh:=Rep.toSh (L':=fun b=>(L b).without s) (fun b _ hb=>without_sh hb) hh (fun p hp b q hb=>by cases hp;rw [hb];simp [Lab.without,Nat.beq_refl])
 rw [hy] at hsh
 obtain⟨v',hv,hr⟩:=slice_core (S.ok t _ hT).slice (by subst hc;exact(S.ok e _ hE).size) hsh (bound_ev hR hl) (bound_ev hR hu) h1 h2
 exact⟨v',fun w' _=>by simp only [execOp,Option.map_none,Sem.run_bind,hv w',Result.andThen_ok,Sem.run_pure],Rel.putPlain (n:=d) hR (hN d rfl) rfl hsd hr⟩
/- the common shapes, of mapped lists -/
section
variable {α:Type} {f:α→AV} {l:List α} {t e c sz by_:Nat} {z:List AV} {ti:TI} {x b:Operand} {n:Int}
theorem s_slcSlo(hx:ov σ x=.av (.sl false c (l.map f)))(hT:S.T t=some ⟨.slice e,sz,by_,z⟩)(hE:S.T e=some ti)(hc:ti.size=c)(hb:ov σ b=.av (.int n))(h0:0≤n)(h1:n.toNat≤l.length) :
  Step S ⟨some d,.slice t x (some b) none none,ty,pos,aft,g⟩ σ (σ.put d (.av (.sl false c ((l.drop n.toNat).map f)))):=by
 have:=s_slcS (d:=d) (ty:=ty) (pos:=pos) (aft:=aft) (g:=g) hx hT hE hc (ovb hb h0) (show bound σ _ none=some _ from rfl) (by rw [List.length_map];exact h1) (Nat.le_refl _)
 rwa [List.take_length,←List.map_drop] at this
theorem s_slcShi(hx:ov σ x=.av (.sl false c (l.map f)))(hT:S.T t=some ⟨.slice e,sz,by_,z⟩)(hE:S.T e=some ti)(hc:ti.size=c)(hb:ov σ b=.av (.int n))(h0:0≤n)(h1:n.toNat≤l.length) :
  Step S ⟨some d,.slice t x none (some b) none,ty,pos,aft,g⟩ σ (σ.put d (.av (.sl false c ((l.take n.toNat).map f)))):=by
 have:=s_slcS (d:=d) (ty:=ty) (pos:=pos) (aft:=aft) (g:=g) hx hT hE hc (show bound σ 0 none=some _ from rfl) (ovb hb h0) (Nat.zero_le _) (by rw [List.length_map];exact h1)
 rwa [List.drop_zero,←List.map_take] at this
theorem s_slcRlo{s:Nat}{y:AV}(hx:ov σ x=.ref s)(hs:get σ s=.av y)(hy:y.sh=.sl false c (l.map f))(hT:S.T t=some ⟨.slice e,sz,by_,z⟩)(hE:S.T e=some ti)(hc:ti.size=c)(hb:ov σ b=.av (.int n))(h0:0≤n)(h1:n.toNat≤l.length)(hsd:Nat.beq s d=false) :
  Step S ⟨some d,.slice t x (some b) none none,ty,pos,aft,g⟩ σ (σ.put d (.bor s (.sl false c ((l.drop n.toNat).map f)))):=by
 have:=s_slcR (d:=d) (ty:=ty) (pos:=pos) (aft:=aft) (g:=g) hx hs hy hT hE hc (ovb hb h0) (show bound σ _ none=some _ from rfl) (by rw [List.length_map];exact h1) (Nat.le_refl _) hsd
 rwa [List.take_length,←List.map_drop] at this
end
/-! ### bits -/
theorem toNat_ofInt64(a:Nat)(ha:a<9223372036854775808):(BitVec.ofInt 64 (a:Int)).toNat=a:=by simp;omega
theorem wrap_lt{n:Nat}(h:n<9223372036854775808):IntKind.i64.wrap (n:Int)=(n:Int):=IntWalk.i64_in _ (by omega)
theorem andNot_nat(a b:Nat)(ha:a<9223372036854775808)(hb:b<9223372036854775808):((BitVec.ofInt 64 (a:Int)) &&& ~~~(BitVec.ofInt 64 (b:Int))).toNat=a ^^^ (a &&& b):=by
 apply Nat.eq_of_testBit_eq
 intro i
 rw [BitVec.toNat_and,BitVec.toNat_not,toNat_ofInt64 a ha,toNat_ofInt64 b hb,Nat.testBit_and,Nat.testBit_xor,Nat.testBit_and]
 have h1:(2 ^ 64-1-b).testBit i=(decide (i<64)&&!b.testBit i):=by
  rw [show 2 ^ 64-1-b=2 ^ 64-(b+1) by omega]
  exact Nat.testBit_two_pow_sub_succ (by omega) i
 rw [h1]
 by_cases hi:i<64
 ·simp only [hi,decide_true,Bool.true_and];cases a.testBit i<;>cases b.testBit i<;>rfl
 ·have:a.testBit i=false:=Nat.testBit_lt_two_pow (Nat.lt_of_lt_of_le ha (by
   calc 9223372036854775808=2 ^ 63:=by decide
    _≤2 ^ i:=Nat.pow_le_pow_right (by decide) (by omega)))
  simp [this]
theorem s_andNot{t t2:Nat}{x y:Operand}{a b:Int}(hx:ov σ x=.av (.int a))(hy:ov σ y=.av (.int b))(h0:0≤a)(h1:0≤b)(hr:InR a)(hr':InR b):Step S ⟨some d,.binOp .andNot t x y t2,ty,pos,aft,g⟩ σ (σ.put d (.av (.int ((a.toNat ^^^ (a.toNat &&& b.toNat):Nat):Int)))) :=
 s_bin2 hx hy rfl ⟨_,fun _ _=>.int,fun w=>by
  obtain⟨n,rfl⟩:=Int.eq_ofNat_of_zero_le h0
  obtain⟨m,rfl⟩:=Int.eq_ofNat_of_zero_le h1
  have hn:n<9223372036854775808:=by unfold InR at hr;omega
  have e:=andNot_nat n m hn (by unfold InR at hr';omega)
  have hlt:n ^^^ (n &&& m)<9223372036854775808:=Nat.xor_lt_two_pow (n:=63) hn (Nat.lt_of_le_of_lt Nat.and_le_left hn)
  simp only [eqGuard,binOp,Op.intBits,Int.toNat_natCast]
  rw [← wrap_lt hlt,←e];rfl⟩
theorem xor_nat(a b:Nat)(ha:a<9223372036854775808)(hb:b<9223372036854775808):((BitVec.ofInt 64 (a:Int)) ^^^ (BitVec.ofInt 64 (b:Int))).toNat=a ^^^ b:=by
 rw [BitVec.toNat_xor,toNat_ofInt64 a ha,toNat_ofInt64 b hb]
theorem s_xor{t t2:Nat}{x y:Operand}{a b:Int}(hx:ov σ x=.av (.int a))(hy:ov σ y=.av (.int b))(h0:0≤a)(h1:0≤b)(hr:InR a)(hr':InR b):Step S ⟨some d,.binOp .xor t x y t2,ty,pos,aft,g⟩ σ (σ.put d (.av (.int ((a.toNat ^^^ b.toNat:Nat):Int)))) :=
 s_bin2 hx hy rfl ⟨_,fun _ _=>.int,fun w=>by
  obtain⟨n,rfl⟩:=Int.eq_ofNat_of_zero_le h0
  obtain⟨m,rfl⟩:=Int.eq_ofNat_of_zero_le h1
  have hn:n<9223372036854775808:=by unfold InR at hr;omega
  have hm:m<9223372036854775808:=by unfold InR at hr';omega
  have e:=xor_nat n m hn hm
  have hlt:n ^^^ m<9223372036854775808:=Nat.xor_lt_two_pow (n:=63) hn hm
  simp only [eqGuard,binOp,Op.intBits,Int.toNat_natCast]
  rw [← wrap_lt hlt,←e];rfl⟩
end
/-! ### a slice against nil -/
section
variable {S:Sys} {N:Nat} {σ:St}
theorem J.stepX{ι:Type}{q:Bool}{ops:Array Oper}{l:List Oper}{K:St→Prop}{o:Oper}(σ':ι→St)(p:ι→Prop)(hg:live ops o.guard σ=some true)
  (hs:∀ (w0:World) (L0:Nat→Lab) (N:Nat) (a:Act) (w:World),(∀ d:Nat,o.dst=some d→DOk S N d)→Rel S w0 L0 N σ a w→∃ i,p i∧∃ v,(∀ w',Ext w w'→(execOp a.eval o).run S.P w'=.ok (.value v) w')∧Rel S w0 L0 N (σ' i) (a.put o.dst v) w)
  (h:∀ i,p i→J q S N ops l K (σ' i)):J q S N ops (o::l) K σ:=by
 unfold J at *
 cases q with
 | true =>
  intro hd w0 L0 Q a w hQ hR
  obtain⟨h1,h2⟩:=dstOk_cons hd
  obtain⟨i,hi,v,hv,hR'⟩:=hs w0 L0 N a w h1 hR
  have:=h i hi h2 w0 L0 Q (a.put o.dst v) w hQ hR'
  simp only [wpQuiet,live_wanted hg hR,if_true]
  refine⟨v,fun w' hw'=>?_,this⟩
  unfold Oper.quietAt
  rw [hv w' hw']
  exact⟨rfl,rfl⟩
 | false =>
  intro hd w0 L0 Q a w hQ hR
  obtain⟨h1,h2⟩:=dstOk_cons hd
  obtain⟨i,hi,v,hv,hR'⟩:=hs w0 L0 N a w h1 hR
  have:=h i hi h2 w0 L0 Q (a.put o.dst v) w hQ hR'
  simp only [wpList,live_wanted hg hR,if_true]
  refine .inl ?_
  unfold Oper.wp
  rw [hv w (Ext.refl w)]
  exact this
theorem run_eqNil{P:Program}{t e:Nat}(ht:P.underlying t=some (.slice e))(a:Option Addr)(len cap:Nat)(w:World):(binOp .eql t (.slice a len cap) (.slice none 0 0)).run P w=.ok (.bool a.isNone) w:=by
 have e:(Op.equal t (.slice a len cap) (.slice none 0 0)).run P w=.ok a.isNone w:=by
  show(Op.equalIn (9999+1) t (.slice a len cap) (.slice none 0 0)).run P w=_
  unfold Op.equalIn
  rw [Sem.run_bind,run_underlying ht,Result.andThen_ok]
  cases a<;>rfl
 show(do pure (.bool (← Op.equal t (.slice a len cap) (.slice none 0 0))):Sem Value).run P w=_
 rw [Sem.run_bind,e];rfl
theorem J.eqNil{q:Bool}{ops:Array Oper}{l:List Oper}{K:St→Prop}{d ty:Nat}{pos:String}{aft:Array Edge}{g:Option (Nat×Bool)}{t t2 e sz by_ c:Nat}{z:List AV}{x y:Operand}{o:Bool}{xs:List AV}(hg:live ops g σ=some true)(hx:rd σ (ov σ x)=.sl o c xs)(hy:ov σ y=.av .nil)
  (hT:S.T t=some ⟨.slice e,sz,by_,z⟩) (h:∀ b:Bool,(xs≠[]→b=false)→J q S N ops l K (σ.put d (.av (.bool b)))):J q S N ops (⟨some d,.binOp .eql t x y t2,ty,pos,aft,g⟩::l) K σ:=by
 refine J.stepX (fun b:Bool=>σ.put d (.av (.bool b))) (fun b=>xs≠[]→b=false) hg ?_ h
 intro w0 L0 N a w hN ⟨L,hR⟩
 obtain⟨L',π,_,_,hrep⟩:=rd_ok hR hx (by simp)
 obtain⟨aa,cap,hv⟩:=sl_inv hrep
 refine⟨aa.isNone,fun hne=>?_,.bool aa.isNone,fun w' _=>?_,Rel.putPlain (n:=d) hR (hN d rfl) rfl rfl (by exact Rep.bool)⟩
 ·cases hxs:xs with
  | nil=>exact absurd hxs hne
  | cons y0 r =>
   obtain⟨b,off,cap',hv',_⟩:=elem_cells hrep (i:=0) (y:=y0) (by rw [hxs];rfl)
   rw [hv] at hv'
   injection hv' with h1
   rw [h1];rfl
 ·have hb:=run_eqNil (S.ok t _ hT).slice aa xs.length cap w'
  simp only [execOp,hv,ev_nil hR hy,eqGuard,Sem.run_bind]
  simp [hb]
end
/-! ### on natural numbers -/
def shr(a b:Nat):Nat:=a / 2 ^ b
theorem shr_le(a b:Nat):shr a b≤a:=Nat.div_le_self _ _
section
variable {S:Sys} {σ:St} {d ty:Nat} {pos:String} {aft:Array Edge} {g:Option (Nat×Bool)} {t t2:Nat} {x y:Operand} {a b:Nat}
theorem Step.cast{o:Oper}{n m:Int}(h:Step S o σ (σ.put d (.av (.int n))))(e:n=m):Step S o σ (σ.put d (.av (.int m))):=by subst e;exact h
theorem s_shrN(hx:ov σ x=.av (.int (a:Int)))(hy:ov σ y=.av (.int (b:Int)))(h1:b≤62):Step S ⟨some d,.binOp .shr t x y t2,ty,pos,aft,g⟩ σ (σ.put d (.av (.int ((shr a b:Nat):Int)))) :=
 (s_shr hx hy (by omega) (by omega)).cast (by
  rw [Int.toNat_natCast,Int.fdiv_eq_ediv_of_nonneg _ (by exact_mod_cast Nat.zero_le _)]
  unfold shr
  norm_cast)
theorem s_and1(hx:ov σ x=.av (.int (a:Int)))(hy:ov σ y=.av (.int 1))(hr:InR a):Step S ⟨some d,.binOp .and t x y t2,ty,pos,aft,g⟩ σ (σ.put d (.av (.int ((a%2:Nat):Int)))) :=
 (s_and hx hy (by omega) (by omega) hr).cast (by rw [Int.toNat_natCast,show Int.toNat 1=1 from rfl,Nat.and_one_is_mod])
theorem s_shl1(hx:ov σ x=.av (.int 1))(hy:ov σ y=.av (.int (b:Int)))(h1:b≤62):Step S ⟨some d,.binOp .shl t x y t2,ty,pos,aft,g⟩ σ (σ.put d (.av (.int ((2 ^ b:Nat):Int)))) :=
 have e:(1:Int)*2 ^ ((b:Int)).toNat=((2 ^ b:Nat):Int):=by rw [Int.toNat_natCast];simp
 have h2:2 ^ b≤2 ^ 62:=Nat.pow_le_pow_right (by decide) h1
 (s_shl hx hy (by omega) (by omega) (by rw [e];unfold InR;generalize 2 ^ b=m at h2 ⊢;omega)).cast e
theorem s_andNotN(hx:ov σ x=.av (.int (a:Int)))(hy:ov σ y=.av (.int (b:Int)))(hr:InR a)(hr':InR b):Step S ⟨some d,.binOp .andNot t x y t2,ty,pos,aft,g⟩ σ (σ.put d (.av (.int ((a ^^^ (a &&& b):Nat):Int)))) :=
 (s_andNot hx hy (by omega) (by omega) hr hr').cast (by rw [Int.toNat_natCast,Int.toNat_natCast])
theorem s_xorN(hx:ov σ x=.av (.int (a:Int)))(hy:ov σ y=.av (.int (b:Int)))(hr:InR a)(hr':InR b):Step S ⟨some d,.binOp .xor t x y t2,ty,pos,aft,g⟩ σ (σ.put d (.av (.int ((a ^^^ b:Nat):Int)))) :=
 (s_xor hx hy (by omega) (by omega) hr hr').cast (by rw [Int.toNat_natCast,Int.toNat_natCast])
theorem s_rem2(hx:ov σ x=.av (.int (a:Int)))(hy:ov σ y=.av (.int 2)):Step S ⟨some d,.binOp .rem t x y t2,ty,pos,aft,g⟩ σ (σ.put d (.av (.int ((a%2:Nat):Int)))) :=
 (s_rem hx hy (by omega)).cast (by rw [Int.tmod_eq_emod_of_nonneg (by omega)];norm_cast)
theorem s_quo2(hx:ov σ x=.av (.int (a:Int)))(hy:ov σ y=.av (.int 2))(hr:InR a):Step S ⟨some d,.binOp .quo t x y t2,ty,pos,aft,g⟩ σ (σ.put d (.av (.int ((a / 2:Nat):Int)))) :=
 have e:((a:Int)).tdiv 2=((a / 2:Nat):Int):=by rw [Int.tdiv_eq_ediv_of_nonneg (by omega)];norm_cast
 (s_quo hx hy (by omega) (by rw [e];unfold InR at *;omega)).cast e
end
/-! ### ghost steps -/
section
variable {S:Sys} {N:Nat} {σ:St}
theorem J.freezeO{q:Bool}{ops:Array Oper}{l:List Oper}{K:St→Prop}(s:Nat){x z:AV}(hs:get σ s=.av x)(hx:x.isOwn=true)(hz:x.sh=z)(ho:z.isOwn=false)(h:J q S N ops l K (σ.put s (.av z))):J q S N ops l K σ:=.freeze s hs hz ho h
end
end FM
