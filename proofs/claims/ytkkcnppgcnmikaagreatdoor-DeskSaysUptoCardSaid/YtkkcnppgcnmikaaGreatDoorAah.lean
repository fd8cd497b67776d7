/- An abstract machine over the kit's rules, part 7: operations that make or write memory. -/
import Derived.Test.YtkkcnppgcnmikaaGreatDoorAag
namespace FM
open Go Go.RowKit
def EStep(S:Sys)(o:Oper)(σ σ':St):Prop :=
 ∀ (w0:World) (L0:Nat→Lab) (N:Nat) (a:Act) (w:World),(∀ d:Nat,o.dst=some d→DOk S N d)→Rel S w0 L0 N σ a w →
  ∃ v w',((execOp a.eval o).run S.P w=.ok (.value v) w'∨((execOp a.eval o).run S.P w=.ok .skip w'∧v=undef))∧Rel S w0 L0 N σ' (a.put o.dst v) w'
section
variable {S:Sys} {N:Nat} {σ σ':St}
theorem J.eff{ops:Array Oper}{l:List Oper}{K:St→Prop}{o:Oper}(hg:live ops o.guard σ=some true)(hs:EStep S o σ σ')(h:J false S N ops l K σ'):J false S N ops (o::l) K σ:=by
 unfold J at *
 intro hdo w0 L0 Q a w hQ hR
 obtain⟨h1,h2⟩:=dstOk_cons hdo
 obtain⟨v,w',hv,hR'⟩:=hs w0 L0 N a w h1 hR
 have hk:=h h2 w0 L0 Q _ w' hQ hR'
 simp only [wpList,live_wanted hg hR,if_true]
 refine .inl ?_
 unfold Oper.wp
 rcases hv with hv|⟨hv,rfl⟩
 ·rw [hv];exact hk
 ·rw [hv];exact hk
/-! ### labels, remapped -/
def remap(φ:List Nat→Option (List Nat))(L:Nat→Lab):Nat→Lab:=fun b =>
 match L b with
 | .my p=>match φ p with
  | some p'=>.my p'
  | none=>.sh
 | l=>l
theorem remap_my{φ:List Nat→Option (List Nat)}{L:Nat→Lab}{b:Nat}{p:List Nat}(h:remap φ L b=.my p):∃ p',L b=.my p'∧φ p'=some p:=by
 simp only [remap] at h
 cases hL:L b with
 | my p' =>
  rw [hL] at h
  simp only at h
  cases hφ:φ p' with
  | none=>rw [hφ] at h;cases h
  | some r=>rw [hφ] at h;injection h with h;subst h;exact⟨p',rfl,hφ⟩
 | sh=>rw [hL] at h;cases h
 | fo=>rw [hL] at h;cases h
theorem remap_to{φ:List Nat→Option (List Nat)}{L:Nat→Lab}{b:Nat}{p p':List Nat}(h:L b=.my p)(hφ:φ p=some p'):remap φ L b=.my p':=by simp only [remap,h,hφ]
theorem remap_sh{φ:List Nat→Option (List Nat)}{L:Nat→Lab}{b:Nat}(h:L b=.sh):remap φ L b=.sh:=by simp only [remap,h]
theorem remap_fo{φ:List Nat→Option (List Nat)}{L:Nat→Lab}{b:Nat}:remap φ L b=.fo↔L b=.fo:=by
 simp only [remap]
 cases L b with
 | my p=>simp only;cases φ p<;>simp
 | _=>simp
structure Inj(φ:List Nat→Option (List Nat)):Prop where
 inj:∀ p p' r,φ p=some r→φ p'=some r→p=p'
 ne:∀ p,φ p≠some []
def setL(φ:List Nat→Option (List Nat))(g d:Nat)(L:Nat→Lab):Nat→Lab:=fun b=>if b=g then .my [d] else remap φ L b
theorem LOk.setL{L0 L:Nat→Lab}{w0 w w':World}(h:LOk L0 w0 L w)(hs:w.heap.size≤w'.heap.size){φ:List Nat→Option (List Nat)}(hφ:Inj φ){g d:Nat}(hd:∀ p,φ p≠some [d])(hg:g<w'.heap.size)(hg0:g<w0.heap.size→∃ q,L g=.my q):LOk L0 w0 (FM.setL φ g d L) w' where
 lt b p hb:=by
  unfold FM.setL at hb
  split at hb
  ·subst_vars;exact hg
  ·obtain⟨p',h1,_⟩:=remap_my hb;exact Nat.lt_of_lt_of_le (h.lt b _ h1) hs
 inj b b' p hb hb':=by
  unfold FM.setL at hb hb'
  split at hb<;>split at hb'
  ·subst_vars;rfl
  ·injection hb with hb;subst hb;obtain⟨p',_,h2⟩:=remap_my hb';exact absurd h2 (hd p')
  ·injection hb' with hb';subst hb';obtain⟨p',_,h2⟩:=remap_my hb;exact absurd h2 (hd p')
  ·obtain⟨p1,h1,h2⟩:=remap_my hb
   obtain⟨p1',h1',h2'⟩:=remap_my hb'
   have:=hφ.inj _ _ _ h2 h2'
   subst this
   exact h.inj _ _ _ h1 h1'
 head b p hb:=by
  unfold FM.setL at hb
  split at hb
  ·injection hb with hb;subst hb;simp
  ·obtain⟨p',_,h2⟩:=remap_my hb;intro e;subst e;exact hφ.ne p' h2
 old b p hlt hb:=by
  unfold FM.setL at hb
  split at hb
  ·subst_vars;obtain⟨q,hq⟩:=hg0 hlt;exact h.old _ q hlt hq
  ·obtain⟨p',h1,_⟩:=remap_my hb;exact h.old b _ hlt h1
 fo b hlt:=by
  unfold FM.setL
  split
  ·rename_i hbg
   subst hbg
   obtain⟨q,hq⟩:=hg0 hlt
   refine⟨fun e=>(by cases e),fun e=>?_⟩
   have:=(h.fo b hlt).2 e
   rw [hq] at this;cases this
  ·exact remap_fo.trans (h.fo b hlt)
 new b hge hf:=by
  unfold FM.setL at hf
  split at hf
  ·cases hf
  ·exact h.new b hge (remap_fo.1 hf)
def φput(d:Nat):List Nat→Option (List Nat)
 | []=>none
 | h::q=>bif Nat.beq h d then none else some (h::q)
theorem φput_inj(d:Nat):Inj (φput d):=by
 refine⟨fun p p' r h h'=>?_,fun p h=>?_⟩
 ·cases p with
  | nil=>cases h
  | cons a q =>
   cases p' with
   | nil=>cases h'
   | cons a' q' =>
    simp only [φput] at h h'
    cases ha:Nat.beq a d<;>cases ha':Nat.beq a' d<;>simp_all
 ·cases p with
  | nil=>cases h
  | cons a q=>simp only [φput] at h;cases ha:Nat.beq a d<;>simp_all
theorem φput_ne(d:Nat)(p:List Nat):φput d p≠some [d]:=by
 cases p with
 | nil=>simp [φput]
 | cons a q =>
  simp only [φput]
  cases ha:Nat.beq a d with
  | true=>simp
  | false=>have:=of_not_beq ha;simp;intro e;exact absurd e this
theorem alloc_ext(w:World)(o:Obj):Ext w (w.alloc o):=(Below.refl _ _).alloc (Nat.le_refl _) o
theorem RelL.alloc{w0:World}{L0:Nat→Lab}{a:Act}{w:World}{L:Nat→Lab}(h:RelL S w0 L0 N σ a w L){d:Nat}(hd:DOk S N d){o:Obj}{x:AV}{v:Value}(hx:Rep (setL (φput d) w.heap.size d L) (w.alloc o) (some [d]) x v) :
  Rel S w0 L0 N (σ.put d (.av x)) (a.put (some d) v) (w.alloc o):=by
 have he:=alloc_ext w o
 have hlt:w.heap.size<(w.alloc o).heap.size:=by simp
 refine⟨_,h.defers,by simp [Act.put,h.size],h.keep.ext he,h.lok.setL he.size (φput_inj d) (φput_ne d) hlt (fun h'=>absurd h' (by have:=h.keep.size;omega)),fun n hn=>?_,fun n hn=>?_,fun i hi=>(getD_set_other (hd.ne hi)).trans (h.fix i hi),h.glob⟩
 ·simp only [get,kill_eq,Act.put]
  by_cases hnd:d=n
  ·subst hnd
   rw [Nat.beq_refl,cond_true,getD_set_same (by rw [h.size];exact hd.lt)]
   exact hx
  ·rw [not_beq hnd,cond_false,getD_set_other hnd]
   cases hdep:(get σ n).dep d with
   | true=>trivial
   | false =>
    rw [cond_false]
    refine Hold.relab (good:=fun t=>t≠d) he.size he.os he.tape he.output (fun b h1 h2=>⟨by unfold setL;rw [if_neg (by omega)];exact remap_sh h1,he.block b h2⟩) (fun b t q h1 h2=>⟨by unfold setL;rw [if_neg (by have:=h.lok.lt b _ h1;omega)];exact remap_to h1 (by simp only [φput,not_beq h2,cond_false]),he.block b (h.lok.lt b _ h1)⟩)
     (fun s hs=>getD_set_other (fun e=>hs e.symm)) (fun e=>hnd e.symm) (fun s hs e=>by subst e;rw [hdep] at hs;cases hs) (h.hold n hn)
 ·simp only [get,kill_eq]
  rw [not_beq (show d≠n by have:=hd.lt;omega),cond_false,h.out n hn];rfl
theorem Rep.inNew{w0:World}{L0:Nat→Lab}{a:Act}{w:World}{L:Nat→Lab}(h:RelL S w0 L0 N σ a w L){d:Nat}{o:Obj}{x:AV}{v:Value}(hx:Rep L w none x v):Rep (setL (φput d) w.heap.size d L) (w.alloc o) none x v:=by
 have he:=alloc_ext w o
 have:=h.size
 exact hx.frame he.size he.os he.tape he.output (fun b h1 h2=>⟨by unfold setL;rw [if_neg (by omega)];exact remap_sh h1,he.block b h2⟩) none (fun p hp=>by cases hp)
theorem rep_new{w:World}{L:Nat→Lab}{d c n cap:Nat}{arr:Array Value}{e:TypeId}{xs:List AV}(hn:xs.length=n)(hc:∀ x∈xs,x.cells.length=c)(hcap:n≤cap)(hsz:arr.size=cap*c)
  (hr:∀ (o:Nat) y,(flat xs)[o]?=some y→∃ u,arr[o]?=some u∧Rep (setL (φput d) w.heap.size d L) (w.alloc (.cells arr e)) (some ([d]++[o])) y u) :
  Rep (setL (φput d) w.heap.size d L) (w.alloc (.cells arr e)) (some [d]) (.sl true c xs) (.slice (some ⟨w.heap.size,0,none⟩) n cap):=by
 subst hn
 refine .slO (fun o=>arr.getD o undef) (by simp [setL]) (heap_alloc_new w _) hcap hsz hc (fun o ho=>?_) (fun o y hy=>?_)
 ·have:o<arr.size:=by rw [hsz];exact Nat.lt_of_lt_of_le ho (Nat.mul_le_mul_right _ hcap)
  simp [this]
 ·obtain⟨u,h1,h2⟩:=hr o y hy
  simpa [h1] using h2
theorem toV_rep{L:Nat→Lab}{w:World}{π:Option (List Nat)}{x:AV}(h:x.flatPlain=true):Rep L w π x x.toV:=by
 cases x<;>first|exact .int|exact .bool|exact .str|exact .val|exact .nil|(simp [AV.flatPlain] at h)
theorem flat_replicate(n:Nat)(z:AV):flat (List.replicate n z)=(List.replicate n z.cells).flatten:=by
 simp [flat,List.flatMap_replicate]
theorem getElem?_replicate_flatten{α:Type}(l:List α)(n o:Nat)(h:o<n*l.length):(List.replicate n l).flatten[o]?=l[o%l.length]?:=by
 induction n generalizing o with
 | zero=>omega
 | succ n ih =>
  rw [List.replicate_succ,List.flatten_cons]
  by_cases ho:o<l.length
  ·rw [List.getElem?_append_left ho,Nat.mod_eq_of_lt ho]
  ·rw [List.getElem?_append_right (by omega),ih _ (by rw [Nat.add_mul] at h;omega)]
   congr 1
   rw [Nat.mod_eq_sub_mod (by omega:o≥l.length)]
theorem e_mks{t e c:Nat}{sz by_:Nat}{zz:List AV}{ti:TI}{z:AV}{x:Operand}{n:Int}{d ty:Nat}{pos:String}{aft:Array Edge}{g:Option (Nat×Bool)}(hx:ov σ x=.av (.int n))(hT:S.T t=some ⟨.slice e,sz,by_,zz⟩)(hE:S.T e=some ti)(hc:ti.size=c)(h1:Nat.blt 0 c=true)(hfit:(z.cells.length=c∧ti.zero=z.cells))
  (h0:0≤n) (hb:n*ti.bytes≤140737488355328) (hm:n≤4611686018427387904):EStep S ⟨some d,.makeSlice t x x,ty,pos,aft,g⟩ σ (σ.put d (.av (.sl true c (List.replicate n.toNat z)))):=by
 intro w0 L0 N a w hN ⟨L,hR⟩
 obtain⟨k,rfl⟩:=Int.eq_ofNat_of_zero_le h0
 subst hc
 obtain⟨f,zv,hf1,hf2,hf3,hf4,hf5,hf6,hf7⟩:=(S.ok e ti hE).info
 have hpos:0<ti.size:=by simp [Nat.blt] at h1;omega
 have hw:IntKind.i64.wrap (k:Int)=k:=IntWalk.i64_in _ (by omega)
 have hzl:zv.cells.toList=z.cells.map AV.toV:=by rw [hf5,hfit.2]
 have hzs:zv.cells.size=ti.size:=hf7
 have hlarge:¬ (f.bytes*(k:Int)>2 ^ 48):=by rw [hf3];rw [Int.mul_comm] at hb;omega
 let arr:Array Value:=(Array.range (k*ti.size)).map (fun i=>zv.cells[i%zv.cells.size]!)
 have hrun:(execOp a.eval ⟨some d,.makeSlice t x x,ty,pos,aft,g⟩).run S.P w=.ok (.value (.slice (some ⟨w.heap.size,0,none⟩) k k)) (w.alloc (.cells arr e)):=by
  simp only [execOp,ev_int hR hx,Instr.makeSlice,Sem.run_bind,run_underlying (S.ok t _ hT).slice,Result.andThen_ok,asInt,asIntOf,Sem.run_pure,typeInfo,run_program,hf1,hw]
  have hl0:¬ ((k:Int)<0):=by omega
  simp only [hl0,decide_false,hlarge,Bool.false_eq_true,Bool.or_self,gt_iff_lt,if_false,Int.lt_irrefl,Sem.run_bind,run_askRoom,Result.andThen_ok,Go.sizeOf,typeInfo,run_program,hf1,Sem.run_pure,hf2,Int.toNat_natCast]
  by_cases hk:k*ti.size=0
  ·have hk0:k=0:=by rcases Nat.mul_eq_zero.1 hk with h|h<;>omega
   subst hk0
   have hr0:Array.range 0=#[]:=rfl
   simp [newRow,arr,hr0]
  ·rw [if_neg hk]
   simp [zeroValue,typeInfo,hf1,hf4,newRow,arr]
 refine⟨_,_,.inl hrun,hR.alloc (hN d rfl) ?_⟩
 have harr:arr.size=k*ti.size:=by simp [arr]
 refine rep_new (by simp) (fun y hy=>by rw [List.eq_of_mem_replicate hy];exact hfit.1) (Nat.le_refl _) harr fun o y hy=>?_
 simp only [Int.toNat_natCast] at hy
 have hol:o<k*z.cells.length:=by
  have:=(List.getElem?_eq_some_iff.1 hy).1
  rw [flat_length (c:=z.cells.length) (fun y hy=>by rw [List.eq_of_mem_replicate hy]),List.length_replicate] at this
  exact this
 rw [flat_replicate,getElem?_replicate_flatten _ _ _ hol] at hy
 have ho2:o<k*ti.size:=by rw [← hfit.1];exact hol
 refine⟨zv.cells[o%zv.cells.size]!,by simp [arr,ho2],?_⟩
 have hmod:o%zv.cells.size<zv.cells.size:=Nat.mod_lt _ (by omega)
 have hy':y.toV=zv.cells[o%zv.cells.size]! := by
  have e1:zv.cells.toList[o%zv.cells.size]?=some y.toV:=by
   rw [hzl,List.getElem?_map]
   have:zv.cells.size=z.cells.length:=by rw [hzs,hfit.1]
   rw [this,hy];rfl
  rw [Array.getElem?_toList] at e1
  rw [getElem!_def,e1]
 rw [← hy']
 have hplain:y.flatPlain=true:=by
  rw [hfit.2] at hf6
  exact(List.all_eq_true.1 hf6) y (List.mem_of_getElem? hy)
 exact toV_rep hplain
theorem e_mks1{t e:Nat}{sz by_ by2:Nat}{zz:List AV}{kk:TK}{z:AV}{x:Operand}{n:Int}{d ty:Nat}{pos:String}{aft:Array Edge}{g:Option (Nat×Bool)}(hx:ov σ x=.av (.int n))(hT:S.T t=some ⟨.slice e,sz,by_,zz⟩)(hE:S.T e=some ⟨kk,1,by2,[z]⟩)(hz:z.cells=[z])
  (h0:0≤n) (hb:n*by2≤140737488355328) (hm:n≤4611686018427387904):EStep S ⟨some d,.makeSlice t x x,ty,pos,aft,g⟩ σ (σ.put d (.av (.sl true 1 (List.replicate n.toNat z)))) :=
 e_mks (ti:=⟨kk,1,by2,[z]⟩) hx hT hE rfl rfl ⟨by rw [hz];rfl,hz.symm⟩ h0 hb hm
theorem e_mksI{t e:Nat}{sz by_ by2:Nat}{zz:List AV}{kk:TK}{x:Operand}{n:Int}{d ty:Nat}{pos:String}{aft:Array Edge}{g:Option (Nat×Bool)}(hx:ov σ x=.av (.int n))(hT:S.T t=some ⟨.slice e,sz,by_,zz⟩)(hE:S.T e=some ⟨kk,1,by2,[.int 0]⟩)
  (h0:0≤n) (hb:n*by2≤140737488355328) (hm:n≤4611686018427387904):EStep S ⟨some d,.makeSlice t x x,ty,pos,aft,g⟩ σ (σ.put d (.av (.sl true 1 ((List.replicate n.toNat (0:Int)).map .int)))):=by
 rw [List.map_replicate]
 exact e_mks1 hx hT hE rfl h0 hb hm
/-! ### literals -/
theorem foldl_set_list:∀ (vs:List Value) (k off:Nat) (arr:Array Value),off+k+vs.length≤arr.size →
  ((vs.zipIdx k).foldl (fun cs p=>cs.setIfInBounds (off+p.2) p.1) arr).size=arr.size ∧
  ∀ j,((vs.zipIdx k).foldl (fun cs p=>cs.setIfInBounds (off+p.2) p.1) arr)[j]?=if off+k≤j∧j<off+k+vs.length then vs[j-(off+k)]? else arr[j]?
 | [],k,off,arr,_=>by simp;intro j h1 h2;omega
 | v::vs,k,off,arr,h=>by
  simp only [List.zipIdx_cons,List.foldl_cons,List.length_cons] at h ⊢
  obtain⟨h1,h2⟩:=foldl_set_list vs (k+1) off (arr.setIfInBounds (off+k) v) (by simp;omega)
  refine⟨by rw [h1];simp,fun j=>?_⟩
  rw [h2]
  by_cases hj:j=off+k
  ·subst hj
   rw [if_neg (by omega),if_pos (by omega)]
   simp [show off+k<arr.size by omega]
  ·by_cases hin:off+(k+1)≤j∧j<off+(k+1)+vs.length
   ·rw [if_pos hin,if_pos (by omega),show j-(off+k)=(j-(off+(k+1)))+1 by omega,List.getElem?_cons_succ]
   ·rw [if_neg hin,if_neg (by omega),Array.getElem?_setIfInBounds_ne (fun e=>hj e.symm)]
theorem foldl_set_cells(v:Value)(off:Nat)(arr:Array Value)(h:off+v.cells.size≤arr.size) :
  (v.cells.zipIdx.foldl (fun cs (c,j)=>cs.setIfInBounds (off+j) c) arr).size=arr.size ∧
  ∀ j,(v.cells.zipIdx.foldl (fun cs (c,j)=>cs.setIfInBounds (off+j) c) arr)[j]?=if off≤j∧j<off+v.cells.size then v.cells[j-off]? else arr[j]?:=by
 have:=foldl_set_list v.cells.toList 0 off arr (by simpa using h)
 rw [← Array.foldl_toList,Array.toList_zipIdx]
 simpa using this
theorem fill_parts(c:Nat):∀ (vs:List Value) (k:Nat) (arr:Array Value),(∀ v∈vs,v.cells.size=c)→(k+vs.length)*c≤arr.size →
  ∃ arr',Instr.fill (fun i=>some (i*c,c)) arr ((vs.zipIdx k).map fun p=>(p.2,p.1))=some arr'∧arr'.size=arr.size ∧
   ∀ j,arr'[j]?=if k*c≤j∧j<(k+vs.length)*c then(vs.flatMap fun v=>v.cells.toList)[j-k*c]? else arr[j]?
 | [],k,arr,_,_=>⟨arr,rfl,rfl,fun j=>by simp;intro h1 h2;omega⟩
 | v::vs,k,arr,hc,h=>by
  have hv:=hc v (List.mem_cons_self ..)
  simp only [List.length_cons] at h
  have hmul:(k+1)*c=k*c+c:=by rw [Nat.add_mul,Nat.one_mul]
  have hle:(k+1)*c≤(k+(vs.length+1))*c:=Nat.mul_le_mul_right _ (by omega)
  obtain⟨h1,h2⟩:=foldl_set_cells v (k*c) arr (by rw [hv];omega)
  obtain⟨arr',h3,h4,h5⟩:=fill_parts c vs (k+1) _ (fun u hu=>hc u (List.mem_cons_of_mem _ hu)) (by rw [h1,show k+1+vs.length=k+(vs.length+1) by omega];exact h)
  refine⟨arr',?_,by rw [h4,h1],fun j=>?_⟩
  ·simp only [List.zipIdx_cons,List.map_cons,Instr.fill,hv]
   rw [if_neg (by simp;omega)]
   exact h3
  ·rw [h5,h2]
   have he:(k+1+vs.length)*c=(k+(vs.length+1))*c:=by rw [show k+1+vs.length=k+(vs.length+1) by omega]
   rw [he]
   simp only [List.flatMap_cons,List.length_cons]
   by_cases hj1:k*c≤j∧j<k*c+c
   ·rw [if_neg (by omega),if_pos (by rw [hv];exact hj1),if_pos (by omega),List.getElem?_append_left (by simp [hv];omega),Array.getElem?_toList]
   ·by_cases hj2:(k+1)*c≤j∧j<(k+(vs.length+1))*c
    ·rw [if_pos hj2,if_pos (by omega),List.getElem?_append_right (by simp [hv];omega)]
     congr 1
     simp [hv]
     omega
    ·rw [if_neg hj2,if_neg (by rw [hv];exact hj1),if_neg (by omega)]
inductive PartsOk(σ:St):List Operand→List AV→Prop
 | nil:PartsOk σ [] []
 | cons {x xs y ys} (h:ov σ x=.av y) (ho:y.isOwn=false) (r:PartsOk σ xs ys):PartsOk σ (x::xs) (y::ys)
theorem PartsOk.length{xs:List Operand}{ys:List AV}(h:PartsOk σ xs ys):xs.length=ys.length:=by
 induction h with
 | nil=>rfl
 | cons _ _ _ ih=>simp [ih]
theorem PartsOk.get{xs:List Operand}{ys:List AV}(h:PartsOk σ xs ys):∀ (i:Nat) (x:Operand) (y:AV),xs[i]?=some x→ys[i]?=some y→ov σ x=.av y∧y.isOwn=false:=by
 induction h with
 | nil=>intro i x y h;simp at h
 | cons h ho r ih =>
  intro i x y hx hy
  cases i with
  | zero=>simp only [List.getElem?_cons_zero,Option.some.injEq] at hx hy;subst hx;subst hy;exact⟨h,ho⟩
  | succ i=>simp only [List.getElem?_cons_succ] at hx hy;exact ih i x y hx hy
def AV.cellOk:AV→Bool
 | .int _|.bool _|.str _|.nil|.sl _ _ _|.pt _ _=>true
 | .val v=>v.oneCell'
 | _=>false
def AV.varOk:AV→Bool
 | .agg cs=>cs.all AV.cellOk
 | y=>y.cellOk
theorem cellOk_spec{L:Nat→Lab}{w:World}{π:Option (List Nat)}{y:AV}{v:Value}(h:Rep L w π y v)(hy:y.cellOk=true):v.cells=#[v]∧v.oneCell'=true∧y.cells=[y]:=by
 cases h<;>first|exact⟨rfl,rfl,rfl⟩|(simp [AV.cellOk] at hy;done)|skip
 simp only [AV.cellOk] at hy
 refine⟨?_,hy,rfl⟩
 cases v<;>first|rfl|(simp [Value.oneCell'] at hy)
theorem rep_cells{L:Nat→Lab}{w:World}{y:AV}{v:Value}(h:Rep L w none y v)(hy:y.varOk=true):v.cells.size=y.cells.length∧(∀ u∈v.cells.toList,u.oneCell'=true)∧∀ (j:Nat) z,y.cells[j]?=some z→∃ u,v.cells[j]?=some u∧Rep L w none z u:=by
 by_cases hagg:∃ cs,y=.agg cs
 ·obtain⟨cs,rfl⟩:=hagg
  cases h with
  | @agg _ _ vs hl h =>
   simp only [AV.varOk,List.all_eq_true] at hy
   refine⟨by simp [Value.cells,AV.cells,hl],fun u hu=>?_,fun j z hz=>?_⟩
   ·have hu:u∈vs:=by simpa [Value.cells] using hu
    obtain⟨i,hi,rfl⟩:=List.mem_iff_getElem.1 hu
    have hi':i<cs.length:=by omega
    exact(cellOk_spec (h i cs[i] _ (List.getElem?_eq_getElem hi') (List.getElem?_eq_getElem hi)) (hy _ (List.getElem_mem hi'))).2.1
   ·have hj:j<cs.length:=(List.getElem?_eq_some_iff.1 hz).1
    simp only [AV.cells] at hz
    exact⟨vs[j],by simp [Value.cells,show j<vs.length by omega],h j z _ hz (List.getElem?_eq_getElem (by omega))⟩
 ·have hy':y.cellOk=true:=by cases y<;>first|exact hy|(exact absurd ⟨_,rfl⟩ hagg)
  obtain⟨h1,h2,h3⟩:=cellOk_spec h hy'
  rw [h1,h3]
  refine⟨rfl,fun u hu=>?_,fun j z hz=>?_⟩
  ·simp at hu;subst hu;exact h2
  ·cases j with
   | zero=>simp only [List.getElem?_cons_zero,Option.some.injEq] at hz;subst hz;exact⟨v,rfl,h⟩
   | succ j=>simp at hz
theorem parts_values{w0:World}{L0:Nat→Lab}{a:Act}{w:World}{L:Nat→Lab}(hR:RelL S w0 L0 N σ a w L){xs:List Operand}{ys:List AV}(h:PartsOk σ xs ys):∀ (i:Nat) y v,ys[i]?=some y→(xs.map a.eval)[i]?=some v→Rep L w none y v:=by
 intro i y v hy hv
 simp only [List.getElem?_map,Option.map_eq_some_iff] at hv
 obtain⟨x,hx,rfl⟩:=hv
 obtain⟨h1,h2⟩:=h.get i x y hx hy
 obtain⟨n,hn⟩:=ev_av hR h1
 exact hn.replace h2
theorem flat_values{L:Nat→Lab}{w:World}{c:Nat}:∀ {ys:List AV} {vs:List Value},vs.length=ys.length→(∀ y∈ys,y.varOk=true∧y.cells.length=c)→(∀ (i:Nat) y v,ys[i]?=some y→vs[i]?=some v→Rep L w none y v) →
  (∀ v∈vs,v.cells.size=c)∧(∀ u∈vs.flatMap (fun v=>v.cells.toList),u.oneCell'=true)∧(vs.flatMap fun v=>v.cells.toList).length=ys.length*c ∧
  ∀ (o:Nat) z,(flat ys)[o]?=some z→∃ u,(vs.flatMap fun v=>v.cells.toList)[o]?=some u∧Rep L w none z u
 | [],[],_,_,_=>⟨by simp,by simp,by simp,by simp [flat]⟩
 | [],v::vs,h,_,_=>by simp at h
 | y::ys,[],h,_,_=>by simp at h
 | y::ys,v::vs,hl,hc,hr=>by
  obtain⟨h1,h2⟩:=hc y (List.mem_cons_self ..)
  obtain⟨e1,e2,e3⟩:=rep_cells (hr 0 y v rfl rfl) h1
  obtain⟨i1,i2,i3,i4⟩:=flat_values (ys:=ys) (vs:=vs) (by simpa using hl) (fun z hz=>hc z (List.mem_cons_of_mem _ hz)) (fun i z u hz hu=>hr (i+1) z u (by simpa using hz) (by simpa using hu))
  have e1':v.cells.toList.length=c:=by simp [e1,h2]
  refine⟨fun u hu=>?_,fun u hu=>?_,?_,fun o z hz=>?_⟩
  ·rcases List.mem_cons.1 hu with rfl|hu
   ·rw [e1,h2]
   ·exact i1 u hu
  ·rw [List.flatMap_cons,List.mem_append] at hu
   rcases hu with hu|hu
   ·exact e2 u hu
   ·exact i2 u hu
  ·rw [List.flatMap_cons,List.length_append,i3,e1',List.length_cons,Nat.add_mul];omega
  ·simp only [flat,List.flatMap_cons] at hz ⊢
   by_cases ho:o<c
   ·rw [List.getElem?_append_left (by omega)] at hz ⊢
    obtain⟨u,hu,hr'⟩:=e3 o z hz
    exact⟨u,by rw [Array.getElem?_toList];exact hu,hr'⟩
   ·rw [List.getElem?_append_right (by omega)] at hz ⊢
    rw [h2] at hz;rw [e1']
    exact i4 _ z hz
theorem zero_cells{e:Nat}{ti:TI}(hE:S.T e=some ti):∃ f zv,S.P.info? e=some f∧f.size=ti.size∧f.zero=some zv∧zv.cells.size=ti.size :=
 let ⟨f,z,h1,h2,_,h4,_,_,h7⟩:=(S.ok e ti hE).info
 ⟨f,z,h1,h2,h4,h7⟩
theorem run_buildSlice{t e c:Nat}{sz by_:Nat}{zz:List AV}{ti:TI}(hT:S.T t=some ⟨.slice e,sz,by_,zz⟩)(hE:S.T e=some ti)(hc:ti.size=c){vs:List Value}(h1:∀ v∈vs,v.cells.size=c)(hlen:(vs.flatMap fun v=>v.cells.toList).length=vs.length*c)(hb:vs.length*c≤16777216)(w:World) :
  (Instr.buildSlice t vs.length (vs.zipIdx.map fun p=>(p.2,p.1)).toArray).run S.P w=.ok (.slice (some ⟨w.heap.size,0,none⟩) vs.length vs.length) (w.alloc (.cells (vs.flatMap fun v=>v.cells.toList).toArray e)):=by
 obtain⟨f,zv,hf1,hf2,hf4,hf7⟩:=zero_cells hE
 have hsz:f.size=c:=by rw [hf2,hc]
 simp only [Instr.buildSlice,Sem.run_bind,run_underlying (S.ok t _ hT).slice,Result.andThen_ok,Go.sizeOf,typeInfo,run_program,hf1,Sem.run_pure,hsz]
 rw [if_neg (by omega)]
 have key:∀ zc:Array Value,zc.size=(if vs.length*c=0 then 0 else c) →
   Instr.fill (fun i=>some (i*c,c)) ((Array.range (vs.length*c)).map (zc[· % zc.size]!)) (vs.zipIdx.map fun p=>(p.2,p.1))=some (vs.flatMap fun v=>v.cells.toList).toArray:=by
  intro zc hzc
  obtain⟨arr',h2,h3,h4⟩:=fill_parts c vs 0 ((Array.range (vs.length*c)).map (zc[· % zc.size]!)) h1 (by simp)
  rw [h2]
  congr 1
  apply Array.ext_getElem?
  intro j
  rw [h4 j]
  simp only [Nat.zero_mul,Nat.zero_add,Nat.zero_le,true_and,Nat.sub_zero,List.getElem?_toArray]
  by_cases hj:j<vs.length*c
  ·rw [if_pos hj]
  ·rw [if_neg hj,List.getElem?_eq_none (by rw [hlen];omega)]
   simp;omega
 by_cases hz:vs.length*c=0
 ·rw [if_pos hz]
  have:=key #[] (by rw [if_pos hz];rfl)
  simp only [Sem.run_pure,Result.andThen_ok,this,newRow,Sem.run_bind,run_newObj]
  rfl
 ·rw [if_neg hz]
  have:=key zv.cells (by rw [if_neg hz,hf7,hc])
  simp only [zeroValue,typeInfo,Sem.run_bind,run_program,hf1,hf4,Sem.run_pure,Result.andThen_ok,this,newRow,run_newObj]
  rfl
theorem e_bls{t e c:Nat}{sz by_:Nat}{zz:List AV}{ti:TI}{xs:List Operand}{ys:List AV}{n d ty:Nat}{ps:Array (Nat×Operand)}{pos:String}{aft:Array Edge}{g:Option (Nat×Bool)}(hT:S.T t=some ⟨.slice e,sz,by_,zz⟩)(hE:S.T e=some ti)(hc:ti.size=c)
  (hps:ps=(xs.zipIdx.map fun p=>(p.2,p.1)).toArray) (hn:xs.length=n) (hp:PartsOk σ xs ys) (hok:ys.all (fun y=>y.varOk&&Nat.beq y.cells.length c)=true) (hb:Nat.ble (n*c) 16777216=true) :
  EStep S ⟨some d,.buildSlice t n ps,ty,pos,aft,g⟩ σ (σ.put d (.av (.sl true c ys))):=by
 subst hps;subst hn
 intro w0 L0 N a w hN ⟨L,hR⟩
 have hall:∀ y∈ys,y.varOk=true∧y.cells.length=c:=fun y hy=>by
  have:=(List.all_eq_true.1 hok) y hy
  simp only [Bool.and_eq_true] at this
  exact⟨this.1,Nat.eq_of_beq_eq_true this.2⟩
 have hl:(xs.map a.eval).length=ys.length:=by rw [List.length_map,hp.length]
 obtain⟨f1,f2,f3,f4⟩:=flat_values hl hall (parts_values hR hp)
 have hrun:=run_buildSlice hT hE hc f1 (by rw [f3,hl]) (by rw [List.length_map];exact Nat.le_of_ble_eq_true hb) w
 refine⟨.slice (some ⟨w.heap.size,0,none⟩) xs.length xs.length,w.alloc (.cells ((xs.map a.eval).flatMap fun v=>v.cells.toList).toArray e),.inl ?_,hR.alloc (hN d rfl) ?_⟩
 ·have e1:((xs.zipIdx.map fun p=>(p.2,p.1)).toArray.map fun(i,x)=>(i,a.eval x))=((xs.map a.eval).zipIdx.map fun p=>(p.2,p.1)).toArray:=by
   rw [List.zipIdx_map]
   simp
  simp only [execOp,Sem.run_bind]
  rw [e1]
  rw [List.length_map] at hrun
  rw [hrun];rfl
 ·refine rep_new hp.length.symm (fun y hy=>(hall y hy).2) (Nat.le_refl _) (by rw [List.size_toArray,f3,hp.length]) fun o y hy=>?_
  obtain⟨u,h1,h2⟩:=f4 o y hy
  exact⟨u,by rw [List.getElem?_toArray];exact h1,(Rep.inNew hR h2).any _⟩
end
end FM
