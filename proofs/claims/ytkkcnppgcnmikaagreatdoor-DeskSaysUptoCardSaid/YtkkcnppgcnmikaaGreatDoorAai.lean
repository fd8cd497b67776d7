/- An abstract machine over the kit's rules, part 8: append. -/
import Derived.Test.YtkkcnppgcnmikaaGreatDoorAah
namespace FM
open Go Go.RowKit
structure RowV(w:World)(c:Nat)(v:Value)(n:Nat)(vs:List Value)(a:Option Addr)(cap:Nat):Prop where
 val:v=.slice a n cap
 len:vs.length=n*c
 cell:∀ (j:Nat) u,vs[j]?=some u→∃ b,a=some b∧w.cell? (b.add j)=some u
theorem run_firstCells{P:Program}{w:World}{c n:Nat}{v:Value}{vs:List Value}{a:Option Addr}{cap:Nat}(h:RowV w c v n vs a cap):(Builtin.firstCells c n v).run P w=.ok vs.toArray w:=by
 rw [h.val]
 cases a with
 | none =>
  have:vs=[]:=by
   cases vs with
   | nil=>rfl
   | cons u vs=>obtain⟨b,hb,_⟩:=h.cell 0 u rfl;cases hb
  subst this
  simp [Builtin.firstCells]
 | some b =>
  refine run_firstCells_some w c n b n cap vs h.len fun j u hu=>?_
  obtain⟨b',hb,hc⟩:=h.cell j u hu
  cases hb;exact hc
theorem RowV.drew{w:World}{c n:Nat}{v:Value}{vs:List Value}{a:Option Addr}{cap:Nat}(h:RowV w c v n vs a cap):RowV w.drew c v n vs a cap:=⟨h.val,h.len,h.cell⟩
section
variable {S:Sys} {N:Nat} {σ:St}
theorem run_app_grow{t e c t2 e2:Nat}{sz by_ sz2 by2 by3:Nat}{zz zz2 zs:List AV}{kk:TK}(hT:S.T t=some ⟨.slice e,sz,by_,zz⟩)(hT2:S.T t2=some ⟨.slice e2,sz2,by2,zz2⟩)(hE:S.T e=some ⟨kk,c,by3,zs⟩){x y:Value}{n m:Nat}{olds news:List Value}{a a2:Option Addr}{cap cap2:Nat}{w:World}
  (hx:RowV w c x n olds a cap) (hy:RowV w c y m news a2 cap2) (hg:cap<n+m) (hb:(n+m)*by3≤140737488355328) (hm:n+m≤4611686018427387904) (ty:Nat) :
  ∃ (cap':Nat) (arr:Array Value),(Builtin.append_ #[t,t2] ty #[x,y]).run S.P w=.ok (.slice (some ⟨w.heap.size,0,none⟩) (n+m) cap') (w.drew.alloc (.cells arr e))∧n+m≤cap'∧arr.size=cap'*c∧∀ j,j<(n+m)*c→arr[j]?=(olds++news)[j]?:=by
 obtain⟨f,zv,h1,h2,h3,h4,h5,h6,h7⟩:=(S.ok e _ hE).info
 have hf1:=run_firstCells (P:=S.P) hx.drew
 have hf2:=run_firstCells (P:=S.P) hy.drew
 have hn:¬ (n+m≤cap):=by omega
 have h63:¬ (9223372036854775807<((n:Int)+(m:Int))):=by omega
 have h48:¬ (281474976710656<Builtin.nextslicecap (n+m) cap*f.bytes):=by
  rw [h3]
  have:=growslice_fits (bytes:=by3) hg hb
  show ¬ (281474976710656<Builtin.nextslicecap (n+m) cap*by3)
  omega
 have hge:=grownCap_ge w (n+m) cap e
 have h2':f.size=c:=h2
 have h7':zv.cells.size=c:=h7
 refine⟨grownCap w (n+m) cap e,olds.toArray++news.toArray++Builtin.zeroCells zv.cells (grownCap w (n+m) cap e-(n+m)),?_,hge,?_,fun j hj=>?_⟩
 ·have hvx:=hx.val
  have hvy:=hy.val
  subst hvx hvy
  simp [Builtin.append_,run_underlying (S.ok t _ hT).slice,run_underlying (S.ok t2 _ hT2).slice,Go.sizeOf,typeInfo,zeroValue,h1,h2',h4,Builtin.lenOf,hn,h63,h48,Question.forced,hf1,hf2,newRow,grownCap]
  have hon:olds.toArray++news.toArray=(olds++news).toArray:=by simp
  rw [← Array.append_assoc,hon]
 ·simp only [Array.size_append,List.size_toArray,size_zeroCells,hx.len,hy.len,h7']
  rw [← Nat.add_mul,←Nat.add_mul]
  congr 1;omega
 ·have hl:(olds.toArray++news.toArray).size=(n+m)*c:=by simp [hx.len,hy.len,Nat.add_mul]
  rw [Array.getElem?_append_left (by omega)]
  simp
theorem run_app_room{t e c t2 e2:Nat}{sz by_ sz2 by2 by3:Nat}{zz zz2 zs:List AV}{kk:TK}(hT:S.T t=some ⟨.slice e,sz,by_,zz⟩)(hT2:S.T t2=some ⟨.slice e2,sz2,by2,zz2⟩)(hE:S.T e=some ⟨kk,c,by3,zs⟩){y:Value}{n m:Nat}{news:List Value}{a2:Option Addr}{gb cap cap2 e3:Nat}{cur:Array Value}{w:World}
  (hgb:w.heap[gb]?=some (.cells cur e3 (0,0))) (hsz:cur.size=cap*c) (hy:RowV w c y m news a2 cap2) (h1:∀ u∈news,u.oneCell'=true) (hr:n+m≤cap) (ty:Nat) :
  (Builtin.append_ #[t,t2] ty #[.slice (some ⟨gb,0,none⟩) n cap,y]).run S.P w=.ok (.slice (some ⟨gb,0,none⟩) (n+m) cap) (w.setRow gb (cur.toList.take (n*c)++news++cur.toList.drop (n*c+news.length)).toArray):=by
 obtain⟨f,zv,hf1,hf2,_⟩:=(S.ok e _ hE).info
 have hf2':f.size=c:=hf2
 have hf:=run_firstCells (P:=S.P) hy
 have hvy:=hy.val
 subst hvy
 have hfit:n*c+0+news.length≤cur.size:=by
  rw [hy.len,hsz,Nat.add_zero,←Nat.add_mul];exact Nat.mul_le_mul_right _ hr
 have hst:=run_storeCells_at S.P gb (n*c) e3 news 0 cur w hgb hfit h1
 simp only [Nat.add_zero] at hst
 simp [Builtin.append_,run_underlying (S.ok t _ hT).slice,run_underlying (S.ok t2 _ hT2).slice,Go.sizeOf,typeInfo,hf1,hf2',Builtin.lenOf,hr,hf,addr_add,hst]
theorem run_app_none{t e c t2 e2:Nat}{sz by_ sz2 by2 by3:Nat}{zz zz2 zs:List AV}{kk:TK}(hT:S.T t=some ⟨.slice e,sz,by_,zz⟩)(hT2:S.T t2=some ⟨.slice e2,sz2,by2,zz2⟩)(hE:S.T e=some ⟨kk,c,by3,zs⟩){y:Value}{a a2:Option Addr}{cap2:Nat}{w:World}
  (hy:RowV w c y 0 [] a2 cap2) (ty:Nat) :
  (Builtin.append_ #[t,t2] ty #[.slice a 0 0,y]).run S.P w=.ok (.slice a 0 0) w:=by
 obtain⟨f,zv,hf1,hf2,_⟩:=(S.ok e _ hE).info
 have hf:=run_firstCells (P:=S.P) hy
 have hvy:=hy.val
 subst hvy
 have hf':(Builtin.firstCells f.size 0 (.slice a2 0 cap2)).run S.P w=.ok #[] w:=by rw [show f.size=c from hf2];simpa using hf
 cases a<;>simp [Builtin.append_,run_underlying (S.ok t _ hT).slice,run_underlying (S.ok t2 _ hT2).slice,Go.sizeOf,typeInfo,hf1,Builtin.lenOf,hf',storeCells]
/-! ### the frame -/
def srcAt(σ:St)(x:Operand):Option (Option Nat×Option Nat×List AV) :=
 match ov σ x with
 | .av .nil=>some (none,none,[])
 | .av (.sl true c xs)=>match x with
  | .tmp t=>some (some t,some c,xs)
  | _=>none
 | .ref s=>match get σ s with
  | .av (.sl true c xs)=>some (some s,some c,xs)
  | _=>none
 | _=>none
def isS(s?:Option Nat)(h:Nat):Bool:=match s? with
 | some s=>Nat.beq s h
 | none=>false
theorem isS_some{s h:Nat}:isS (some s) h=true↔s=h:=⟨Nat.eq_of_beq_eq_true,fun e=>by subst e;exact Nat.beq_refl s⟩
def φapp(d:Nat)(s? t?:Option Nat)(k:Nat):List Nat→Option (List Nat)
 | []=>none
 | h::q=>bif Nat.beq h d then none else
  bif isS s? h then(match q with
   | o::q'=>if o<k then some (d::o::q') else none
   | []=>none) else
  bif isS t? h then(match q with
   | o::q'=>some (d::(k+o)::q')
   | []=>none) else some (h::q)
theorem φapp_cases{d:Nat}{s? t?:Option Nat}{k:Nat}{p r:List Nat}(h:φapp d s? t? k p=some r) :
  (∃ s o q,s?=some s∧p=s::o::q∧o<k∧r=d::o::q)∨(∃ t o q,t?=some t∧p=t::o::q∧r=d::(k+o)::q∧isS s? t=false)∨(∃ a q,p=a::q∧r=a::q∧a≠d∧isS s? a=false∧isS t? a=false):=by
 cases p with
 | nil=>cases h
 | cons a q =>
  simp only [φapp] at h
  cases hd:Nat.beq a d with
  | true=>rw [hd] at h;cases h
  | false =>
   rw [hd,cond_false] at h
   cases hs:isS s? a with
   | true =>
    rw [hs,cond_true] at h
    cases q with
    | nil=>cases h
    | cons o q' =>
     simp only at h
     split at h
     ·rename_i hlt
      injection h with h
      cases s? with
      | none=>cases hs
      | some s=>have:=isS_some.1 hs;subst this;exact .inl ⟨s,o,q',rfl,rfl,hlt,h.symm⟩
     ·cases h
   | false =>
    rw [hs,cond_false] at h
    cases ht:isS t? a with
    | true =>
     rw [ht,cond_true] at h
     cases q with
     | nil=>cases h
     | cons o q' =>
      simp only at h
      injection h with h
      cases t? with
      | none=>cases ht
      | some t=>have:=isS_some.1 ht;subst this;exact .inr (.inl ⟨t,o,q',rfl,rfl,h.symm,hs⟩)
    | false =>
     rw [ht,cond_false] at h
     injection h with h
     exact .inr (.inr ⟨a,q,rfl,h.symm,of_not_beq hd,hs,ht⟩)
theorem φapp_inj(d:Nat)(s? t?:Option Nat)(k:Nat):Inj (φapp d s? t? k):=by
 refine⟨fun p p' r h h'=>?_,fun p h=>?_⟩
 ·rcases φapp_cases h with⟨s,o,q,e1,e2,e3,e4⟩|⟨t,o,q,e1,e2,e3,e4⟩|⟨b,q,e1,e2,e3,e4,e5⟩ <;>
   rcases φapp_cases h' with⟨s',o',q',e1',e2',e3',e4'⟩|⟨t',o',q',e1',e2',e3',e4'⟩|⟨b',q',e1',e2',e3',e4',e5'⟩
  ·rw [e1] at e1';cases e1';subst e2;subst e2';rw [e4] at e4';cases e4';rfl
  ·rw [e4] at e3';injection e3' with _ e;injection e with e _;omega
  ·rw [e4] at e2';injection e2' with e _;exact absurd e.symm e3'
  ·rw [e3] at e4';injection e4' with _ e;injection e with e _;omega
  ·rw [e1] at e1';cases e1';subst e2;subst e2';rw [e3] at e3';injection e3' with _ e;injection e with e1 e2;subst e2;have:o=o':=by omega
   subst this;rfl
  ·rw [e3] at e2';injection e2' with e _;exact absurd e.symm e3'
  ·rw [e2] at e4';injection e4' with e _;exact absurd e e3
  ·rw [e2] at e3';injection e3' with e _;exact absurd e e3
  ·subst e1;subst e1';rw [e2] at e2';exact e2'
 ·rcases φapp_cases h with⟨_,_,_,_,_,_,e⟩|⟨_,_,_,_,_,e,_⟩|⟨_,_,_,e,_⟩<;>cases e
theorem φapp_ne(d:Nat)(s? t?:Option Nat)(k:Nat)(p:List Nat):φapp d s? t? k p≠some [d]:=by
 intro h
 rcases φapp_cases h with⟨_,_,_,_,_,_,e⟩|⟨_,_,_,_,_,e,_⟩|⟨_,_,_,e,e3,_⟩
 ·cases e
 ·cases e
 ·injection e with e _;exact e3 e.symm
theorem φapp_s{d s o k:Nat}{t?:Option Nat}{q:List Nat}(hsd:s≠d)(ho:o<k):φapp d (some s) t? k (s::o::q)=some (d::o::q):=by
 simp [φapp,not_beq hsd,isS,Nat.beq_refl,ho]
theorem φapp_t{d t o k:Nat}{s?:Option Nat}{q:List Nat}(htd:t≠d)(hs:isS s? t=false):φapp d s? (some t) k (t::o::q)=some (d::(k+o)::q):=by
 simp only [φapp,not_beq htd,hs,cond_false]
 simp [isS,Nat.beq_refl]
theorem φapp_o{d a k:Nat}{s? t?:Option Nat}{q:List Nat}(h1:a≠d)(h2:isS s? a=false)(h3:isS t? a=false):φapp d s? t? k (a::q)=some (a::q):=by
 simp only [φapp,not_beq h1,h2,h3,cond_false]
def killO(s?:Option Nat)(σ:St):St:=match s? with
 | some s=>σ.put s .none
 | none=>σ
theorem get_killO{s?:Option Nat}{σ:St}{n:Nat}:get (killO s? σ) n=.none∨(isS s? n=false∧get (killO s? σ) n=get σ n∧∀ s,s?=some s→(get σ n).dep s=false):=by
 cases s? with
 | none=>exact .inr ⟨rfl,rfl,fun s h=>by cases h⟩
 | some s =>
  simp only [killO,get,kill_eq,isS]
  cases h:Nat.beq s n with
  | true=>exact .inl rfl
  | false =>
   rw [cond_false]
   cases hd:(get σ n).dep s with
   | true=>exact .inl rfl
   | false=>exact .inr ⟨rfl,rfl,fun s' h=>by cases h;exact hd⟩
structure YSrc(L:Nat→Lab)(w:World)(c d k:Nat)(t?:Option Nat)(ys:List AV)(v:Value)(m:Nat)(news:List Value)(a2:Option Addr)(cap2:Nat):Prop where
 row:RowV w c v m news a2 cap2
 one:∀ u∈news,u.oneCell'=true
 len:ys.length=m
 cells:∀ y∈ys,y.cells.length=c
 rep:∀ (o:Nat) z,(flat ys)[o]?=some z→∃ u,news[o]?=some u∧∀ (L':Nat→Lab) (w':World),w.heap.size≤w'.heap.size→w'.os=w.os→w'.tape=w.tape→w'.output=w.output →
  (∀ b,L b=.sh→b<w.heap.size→L' b=.sh∧w'.heap[b]?=w.heap[b]?)→(∀ t,t?=some t→∀ b o q,L b=.my (t::o::q)→L' b=.my (d::(k+o)::q)∧w'.heap[b]?=w.heap[b]?)→Rep L' w' (some [d,k+o]) z u
theorem cell_add{w:World}{b off o:Nat}{u:Value}(h:w.cell? ⟨b,off+o,none⟩=some u):w.cell? ((⟨b,off,none⟩:Addr).add o)=some u:=by rw [addr_add];exact h
theorem rep_row{L:Nat→Lab}{w:World}{π:Option (List Nat)}{own:Bool}{c:Nat}{xs:List AV}{v:Value}(h:Rep L w π (.sl own c xs) v) :
    ∃ a cap us,RowV w c v xs.length us a cap∧(∀ x∈xs,x.cells.length=c) ∧
      ((us=[]∧xs=[]∧(own=true→cap=0)) ∨
       (own=false∧∃ b off,a=some ⟨b,off,none⟩∧L b=.sh∧b<w.heap.size∧∀ (o:Nat) z,(flat xs)[o]?=some z→∃ u,us[o]?=some u∧Rep L w none z u) ∨
       (own=true∧∃ p b arr e,π=some p∧a=some ⟨b,0,none⟩∧L b=.my p∧w.heap[b]?=some (.cells arr e (0,0))∧xs.length≤cap∧arr.size=cap*c∧(∀ o,o<xs.length*c→us[o]?=arr[o]?)∧∀ (o:Nat) z,(flat xs)[o]?=some z→∃ u,us[o]?=some u∧Rep L w (some (p++[o])) z u)):=by
  cases h with
  | @slE _ _ _ a cap h=>exact⟨a,cap,[],⟨rfl,by simp,by simp⟩,by simp,.inl ⟨rfl,rfl,h⟩⟩
  | @slS _ c xs b off cap u hcap hL hb hc hcell hr =>
    refine⟨_,cap,(List.range (xs.length*c)).map u,⟨rfl,by simp,fun j v hv=>⟨_,rfl,?_⟩⟩,hc,.inr (.inl ⟨rfl,b,off,rfl,hL,hb,fun o z hz=>?_⟩)⟩
    · simp only [List.getElem?_map,Option.map_eq_some_iff] at hv
      obtain⟨i,hi,rfl⟩:=hv
      obtain⟨hlt,rfl⟩:=List.getElem?_eq_some_iff.1 hi
      simp only [List.length_range] at hlt
      simp only [List.getElem_range]
      exact cell_add (hcell j hlt)
    · have ho:o<xs.length*c:=by rw [← flat_length hc];exact(List.getElem?_eq_some_iff.1 hz).1
      exact⟨u o,by simp [ho],hr o z hz⟩
  | @slO p c xs b cap arr e u hL hb hcap hsz hc hcell hr =>
    refine⟨_,cap,(List.range (xs.length*c)).map u,⟨rfl,by simp,fun j v hv=>⟨_,rfl,?_⟩⟩,hc,.inr (.inr ⟨rfl,p,b,arr,e,rfl,rfl,hL,hb,hcap,hsz,fun o ho=>by simp [ho,hcell o ho],fun o z hz=>?_⟩)⟩
    · simp only [List.getElem?_map,Option.map_eq_some_iff] at hv
      obtain⟨i,hi,rfl⟩:=hv
      obtain⟨hlt,rfl⟩:=List.getElem?_eq_some_iff.1 hi
      simp only [List.length_range] at hlt
      simp only [List.getElem_range]
      refine cell_add ?_
      rw [Nat.zero_add,cell_of_row w b j arr e (0,0) hb];exact hcell j hlt
    · have ho:o<xs.length*c:=by rw [← flat_length hc];exact(List.getElem?_eq_some_iff.1 hz).1
      exact⟨u o,by simp [ho],hr o z hz⟩
theorem srcAt_spec{x:Operand}{s?:Option Nat}{c?:Option Nat}{xs:List AV}(h:srcAt σ x=some (s?,c?,xs)){w0:World}{L0:Nat→Lab}{a:Act}{w:World}{L:Nat→Lab}(hR:RelL S w0 L0 N σ a w L) :
  (s?=none∧xs=[]∧a.eval x=.slice none 0 0)∨∃ s c,s?=some s∧c?=some c∧s<N∧get σ s=.av (.sl true c xs)∧Rep L w (some [s]) (.sl true c xs) (a.eval x):=by
 unfold srcAt at h
 split at h
 ·rename_i hx
  simp only [Option.some.injEq,Prod.mk.injEq] at h
  obtain⟨rfl,rfl,rfl⟩:=h
  exact .inl ⟨rfl,rfl,ev_nil hR hx⟩
 ·rename_i c xs' hx
  split at h
  ·rename_i t
   simp only [Option.some.injEq,Prod.mk.injEq] at h
   obtain⟨rfl,rfl,rfl⟩:=h
   have ht:=own_lt hR hx (by simp)
   have:=hR.hold t ht
   rw [show get σ t=_ from hx] at this
   exact .inr ⟨t,c,rfl,rfl,ht,hx,this⟩
  ·cases h
 ·rename_i s hx
  split at h
  ·rename_i c xs' hs
   simp only [Option.some.injEq,Prod.mk.injEq] at h
   obtain⟨rfl,rfl,rfl⟩:=h
   obtain⟨n,hn,_⟩:=hold_plain hR hx (by simp)
   simp only [Hold] at hn
   have hsN:=own_lt hR hs (by simp)
   have:=hR.hold s hsN
   rw [hs] at this
   refine .inr ⟨s,c,rfl,rfl,hsN,hs,by rw [hn];exact this⟩
  ·cases h
 ·cases h
theorem app_core{t e c t2 e2:Nat}{sz by_ sz2 by2 by3:Nat}{zz zz2 zs:List AV}{kk:TK}(hT:S.T t=some ⟨.slice e,sz,by_,zz⟩)(hT2:S.T t2=some ⟨.slice e2,sz2,by2,zz2⟩)(hE:S.T e=some ⟨kk,c,by3,zs⟩){x y:Operand}{s? c? t?:Option Nat}{xs ys:List AV}{d ty:Nat}{pos:String}{aft:Array Edge}{g:Option (Nat×Bool)}
  (hx:srcAt σ x=some (s?,c?,xs)) (hc:∀ c',c?=some c'→c'=c) (hsd:isS s? d=false) (htd:isS t? d=false) (hst:∀ t,t?=some t→isS s? t=false) (hb:(xs.length+ys.length)*by3≤140737488355328) (hm:xs.length+ys.length≤4611686018427387904)
  {w0:World} {L0:Nat→Lab} {a:Act} {w:World} {L:Nat→Lab} (hR:RelL S w0 L0 N σ a w L) (hd:DOk S N d) {news:List Value} {a2:Option Addr} {cap2:Nat} (hY:YSrc L w c d (xs.length*c) t? ys (a.eval y) ys.length news a2 cap2) :
  ∃ v w',(execOp a.eval ⟨some d,.call ⟨.builtin .append,#[x,y],#[t,t2]⟩,ty,pos,aft,g⟩).run S.P w=.ok (.value v) w'∧Rel S w0 L0 N ((killO t? (killO s? σ)).put d (.av (.sl true c (xs++ys)))) (a.put (some d) v) w':=by
 have hexec:∀ v w',(Builtin.append_ #[t,t2] ty #[a.eval x,a.eval y]).run S.P w=.ok v w'→(execOp a.eval ⟨some d,.call ⟨.builtin .append,#[x,y],#[t,t2]⟩,ty,pos,aft,g⟩).run S.P w=.ok (.value v) w':=fun v w' h=>by
  simp [execOp,resolve,invoke,builtin,h]
 -- the rows of x
 obtain⟨ax,cap,olds,hrow,hcx,hxc⟩:∃ ax cap olds,RowV w c (a.eval x) xs.length olds ax cap∧(∀ z∈xs,z.cells.length=c) ∧
   ((olds=[]∧xs=[]∧cap=0)∨∃ s b arr e3,s?=some s∧ax=some ⟨b,0,none⟩∧L b=.my [s]∧w.heap[b]?=some (.cells arr e3 (0,0))∧xs.length≤cap∧arr.size=cap*c∧(∀ o,o<xs.length*c→olds[o]?=arr[o]?)∧∀ (o:Nat) z,(flat xs)[o]?=some z→∃ u,olds[o]?=some u∧Rep L w (some [s,o]) z u):=by
  rcases srcAt_spec hx hR with⟨h1,rfl,h3⟩|⟨s,c',h1,h2,_,_,h4⟩
  ·exact⟨none,0,[],⟨h3,by simp,by simp⟩,by simp,.inl ⟨rfl,rfl,rfl⟩⟩
  ·have:=hc c' h2
   subst this
   obtain⟨a1,cap,us,e1,e2,e3⟩:=rep_row h4
   refine⟨a1,cap,us,e1,e2,?_⟩
   rcases e3 with⟨r1,r2,r3⟩|⟨r1,_⟩|⟨_,p,b,arr,e3,r1,r2,r3,r4,r5,r6,r7,r8⟩
   ·exact .inl ⟨r1,r2,r3 rfl⟩
   ·cases r1
   ·cases r1
    exact .inr ⟨s,b,arr,e3,h1,r2,r3,r4,r5,r6,r7,r8⟩
 have hlenx:olds.length=xs.length*c:=hrow.len
 have hleny:news.length=ys.length*c:=hY.row.len
 have hcy:=hY.cells
 have hcxy:∀ z∈xs++ys,z.cells.length=c:=fun z hz=>by rcases List.mem_append.1 hz with h|h;exact hcx z h;exact hcy z h
 -- the frame behind it, in general
 have fin:∀ (gb:Nat) (w':World) (v:Value) (arr:Array Value) (e3 cap':Nat),v=.slice (some ⟨gb,0,none⟩) (xs.length+ys.length) cap'→w'.heap[gb]?=some (.cells arr e3 (0,0))→xs.length+ys.length≤cap'→arr.size=cap'*c→(∀ j,j<(xs.length+ys.length)*c→arr[j]?=(olds++news)[j]?) →
   w.heap.size≤w'.heap.size→w'.os=w.os→w'.tape=w.tape→w'.output=w.output→(∀ b,b≠gb→b<w.heap.size→w'.heap[b]?=w.heap[b]?)→(w.heap.size≤gb∨∃ s,s?=some s∧L gb=.my [s])→gb<w'.heap.size →
   Rel S w0 L0 N ((killO t? (killO s? σ)).put d (.av (.sl true c (xs++ys)))) (a.put (some d) v) w':=by
  intro gb w' v arr e3 cap' hv hgb hcap' hsz' harr hs ho ht hu hblk hgold hlt
  subst hv
  have hne_sh:∀ b,L b=.sh→b<w.heap.size→b≠gb:=fun b hb hlt' e=>by
   subst e
   rcases hgold with h|⟨s,_,h⟩
   ·omega
   ·rw [hb] at h;cases h
  have hsh:∀ b,L b=.sh→b<w.heap.size→setL (φapp d s? t? (xs.length*c)) gb d L b=.sh∧w'.heap[b]?=w.heap[b]?:=fun b hb hlt' =>
   ⟨by unfold setL;rw [if_neg (hne_sh b hb hlt')];exact remap_sh hb,hblk b (hne_sh b hb hlt') hlt'⟩
  have hmy:∀ b p r,L b=.my p→φapp d s? t? (xs.length*c) p=some r→(∀ s,s?=some s→p≠[s])→setL (φapp d s? t? (xs.length*c)) gb d L b=.my r∧w'.heap[b]?=w.heap[b]?:=fun b p r hb hφ hp=>by
   have hlt':=hR.lok.lt b p hb
   have hne:b≠gb:=fun e=>by
    subst e
    rcases hgold with h|⟨s,h1,h2⟩
    ·omega
    ·rw [hb] at h2;injection h2 with h2;exact hp s h1 h2
   exact⟨by unfold setL;rw [if_neg hne];exact remap_to hb hφ,hblk b hne hlt'⟩
  have hkeep:Keep L0 w0 w':=by
   refine⟨ho.trans hR.keep.os,ht.trans hR.keep.tape,hu.trans hR.keep.output,Nat.le_trans hR.keep.size hs,fun b hb hn=>?_⟩
   have hlt':=Nat.lt_of_lt_of_le hb hR.keep.size
   refine(hblk b (fun e=>?_) hlt').trans (hR.keep.block b hb hn)
   subst e
   rcases hgold with h|⟨s,_,h2⟩
   ·omega
   ·obtain⟨q,hq⟩:=hR.lok.old b [s] hb h2;exact hn q hq
  refine⟨setL (φapp d s? t? (xs.length*c)) gb d L,hR.defers,by simp [Act.put,hR.size],hkeep,hR.lok.setL hs (φapp_inj _ _ _ _) (φapp_ne _ _ _ _) hlt (fun h'=>?_),fun n hn=>?_,fun n hn=>?_,fun i hi=>(getD_set_other (hd.ne hi)).trans (hR.fix i hi),hR.glob⟩
  ·rcases hgold with h|⟨s,_,h2⟩
   ·have:=hR.keep.size;omega
   ·exact⟨_,h2⟩
  ·simp only [get,kill_eq,Act.put]
   by_cases hnd:d=n
   ·subst hnd
    rw [Nat.beq_refl,cond_true,getD_set_same (by rw [hR.size];exact hd.lt)]
    simp only [Hold]
    rw [← List.length_append]
    refine .slO (fun o=>arr.getD o undef) (by simp [setL]) hgb (by simpa using hcap') hsz' hcxy (fun o ho'=>?_) (fun o z hz=>?_)
    ·have:o<arr.size:=by rw [hsz'];exact Nat.lt_of_lt_of_le ho' (Nat.mul_le_mul_right _ (by simpa using hcap'))
     simp [this]
    ·have hol:o<(xs.length+ys.length)*c:=by
      have:=(List.getElem?_eq_some_iff.1 hz).1
      rwa [flat_length hcxy,List.length_append] at this
     have hao:=harr o hol
     rw [flat_append] at hz
     by_cases hox:o<xs.length*c
     ·rw [List.getElem?_append_left (by rw [flat_length hcx];exact hox)] at hz
      rcases hxc with⟨_,rfl,_⟩|⟨s,b,arr0,e0,h1,h2,h3,h4,h5,h6,h7,h8⟩
      ·simp at hox
      ·obtain⟨u,hu',hr⟩:=h8 o z hz
       rw [List.getElem?_append_left (by rw [hlenx];exact hox),hu'] at hao
       have:arr.getD o undef=u:=by simp [hao]
       rw [this]
       refine hr.frame hs ho ht hu hsh _ fun p hp=>?_
       cases hp
       have hsd':s≠d:=fun e=>by subst e;subst h1;simp [isS,Nat.beq_refl] at hsd
       exact⟨[d,o],rfl,fun b' q hb'=>hmy b' _ _ hb' (by subst h1;exact φapp_s hsd' hox) (fun s' _ e=>by simp at e)⟩
     ·rw [List.getElem?_append_right (by rw [flat_length hcx];omega),flat_length hcx] at hz
      obtain⟨u,hu',hr⟩:=hY.rep _ z hz
      rw [List.getElem?_append_right (by rw [hlenx];omega),hlenx,hu'] at hao
      have:arr.getD o undef=u:=by simp [hao]
      rw [this]
      have:=hr _ w' hs ho ht hu hsh (fun t htt b o' q hb'=>hmy b _ _ hb' (by
       subst htt
       exact φapp_t (fun e=>by subst e;simp [isS,Nat.beq_refl] at htd) (hst t rfl)) (fun s' _ e=>by simp at e))
      rwa [show xs.length*c+(o-xs.length*c)=o by omega] at this
   ·rw [not_beq hnd,cond_false,getD_set_other hnd]
    cases hdep:(get (killO t? (killO s? σ)) n).dep d with
    | true=>trivial
    | false =>
     rw [cond_false]
     rcases get_killO (s?:=t?) (σ:=killO s? σ) (n:=n) with h|⟨h1,h2,h3⟩
     ·rw [h];trivial
     ·rw [h2] at hdep ⊢
      rcases get_killO (s?:=s?) (σ:=σ) (n:=n) with h|⟨h4,h5,h6⟩
      ·rw [h];trivial
      ·rw [h5] at hdep h3 ⊢
       refine Hold.relab (good:=fun m=>m≠d∧isS s? m=false∧isS t? m=false) hs ho ht hu hsh (fun b m q hb hg=>hmy b _ _ hb (φapp_o hg.1 hg.2.1 hg.2.2) (fun s hs' e=>by
        injection e with e _
        subst e
        have:=hg.2.1
        subst hs'
        simp [isS,Nat.beq_refl] at this)) (fun s' hg=>getD_set_other (fun e=>hg.1 e.symm)) ⟨fun e=>hnd e.symm,h4,h1⟩ (fun m hm=>⟨fun e=>?_,?_,?_⟩) (hR.hold n hn)
       ·subst e;rw [hdep] at hm;cases hm
       ·rw [← Bool.not_eq_true];intro e
        cases s? with
        | none=>cases e
        | some s=>have:=isS_some.1 e;subst this;have:=h6 s rfl;rw [this] at hm;cases hm
       ·rw [← Bool.not_eq_true];intro e
        cases t? with
        | none=>cases e
        | some s=>have:=isS_some.1 e;subst this;have:=h3 s rfl;rw [this] at hm;cases hm
  ·simp only [get,kill_eq]
   rw [not_beq (show d≠n by have:=hd.lt;omega),cond_false]
   rcases get_killO (s?:=t?) (σ:=killO s? σ) (n:=n) with h|⟨_,h2,_⟩
   ·rw [h];rfl
   ·rw [h2]
    rcases get_killO (s?:=s?) (σ:=σ) (n:=n) with h|⟨_,h5,_⟩
    ·rw [h];rfl
    ·rw [h5,hR.out n hn];rfl
 by_cases hgrow:cap<xs.length+ys.length
 ·obtain⟨cap',arr,h1,h2,h3,h4⟩:=run_app_grow hT hT2 hE hrow hY.row hgrow hb hm ty
  refine⟨_,_,hexec _ _ h1,fin w.heap.size _ _ arr e cap' rfl (heap_alloc_new w.drew _) h2 h3 h4 (by simp) rfl rfl rfl (fun b _ hlt=>(alloc_ext w.drew (.cells arr e)).block b hlt) (.inl (Nat.le_refl _)) (by simp)⟩
 ·rcases hxc with⟨rfl,rfl,rfl⟩|⟨s,b,arr0,e0,h1,h2,h3,h4,h5,h6,h7,h8⟩
  ·-- nothing appended to nothing
   have hy0:ys=[]:=List.eq_nil_of_length_eq_zero (by simp only [List.length_nil,Nat.zero_add] at hgrow;omega)
   subst hy0
   have hn0:news=[]:=List.eq_nil_of_length_eq_zero (by simpa using hleny)
   subst hn0
   have hv:=hrow.val
   simp only [List.length_nil] at hv
   have hr:=run_app_none hT hT2 hE hY.row ty (a:=ax) (w:=w)
   rw [← hv] at hr
   refine⟨_,_,hexec _ _ hr,Rel.weaken (σ:=σ.put d (.av (.sl true c []))) (fun n=>?_) ⟨_,hR.put hd (by rw [hv];exact .slE (fun _=>rfl))⟩⟩
   simp only [get,kill_eq,List.append_nil]
   cases hdn:Nat.beq d n with
   | true=>exact .inl rfl
   | false =>
    simp only [cond_false]
    rcases get_killO (s?:=t?) (σ:=killO s? σ) (n:=n) with h|⟨_,h2,_⟩
    ·rw [h];exact .inr rfl
    ·rw [h2]
     rcases get_killO (s?:=s?) (σ:=σ) (n:=n) with h|⟨_,h5,_⟩
     ·rw [h];exact .inr rfl
     ·rw [h5];exact .inl rfl
  ·have hv:=hrow.val
   subst h2
   have hr:=run_app_room hT hT2 hE h4 h6 hY.row hY.one (by omega:xs.length+ys.length≤cap) ty
   rw [← hv] at hr
   have hblt:=(Array.getElem?_eq_some_iff.1 h4).1
   have hmul:(xs.length+ys.length)*c≤cap*c:=Nat.mul_le_mul_right _ (by omega)
   rw [Nat.add_mul] at hmul
   refine⟨_,_,hexec _ _ hr,fin b _ _ (arr0.toList.take (xs.length*c)++news++arr0.toList.drop (xs.length*c+news.length)).toArray e0 cap rfl (setRow_heap w b arr0 _ e0 (0,0) h4) (by omega) ?_ (fun j hj=>?_) (by simp) rfl rfl rfl (fun k hk _=>setRow_other w b k _ hk) (.inr ⟨s,h1,h3⟩) (by simpa using hblt)⟩
   ·simp only [List.size_toArray,List.length_append,List.length_take,List.length_drop,Array.length_toList,hleny]
    omega
   ·rw [Nat.add_mul] at hj
    rw [List.getElem?_toArray]
    by_cases hjx:j<xs.length*c
    ·rw [List.append_assoc,List.getElem?_append_left (by simp;omega),List.getElem?_append_left (by omega),List.getElem?_take,if_pos hjx,h7 j hjx,Array.getElem?_toList]
    ·rw [List.getElem?_append_left (by simp [hleny];omega),List.getElem?_append_right (by simp;omega),List.getElem?_append_right (by omega)]
     congr 1
     simp;omega
def CellsOk(ys:List AV):Prop:=∀ z∈flat ys,z.cellOk=true
def FlatOk(ys:List AV):Prop:=∀ z∈flat ys,z.flatPlain=true∧z.cellOk=true
theorem CellsOk.lit{ys:List AV}(h:(flat ys).all AV.cellOk=true):CellsOk ys:=fun z hz=>List.all_eq_true.1 h z hz
theorem CellsOk.map{α:Type}{f:α→AV}{l:List α}(h:∀ x,(f x).cells.all AV.cellOk=true):CellsOk (l.map f):=by
 intro z hz
 simp only [flat,List.mem_flatMap,List.mem_map] at hz
 obtain⟨_,⟨x,_,rfl⟩,hz⟩:=hz
 exact List.all_eq_true.1 (h x) z hz
theorem FlatOk.map{α:Type}{f:α→AV}{l:List α}(h:∀ x,(f x).cells.all (fun z=>z.flatPlain&&z.cellOk)=true):FlatOk (l.map f):=by
 intro z hz
 simp only [flat,List.mem_flatMap,List.mem_map] at hz
 obtain⟨_,⟨x,_,rfl⟩,hz⟩:=hz
 simpa using List.all_eq_true.1 (h x) z hz
theorem FlatOk.int{l:List Int}:FlatOk (l.map AV.int):=.map fun _=>rfl
theorem one_of{L:Nat→Lab}{w:World}{ys:List AV}{us:List Value}{c:Nat}{π:Nat→Option (List Nat)}(hok:CellsOk ys)(hl:us.length=ys.length*c)(hc:∀ y∈ys,y.cells.length=c)(h:∀ (o:Nat) z,(flat ys)[o]?=some z→∃ u,us[o]?=some u∧Rep L w (π o) z u):∀ u∈us,u.oneCell'=true:=by
 intro u hu
 obtain⟨o,ho,rfl⟩:=List.mem_iff_getElem.1 hu
 have hlt:o<(flat ys).length:=by rw [flat_length hc,←hl];exact ho
 obtain⟨u',h1,h2⟩:=h o _ (List.getElem?_eq_getElem hlt)
 rw [List.getElem?_eq_getElem ho] at h1
 injection h1 with h1
 rw [h1]
 exact(cellOk_spec h2 (hok _ (List.getElem_mem hlt))).2.1
section
variable {t e c t2 e2:Nat} {sz by_ sz2 by2 by3:Nat} {zz zz2 zs:List AV} {kk:TK} {x y:Operand} {s? c?:Option Nat} {xs ys:List AV} {d ty:Nat} {pos:String} {aft:Array Edge} {g:Option (Nat×Bool)}
theorem e_appO{ty0:Nat}(hT:S.T t=some ⟨.slice e,sz,by_,zz⟩)(hT2:S.T t2=some ⟨.slice e2,sz2,by2,zz2⟩)(hE:S.T e=some ⟨kk,c,by3,zs⟩)(hx:srcAt σ x=some (s?,c?,xs))(hy:get σ ty0=.av (.sl true c ys))(hc:c?.getD c=c)(hsd:isS s? d=false)(htd:Nat.beq ty0 d=false)(hst:isS s? ty0=false)(hok:CellsOk ys)
  (hb:(xs.length+ys.length)*by3≤140737488355328) (hm:xs.length+ys.length≤4611686018427387904) :
  EStep S ⟨some d,.call ⟨.builtin .append,#[x,.tmp ty0],#[t,t2]⟩,ty,pos,aft,g⟩ σ ((killO (some ty0) (killO s? σ)).put d (.av (.sl true c (xs++ys)))):=by
 intro w0 L0 N a w hN ⟨L,hR⟩
 have hh:=hR.hold ty0 (own_lt hR hy (by simp))
 rw [hy] at hh
 simp only [Hold] at hh
 obtain⟨a2,cap2,us,hrow,hcy,h3⟩:=rep_row hh
 have hY:YSrc L w c d (xs.length*c) (some ty0) ys (a.eval (.tmp ty0)) ys.length us a2 cap2:=by
  refine⟨hrow,?_,rfl,hcy,fun o z hz=>?_⟩
  ·rcases h3 with⟨rfl,rfl,_⟩|⟨h,_⟩|⟨_,p,b,arr,e3,hp,_,_,_,_,_,_,h8⟩
   ·simp
   ·cases h
   ·exact one_of hok hrow.len hcy h8
  ·rcases h3 with⟨rfl,rfl,_⟩|⟨h,_⟩|⟨_,p,b,arr,e3,hp,_,_,_,_,_,_,h8⟩
   ·simp [flat] at hz
   ·cases h
   ·cases hp
    obtain⟨u,hu,hr⟩:=h8 o z hz
    refine⟨u,hu,fun L' w' hs ho ht hu' hsh hmv=>hr.frame hs ho ht hu' hsh _ fun p hp=>?_⟩
    cases hp
    exact⟨_,rfl,fun b q hb=>hmv ty0 rfl b o q hb⟩
 obtain⟨v,w',h1,h2⟩:=app_core hT hT2 hE hx (fun c' h=>by subst h;simpa using hc) hsd (by simpa [isS] using htd) (fun t' h=>by cases h;exact hst) hb hm hR (hN d rfl) hY (ty:=ty) (pos:=pos) (aft:=aft) (g:=g)
 exact⟨v,w',.inl h1,h2⟩
theorem e_appB{o:Bool}(hT:S.T t=some ⟨.slice e,sz,by_,zz⟩)(hT2:S.T t2=some ⟨.slice e2,sz2,by2,zz2⟩)(hE:S.T e=some ⟨kk,c,by3,zs⟩)(hx:srcAt σ x=some (s?,c?,xs))(hy:rd σ (ov σ y)=.sl o c ys)(hc:c?.getD c=c)(hsd:isS s? d=false)(hok:FlatOk ys)
  (hb:(xs.length+ys.length)*by3≤140737488355328) (hm:xs.length+ys.length≤4611686018427387904) :
  EStep S ⟨some d,.call ⟨.builtin .append,#[x,y],#[t,t2]⟩,ty,pos,aft,g⟩ σ ((killO none (killO s? σ)).put d (.av (.sl true c (xs++ys)))):=by
 intro w0 L0 N a w hN ⟨L,hR⟩
 obtain⟨L1,π,_,_,hh⟩:=rd_ok hR hy (by simp)
 obtain⟨a2,cap2,us,hrow,hcy,h3⟩:=rep_row hh
 have hcok:CellsOk ys:=fun z hz=>(hok z hz).2
 have hrep:∀ (o:Nat) z,(flat ys)[o]?=some z→∃ u,us[o]?=some u∧Rep L1 w none z u:=fun o z hz=>by
  have hz':=hok z (List.mem_of_getElem? hz)
  rcases h3 with⟨rfl,rfl,_⟩|⟨_,b,off,_,_,_,h8⟩|⟨_,p,b,arr,e3,_,_,_,_,_,_,_,h8⟩
  ·simp [flat] at hz
  ·exact h8 o z hz
  ·obtain⟨u,hu,hr⟩:=h8 o z hz
   exact⟨u,hu,hr.flatPlain hz'.1⟩
 have hY:YSrc L w c d (xs.length*c) none ys (a.eval y) ys.length us a2 cap2:=by
  refine⟨hrow,one_of (π:=fun _=>none) hcok hrow.len hcy hrep,rfl,hcy,fun o z hz=>?_⟩
  obtain⟨u,hu,hr⟩:=hrep o z hz
  exact⟨u,hu,fun L' w' _ _ _ _ _ _=>hr.flatPlain (hok z (List.mem_of_getElem? hz)).1⟩
 obtain⟨v,w',h1,h2⟩:=app_core hT hT2 hE hx (fun c' h=>by subst h;simpa using hc) hsd rfl (fun t' h=>by cases h) hb hm hR (hN d rfl) hY (ty:=ty) (pos:=pos) (aft:=aft) (g:=g)
 exact⟨v,w',.inl h1,h2⟩
theorem e_appOM{α:Type}{f:α→AV}{l:List α}{a:α}{ty0:Nat}(hT:S.T t=some ⟨.slice e,sz,by_,zz⟩)(hT2:S.T t2=some ⟨.slice e2,sz2,by2,zz2⟩)(hE:S.T e=some ⟨kk,c,by3,zs⟩)(hx:srcAt σ x=some (s?,c?,l.map f))(hy:get σ ty0=.av (.sl true c [f a]))(hc:c?.getD c=c)(hsd:isS s? d=false)(htd:Nat.beq ty0 d=false)(hst:isS s? ty0=false)(hok:(f a).cells.all AV.cellOk=true)
  (hb:(l.length+1)*by3≤140737488355328) (hm:l.length+1≤4611686018427387904) :
  EStep S ⟨some d,.call ⟨.builtin .append,#[x,.tmp ty0],#[t,t2]⟩,ty,pos,aft,g⟩ σ ((killO (some ty0) (killO s? σ)).put d (.av (.sl true c ((l++[a]).map f)))):=by
 rw [List.map_append]
 exact e_appO hT hT2 hE hx hy hc hsd htd hst (.lit (by simpa [flat] using hok)) (by simpa using hb) (by simpa using hm)
theorem e_appBM{α:Type}{f:α→AV}{l l2:List α}{o:Bool}(hT:S.T t=some ⟨.slice e,sz,by_,zz⟩)(hT2:S.T t2=some ⟨.slice e2,sz2,by2,zz2⟩)(hE:S.T e=some ⟨kk,c,by3,zs⟩)(hx:srcAt σ x=some (s?,c?,l.map f))(hy:rd σ (ov σ y)=.sl o c (l2.map f))(hc:c?.getD c=c)(hsd:isS s? d=false)(hok:FlatOk (l2.map f))
  (hb:(l.length+l2.length)*by3≤140737488355328) (hm:l.length+l2.length≤4611686018427387904) :
  EStep S ⟨some d,.call ⟨.builtin .append,#[x,y],#[t,t2]⟩,ty,pos,aft,g⟩ σ ((killO none (killO s? σ)).put d (.av (.sl true c ((l++l2).map f)))):=by
 rw [List.map_append]
 exact e_appB hT hT2 hE hx hy hc hsd hok (by simpa using hb) (by simpa using hm)
end
end
end FM
