/- Part of the proof. -/
import Derived.Test.YtmbbagbhmjaedaaGreatDoorCaf
set_option linter.all false
namespace FM
open Go Go.RowKit
variable {w:World}{c t d e t2 e2 sz cA tJ tK tM k mD:Nat}{s? t?:Option Nat}{zz Lr zs xs ys:List AV}{q:List Nat}{L:Nat->aO}
structure ri(w:World)(c:Nat)(v:Value)(n:Nat)(vs:List Value)(a:Option Addr)(cap:Nat):Prop where
 val:v=.slice a n cap
 len:vs.length=n*c
 cell:∀ (j:Nat) u,vs[j]?=some u->∃ b,a=some b/\w.cell? (b.add j)=some u
theorem eE{P:Program}{w:World}{c n:Nat}{v:Value}{vs:List Value}{a:Option Addr}{cap:Nat}(h:ri w c v n vs a cap):(Builtin.firstCells c n v).run P w=.ok vs.toArray w:=by
 rw [h.val]
 cases a with
 | none =>
  have:vs=[]:=by
   cases vs with
   | nil=>rfl
   | cons u vs=>obtain⟨b,hb,_⟩:=h.cell 0 u rfl;cases hb
  subst this;simp [Builtin.firstCells]
 | some b =>
  refine run_firstCells_some w c n b n cap vs h.len fun j u hu=>?_;obtain⟨b',hb,hc⟩:=h.cell j u hu;cases hb;exact hc
theorem ri.drew{w:World}{c n:Nat}{v:Value}{vs:List Value}{a:Option Addr}{cap:Nat}(h:ri w c v n vs a cap):ri w.drew c v n vs a cap:=⟨h.val,h.len,h.cell⟩
section
variable {S:Sys} {N:Nat} {σ:St}
theorem wh{kk:TK}(hT:S.T t=some ⟨.slice e,sz,cA,zz⟩)(oI:S.T t2=some ⟨.slice e2,tJ,tK,Lr⟩)(hE:S.T e=some ⟨kk,c,tM,zs⟩){x y:Value}{n m:Nat}{np news:List Value}{a a2:Option Addr}{cap mD:Nat}{w:World}
  (hx:ri w c x n np a cap) (hy:ri w c y m news a2 mD) (hg:cap<n+m) (hb:(n+m)*tM<=140737488355328) (hm:n+m<=4611686018427387904) (ty:Nat) :
  ∃ (rj:Nat) (arr:Array Value),(Builtin.append_ #[t,t2] ty #[x,y]).run S.P w=.ok (.slice (some ⟨w.heap.size,0,none⟩) (n+m) rj) (w.drew.alloc (.cells arr e))/\n+m<=rj/\arr.size=rj*c/\∀ j,j<(n+m)*c->arr[j]?=(np++news)[j]?:=by
 obtain⟨f,zv,h1,h2,h3,h4,h5,h6,h7⟩:=(S.ok e _ hE).info;have lC:=eE (P:=S.P) hx.drew;have j4:=eE (P:=S.P) hy.drew;have hn:¬ (n+m<=cap):=ae;have XN:¬ (9223372036854775807<((n:Int)+(m:Int))):=ae;have h48:¬ (281474976710656<Builtin.nextslicecap (n+m) cap*f.bytes):=by
  rw [h3];have:=growslice_fits (bytes:=tM) hg hb;show ¬ (281474976710656<Builtin.nextslicecap (n+m) cap*tM);omega
 have hge:=grownCap_ge w (n+m) cap e;have kh:f.size=c:=h2;have h7':zv.cells.size=c:=h7;refine⟨grownCap w (n+m) cap e,np.toArray++news.toArray++Builtin.zeroCells zv.cells (grownCap w (n+m) cap e-(n+m)),?_,hge,?_,fun j hj=>?_⟩
 ·have XO:=hx.val;have PH:=hy.val;subst XO PH;simp [Builtin.append_,run_underlying (S.ok t _ hT).slice,run_underlying (S.ok t2 _ oI).slice,Go.sizeOf,typeInfo,zeroValue,h1,kh,h4,Builtin.lenOf,hn,XN,h48,Question.forced,lC,j4,newRow,grownCap];have hon:np.toArray++news.toArray=(np++news).toArray:=ag;rw [<- Array.append_assoc,hon]
 ·simp only [Array.size_append,List.size_toArray,size_zeroCells,hx.len,hy.len,h7'];rw [<- ah9,<-ah9];congr 1;omega
 ·have hl:(np.toArray++news.toArray).size=(n+m)*c:=by simp [hx.len,hy.len,ah9]
  rw [Array.getElem?_append_left ae];simp
theorem wi{kk:TK}(hT:S.T t=some ⟨.slice e,sz,cA,zz⟩)(oI:S.T t2=some ⟨.slice e2,tJ,tK,Lr⟩)(hE:S.T e=some ⟨kk,c,tM,zs⟩){y:Value}{n m:Nat}{news:List Value}{a2:Option Addr}{gb cap e3 mD:Nat}{cur:Array Value}{w:World}
  (TO:w.heap[gb]?=some (.cells cur e3 (0,0))) (bc:cur.size=cap*c) (hy:ri w c y m news a2 mD) (h1:∀ u∈news,u.oneCell'=true) (hr:n+m<=cap) (ty:Nat) :
  (Builtin.append_ #[t,t2] ty #[.slice (some ⟨gb,0,none⟩) n cap,y]).run S.P w=.ok (.slice (some ⟨gb,0,none⟩) (n+m) cap) (w.setRow gb (cur.toList.take (n*c)++news++cur.toList.drop (n*c+news.length)).toArray):=by
 obtain⟨f,zv,lC,j4,_⟩:=(S.ok e _ hE).info;have HC:f.size=c:=j4;have hf:=eE (P:=S.P) hy;have PH:=hy.val;subst PH;have lQ:n*c+0+news.length<=cur.size:=by
  rw [hy.len,bc,aib,<-ah9];exact ahT _ hr
 have cH:=run_storeCells_at S.P gb (n*c) e3 news 0 cur w TO lQ h1;simp only [aib] at cH;simp [Builtin.append_,run_underlying (S.ok t _ hT).slice,run_underlying (S.ok t2 _ oI).slice,Go.sizeOf,typeInfo,lC,HC,Builtin.lenOf,hr,hf,addr_add,cH]
theorem wm{kk:TK}(hT:S.T t=some ⟨.slice e,sz,cA,zz⟩)(oI:S.T t2=some ⟨.slice e2,tJ,tK,Lr⟩)(hE:S.T e=some ⟨kk,c,tM,zs⟩){y:Value}{a a2:Option Addr}{mD:Nat}{w:World}
  (hy:ri w c y 0 [] a2 mD) (ty:Nat) :
  (Builtin.append_ #[t,t2] ty #[.slice a 0 0,y]).run S.P w=.ok (.slice a 0 0) w:=by
 obtain⟨f,zv,lC,j4,_⟩:=(S.ok e _ hE).info;have hf:=eE (P:=S.P) hy;have PH:=hy.val;subst PH;have XP:(Builtin.firstCells f.size 0 (.slice a2 0 mD)).run S.P w=.ok #[] w:=by rw [show f.size=c from j4];simpa using hf
 cases a<;>simp [Builtin.append_,run_underlying (S.ok t _ hT).slice,run_underlying (S.ok t2 _ oI).slice,Go.sizeOf,typeInfo,lC,Builtin.lenOf,XP,storeCells]
def rl(σ:St)(x:Operand):Option (Option Nat×Option Nat×List AV) :=
 match ov σ x with
 | .av .nil=>some (none,none,[])
 | .av (.sl true c xs)=>match x with
  | .tmp t=>some (some t,some c,xs)
  | _=>none
 | .ref s=>match get σ s with
  | .av (.sl true c xs)=>some (some s,some c,xs)
  | _=>none
 | _=>none
def nh(s?:Option Nat)(h:Nat):Bool:=match s? with
 | some s=>Nat.beq s h
 | none=>false
theorem nq{s h:Nat}:nh (some s) h=true↔s=h:=⟨ahz,fun e=>by subst e;exact ahy s⟩
def iy(d:Nat)(s? t?:Option Nat)(k:Nat):List Nat->Option (List Nat)
 | []=>none
 | h::q=>bif Nat.beq h d then none else
  bif nh s? h then(match q with
   | o::q'=>if o<k then some (d::o::q') else none
   | []=>none) else
  bif nh t? h then(match q with
   | o::q'=>some (d::(k+o)::q')
   | []=>none) else some (h::q)
theorem iz{p r:List Nat}(h:iy d s? t? k p=some r):
  (∃ s o q,s?=some s/\p=s::o::q/\o<k/\r=d::o::q)∨(∃ t o q,t?=some t/\p=t::o::q/\r=d::(k+o)::q/\nh s? t=false)∨(∃ a q,p=a::q/\r=a::q/\a≠d/\nh s? a=false/\nh t? a=false):=by
 cases p with
 | nil=>cases h
 | cons a q =>
  simp only [iy] at h
  cases hd:Nat.beq a d with
  | true=>rw [hd] at h;cases h
  | false =>
   rw [hd,cond_false] at h
   cases hs:nh s? a with
   | true =>
    rw [hs,cond_true] at h
    cases q with
    | nil=>cases h
    | cons o q' =>
     simp only at h;split at h
     ·rename_i aA;injection h with h
      cases s? with
      | none=>cases hs
      | some s=>have:=nq.1 hs;subst this;exact .inl ⟨s,o,q',rfl,rfl,aA,h.symm⟩
     ·cases h
   | false =>
    rw [hs,cond_false] at h
    cases ht:nh t? a with
    | true =>
     rw [ht,cond_true] at h
     cases q with
     | nil=>cases h
     | cons o q' =>
      simp only at h;injection h with h
      cases t? with
      | none=>cases ht
      | some t=>have:=nq.1 ht;subst this;exact .inr (.inl ⟨t,o,q',rfl,rfl,h.symm,hs⟩)
    | false =>
     rw [ht,cond_false] at h;injection h with h
     exact .inr (.inr ⟨a,q,rfl,h.symm,aC hd,hs,ht⟩)
theorem Fi(d:Nat)(s? t?:Option Nat)(k:Nat):TM (iy d s? t? k):=by
 refine⟨fun p p' r h h'=>?_,fun p h=>?_⟩
 ·rcases iz h with⟨s,o,q,e1,e2,e3,e4⟩|⟨t,o,q,e1,e2,e3,e4⟩|⟨b,q,e1,e2,e3,e4,e5⟩ <;>
   rcases iz h' with⟨s',o',q',oD,Bt,HD,G9⟩|⟨t',o',q',oD,Bt,HD,G9⟩|⟨b',q',oD,Bt,HD,G9,e5'⟩
  ·rw [e1] at oD;cases oD;subst e2;subst Bt;rw [e4] at G9;cases G9;rfl
  ·rw [e4] at HD;injection HD with _ e;injection e with e _;omega
  ·rw [e4] at Bt;injection Bt with e _;exact absurd e.symm HD
  ·rw [e3] at G9;injection G9 with _ e;injection e with e _;omega
  ·rw [e1] at oD;cases oD;subst e2;subst Bt;rw [e3] at HD;injection HD with _ e;injection e with e1 e2;subst e2;have:o=o':=ae
   subst this;rfl
  ·rw [e3] at Bt;injection Bt with e _;exact absurd e.symm HD
  ·rw [e2] at G9;injection G9 with e _;exact absurd e e3
  ·rw [e2] at HD;injection HD with e _;exact absurd e e3
  ·subst e1;subst oD;rw [e2] at Bt;exact Bt
 ·rcases iz h with⟨_,_,_,_,_,_,e⟩|⟨_,_,_,_,_,e,_⟩|⟨_,_,_,e,_⟩<;>cases e
theorem HE(d:Nat)(s? t?:Option Nat)(k:Nat)(p:List Nat):iy d s? t? k p≠some [d]:=by
 intro h;rcases iz h with⟨_,_,_,_,_,_,e⟩|⟨_,_,_,_,_,e,_⟩|⟨_,_,_,e,e3,_⟩
 ·cases e
 ·cases e
 ·injection e with e _;exact e3 e.symm
theorem Ls{s o:Nat}(c8:s≠d)(ho:o<k):iy d (some s) t? k (s::o::q)=some (d::o::q):=by
 simp [iy,au c8,nh,ahy,ho]
theorem Lu{o:Nat}(E8:t≠d)(hs:nh s? t=false):iy d s? (some t) k (t::o::q)=some (d::(k+o)::q):=by
 simp only [iy,au E8,hs,cond_false];simp [nh,ahy]
theorem Lw{a:Nat}(h1:a≠d)(h2:nh s? a=false)(h3:nh t? a=false):iy d s? t? k (a::q)=some (a::q):=by
 simp only [iy,au h1,h2,h3,cond_false]
def dQ(s?:Option Nat)(σ:St):St:=match s? with
 | some s=>σ.put s .none
 | none=>σ
theorem gG{s?:Option Nat}{σ:St}{n:Nat}:get (dQ s? σ) n=.none∨(nh s? n=false/\get (dQ s? σ) n=get σ n/\∀ s,s?=some s->(get σ n).dep s=false):=by
 cases s? with
 | none=>exact .inr ⟨rfl,rfl,fun s h=>by cases h⟩
 | some s =>
  simp only [dQ,get,aY,nh]
  cases h:Nat.beq s n with
  | true=>exact .inl rfl
  | false =>
   rw [cond_false]
   cases hd:(get σ n).dep s with
   | true=>exact .inl rfl
   | false=>exact .inr ⟨rfl,rfl,fun s' h=>by cases h;exact hd⟩
structure PI(L:Nat->aO)(w:World)(c d k:Nat)(t?:Option Nat)(ys:List AV)(v:Value)(m:Nat)(news:List Value)(a2:Option Addr)(mD:Nat):Prop where
 row:ri w c v m news a2 mD
 one:∀ u∈news,u.oneCell'=true
 len:ys.length=m
 cells:∀ y∈ys,y.cells.length=c
 rep:∀ (o:Nat) z,(flat ys)[o]?=some z->∃ u,news[o]?=some u/\∀ (L':Nat->aO) (w':World),w.heap.size<=w'.heap.size->w'.os=w.os->w'.tape=w.tape->w'.output=w.output ->
  (∀ b,L b=.sh->b<w.heap.size->L' b=.sh/\w'.heap[b]?=w.heap[b]?)->(∀ t,t?=some t->∀ b o q,L b=.my (t::o::q)->L' b=.my (d::(k+o)::q)/\w'.heap[b]?=w.heap[b]?)->Rep L' w' (some [d,k+o]) z u
theorem yA{b off o:Nat}{u:Value}(h:w.cell? ⟨b,off+o,none⟩=some u):w.cell? ((⟨b,off,none⟩:Addr).add o)=some u:=by rw [addr_add];exact h
theorem wq{π:Option (List Nat)}{own:Bool}{v:Value}(h:Rep L w π (.sl own c xs) v):
    ∃ a cap us,ri w c v xs.length us a cap/\(∀ x∈xs,x.cells.length=c) /\
      ((us=[]/\xs=[]/\(own=true->cap=0)) ∨
       (own=false/\∃ b off,a=some ⟨b,off,none⟩/\L b=.sh/\b<w.heap.size/\∀ (o:Nat) z,(flat xs)[o]?=some z->∃ u,us[o]?=some u/\Rep L w none z u) ∨
       (own=true/\∃ p b arr e,π=some p/\a=some ⟨b,0,none⟩/\L b=.my p/\w.heap[b]?=some (.cells arr e (0,0))/\xs.length<=cap/\arr.size=cap*c/\(∀ o,o<xs.length*c->us[o]?=arr[o]?)/\∀ (o:Nat) z,(flat xs)[o]?=some z->∃ u,us[o]?=some u/\Rep L w (some (p++[o])) z u)):=by
  cases h with
  | @slE _ _ _ a cap h=>exact⟨a,cap,[],⟨rfl,ag,ag⟩,ag,.inl ⟨rfl,rfl,h⟩⟩
  | @slS _ c xs b off cap u bK hL hb hc aH hr =>
    refine⟨_,cap,(List.range (xs.length*c)).map u,⟨rfl,ag,fun j v hv=>⟨_,rfl,?_⟩⟩,hc,.inr (.inl ⟨rfl,b,off,rfl,hL,hb,fun o z hz=>?_⟩)⟩
    · simp only [ahE,ahs] at hv;obtain⟨i,hi,rfl⟩:=hv;obtain⟨aA,rfl⟩:=aho.1 hi;simp only [List.length_range] at aA;simp only [List.getElem_range];exact yA (aH j aA)
    · have ho:o<xs.length*c:=by rw [<- bh hc];exact(aho.1 hz).1
      exact⟨u o,by simp [ho],hr o z hz⟩
  | @slO p c xs b cap arr e u hL hb bK bc hc aH hr =>
    refine⟨_,cap,(List.range (xs.length*c)).map u,⟨rfl,ag,fun j v hv=>⟨_,rfl,?_⟩⟩,hc,.inr (.inr ⟨rfl,p,b,arr,e,rfl,rfl,hL,hb,bK,bc,fun o ho=>by simp [ho,aH o ho],fun o z hz=>?_⟩)⟩
    · simp only [ahE,ahs] at hv;obtain⟨i,hi,rfl⟩:=hv;obtain⟨aA,rfl⟩:=aho.1 hi;simp only [List.length_range] at aA;simp only [List.getElem_range];refine yA ?_;rw [ahR,cell_of_row w b j arr e (0,0) hb];exact aH j aA
    · have ho:o<xs.length*c:=by rw [<- bh hc];exact(aho.1 hz).1
      exact⟨u o,by simp [ho],hr o z hz⟩
theorem Bu{x:Operand}{c?:Option Nat}(h:rl σ x=some (s?,c?,xs)){w0:World}{L0:Nat->aO}{a:Act}(hR:RelL S w0 L0 N σ a w L):
  (s?=none/\xs=[]/\a.eval x=.slice none 0 0)∨∃ s c,s?=some s/\c?=some c/\s<N/\get σ s=.av (.sl true c xs)/\Rep L w (some [s]) (.sl true c xs) (a.eval x):=by
 unfold rl at h;split at h
 ·rename_i hx;simp only [ahp,Prod.mk.injEq] at h;obtain⟨rfl,rfl,rfl⟩:=h;exact .inl ⟨rfl,rfl,Bl hR hx⟩
 ·rename_i c TP hx;split at h
  ·rename_i t;simp only [ahp,Prod.mk.injEq] at h;obtain⟨rfl,rfl,rfl⟩:=h;have ht:=aJ hR hx ag;have:=hR.hold t ht;rw [show get σ t=_ from hx] at this;exact .inr ⟨t,c,rfl,rfl,ht,hx,this⟩
  ·cases h
 ·rename_i s hx;split at h
  ·rename_i c TP hs;simp only [ahp,Prod.mk.injEq] at h;obtain⟨rfl,rfl,rfl⟩:=h;obtain⟨n,hn,_⟩:=aM hR hx ag;simp only [Hold] at hn;have ja:=aJ hR hs ag;have:=hR.hold s ja;rw [hs] at this;refine .inr ⟨s,c,rfl,rfl,ja,hs,by rw [hn];exact this⟩
  ·cases h
 ·cases h
theorem yB{kk:TK}(hT:S.T t=some ⟨.slice e,sz,cA,zz⟩)(oI:S.T t2=some ⟨.slice e2,tJ,tK,Lr⟩)(hE:S.T e=some ⟨kk,c,tM,zs⟩){x y:Operand}{c? s? t?:Option Nat}{xs ys:List AV}{ty d:Nat}{pos:String}{aft:Array Edge}{g:Option (Nat×Bool)}
  (hx:rl σ x=some (s?,c?,xs)) (hc:∀ c',c?=some c'->c'=c) (c8:nh s? d=false) (E8:nh t? d=false) (cH:∀ t,t?=some t->nh s? t=false) (hb:(xs.length+ys.length)*tM<=140737488355328) (hm:xs.length+ys.length<=4611686018427387904)
  {w0:World} {L0:Nat->aO} {a:Act} {w:World} {L:Nat->aO} (hR:RelL S w0 L0 N σ a w L) (hd:oC S N d) {news:List Value} {a2:Option Addr} {mD:Nat} (hY:PI L w c d (xs.length*c) t? ys (a.eval y) ys.length news a2 mD) :
  ∃ v w',(execOp a.eval ⟨some d,.call ⟨.builtin .append,#[x,y],#[t,t2]⟩,ty,pos,aft,g⟩).run S.P w=.ok (.value v) w'/\Rel S w0 L0 N ((dQ t? (dQ s? σ)).put d (.av (.sl true c (xs++ys)))) (a.put (some d) v) w':=by
 have HF:∀ v w',(Builtin.append_ #[t,t2] ty #[a.eval x,a.eval y]).run S.P w=.ok v w'->(execOp a.eval ⟨some d,.call ⟨.builtin .append,#[x,y],#[t,t2]⟩,ty,pos,aft,g⟩).run S.P w=.ok (.value v) w':=fun v w' h=>by
  simp [execOp,resolve,invoke,builtin,h]
 obtain⟨ax,cap,np,tX,jF,hxc⟩:∃ ax cap np,ri w c (a.eval x) xs.length np ax cap/\(∀ z∈xs,z.cells.length=c) /\
   ((np=[]/\xs=[]/\cap=0)∨∃ s b arr e3,s?=some s/\ax=some ⟨b,0,none⟩/\L b=.my [s]/\w.heap[b]?=some (.cells arr e3 (0,0))/\xs.length<=cap/\arr.size=cap*c/\(∀ o,o<xs.length*c->np[o]?=arr[o]?)/\∀ (o:Nat) z,(flat xs)[o]?=some z->∃ u,np[o]?=some u/\Rep L w (some [s,o]) z u):=by
  rcases Bu hx hR with⟨h1,rfl,h3⟩|⟨s,c',h1,h2,_,_,h4⟩
  ·exact⟨none,0,[],⟨h3,ag,ag⟩,ag,.inl ⟨rfl,rfl,rfl⟩⟩
  ·have:=hc c' h2;subst this;obtain⟨a1,cap,us,e1,e2,e3⟩:=wq h4;refine⟨a1,cap,us,e1,e2,?_⟩;rcases e3 with⟨r1,r2,r3⟩|⟨r1,_⟩|⟨_,p,b,arr,e3,r1,r2,r3,r4,r5,r6,r7,r8⟩
   ·exact .inl ⟨r1,r2,r3 rfl⟩
   ·cases r1
   ·cases r1;exact .inr ⟨s,b,arr,e3,h1,r2,r3,r4,r5,r6,r7,r8⟩
 have HG:np.length=xs.length*c:=tX.len;have HH:news.length=ys.length*c:=hY.row.len;have PK:=hY.cells;have TQ:∀ z∈xs++ys,z.cells.length=c:=fun z hz=>by rcases aie.1 hz with h|h;exact jF z h;exact PK z h
 have fin:∀ (gb:Nat) (w':World) (v:Value) (arr:Array Value) (e3 rj:Nat),v=.slice (some ⟨gb,0,none⟩) (xs.length+ys.length) rj->w'.heap[gb]?=some (.cells arr e3 (0,0))->xs.length+ys.length<=rj->arr.size=rj*c->(∀ j,j<(xs.length+ys.length)*c->arr[j]?=(np++news)[j]?) ->
   w.heap.size<=w'.heap.size->w'.os=w.os->w'.tape=w.tape->w'.output=w.output->(∀ b,b≠gb->b<w.heap.size->w'.heap[b]?=w.heap[b]?)->(w.heap.size<=gb∨∃ s,s?=some s/\L gb=.my [s])->gb<w'.heap.size ->
   Rel S w0 L0 N ((dQ t? (dQ s? σ)).put d (.av (.sl true c (xs++ys)))) (a.put (some d) v) w':=by
  intro gb w' v arr e3 rj hv TO NS jh kl hs ho ht hu hblk DF aA;subst hv;have HI:∀ b,L b=.sh->b<w.heap.size->b≠gb:=fun b hb iu e=>by
   subst e;rcases DF with h|⟨s,_,h⟩
   ·omega
   ·rw [hb] at h;cases h
  have kx:∀ b,L b=.sh->b<w.heap.size->fw (iy d s? t? (xs.length*c)) gb d L b=.sh/\w'.heap[b]?=w.heap[b]?:=fun b hb iu =>
   ⟨by unfold fw;rw [if_neg (HI b hb iu)];exact eD hb,hblk b (HI b hb iu) iu⟩
  have SH:∀ b p r,L b=.my p->iy d s? t? (xs.length*c) p=some r->(∀ s,s?=some s->p≠[s])->fw (iy d s? t? (xs.length*c)) gb d L b=.my r/\w'.heap[b]?=w.heap[b]?:=fun b p r hb Ff hp=>by
   have iu:=hR.lok.lt b p hb;have cr:b≠gb:=fun e=>by
    subst e;rcases DF with h|⟨s,h1,h2⟩
    ·omega
    ·rw [hb] at h2;injection h2 with h2;exact hp s h1 h2
   exact⟨by unfold fw;rw [if_neg cr];exact dG hb Ff,hblk b cr iu⟩
  have TT:gf L0 w0 w':=by
   refine⟨ho.trans hR.keep.os,ht.trans hR.keep.tape,hu.trans hR.keep.output,ahZ hR.keep.size hs,fun b hb hn=>?_⟩;have iu:=ahv hb hR.keep.size;refine(hblk b (fun e=>?_) iu).trans (hR.keep.block b hb hn);subst e;rcases DF with h|⟨s,_,h2⟩
   ·omega
   ·obtain⟨q,hq⟩:=hR.lok.old b [s] hb h2;exact hn q hq
  refine⟨fw (iy d s? t? (xs.length*c)) gb d L,hR.defers,by simp [Act.put,hR.size],TT,hR.lok.fw hs (Fi _ _ _ _) (HE _ _ _ _) aA (fun h'=>?_),fun n hn=>?_,fun n hn=>?_,fun i hi=>(ay (hd.ne hi)).trans (hR.fix i hi),hR.glob⟩
  ·rcases DF with h|⟨s,_,h2⟩
   ·have:=hR.keep.size;omega
   ·exact⟨_,h2⟩
  ·simp only [get,aY,Act.put];by_cases gP:d=n
   ·subst gP;rw [ahy,cond_true,bJ (by rw [hR.size];exact hd.lt)];simp only [Hold];rw [<- ahC];refine .slO (fun o=>arr.getD o undef) (by simp [fw]) TO (by simpa using NS) jh TQ (fun o ho'=>?_) (fun o z hz=>?_)
    ·have:o<arr.size:=by rw [jh];exact ahv ho' (ahT _ (by simpa using NS))
     simp [this]
    ·have PE:o<(xs.length+ys.length)*c:=by
      have:=(aho.1 hz).1
      rwa [bh TQ,ahC] at this
     have WW:=kl o PE;rw [dp] at hz;by_cases WY:o<xs.length*c
     ·rw [ahG (by rw [bh jF];exact WY)] at hz;rcases hxc with⟨_,rfl,_⟩|⟨s,b,Lx,e0,h1,h2,h3,h4,h5,h6,h7,h8⟩
      ·simp at WY
      ·obtain⟨u,qO,hr⟩:=h8 o z hz;rw [ahG (by rw [HG];exact WY),qO] at WW;have:arr.getD o undef=u:=by simp [WW]
       rw [this];refine hr.frame hs ho ht hu kx _ fun p hp=>?_;cases hp;have PL:s≠d:=fun e=>by subst e;subst h1;simp [nh,ahy] at c8
       exact⟨[d,o],rfl,fun b' q bI=>SH b' _ _ bI (by subst h1;exact Ls PL WY) (fun s' _ e=>by simp at e)⟩
     ·rw [ahJ (by rw [bh jF];omega),bh jF] at hz;obtain⟨u,qO,hr⟩:=hY.rep _ z hz;rw [ahJ (by rw [HG];omega),HG,qO] at WW;have:arr.getD o undef=u:=by simp [WW]
      rw [this]
      have:=hr _ w' hs ho ht hu kx (fun t htt b o' q bI=>SH b _ _ bI (by
       subst htt
       exact Lu (fun e=>by subst e;simp [nh,ahy] at E8) (cH t rfl)) (fun s' _ e=>by simp at e))
      rwa [show xs.length*c+(o-xs.length*c)=o by omega] at this
   ·rw [au gP,cond_false,ay gP]
    cases b6:(get (dQ t? (dQ s? σ)) n).dep d with
    | true=>trivial
    | false =>
     rw [cond_false];rcases gG (s?:=t?) (σ:=dQ s? σ) (n:=n) with h|⟨h1,h2,h3⟩
     ·rw [h];trivial
     ·rw [h2] at b6 ⊢;rcases gG (s?:=s?) (σ:=σ) (n:=n) with h|⟨h4,h5,h6⟩
      ·rw [h];trivial
      ·rw [h5] at b6 h3 ⊢
       refine Hold.cG (good:=fun m=>m≠d/\nh s? m=false/\nh t? m=false) hs ho ht hu kx (fun b m q hb hg=>SH b _ _ hb (Lw hg.1 hg.2.1 hg.2.2) (fun s dz e=>by
        injection e with e _
        subst e
        have:=hg.2.1
        subst dz
        simp [nh,ahy] at this)) (fun s' hg=>ay (fun e=>hg.1 e.symm)) ⟨fun e=>gP e.symm,h4,h1⟩ (fun m hm=>⟨fun e=>?_,?_,?_⟩) (hR.hold n hn)
       ·subst e;rw [b6] at hm;cases hm
       ·rw [<- Bool.not_eq_true];intro e
        cases s? with
        | none=>cases e
        | some s=>have:=nq.1 e;subst this;have:=h6 s rfl;rw [this] at hm;cases hm
       ·rw [<- Bool.not_eq_true];intro e
        cases t? with
        | none=>cases e
        | some s=>have:=nq.1 e;subst this;have:=h3 s rfl;rw [this] at hm;cases hm
  ·simp only [get,aY];rw [au (show d≠n by have:=hd.lt;omega),cond_false];rcases gG (s?:=t?) (σ:=dQ s? σ) (n:=n) with h|⟨_,h2,_⟩
   ·rw [h];rfl
   ·rw [h2];rcases gG (s?:=s?) (σ:=σ) (n:=n) with h|⟨_,h5,_⟩
    ·rw [h];rfl
    ·rw [h5,hR.out n hn];rfl
 by_cases yC:cap<xs.length+ys.length
 ·obtain⟨rj,arr,h1,h2,h3,h4⟩:=wh hT oI hE tX hY.row yC hb hm ty;refine⟨_,_,HF _ _ h1,fin w.heap.size _ _ arr e rj rfl (heap_alloc_new w.drew _) h2 h3 h4 ag rfl rfl rfl (fun b _ aA=>(oH w.drew (.cells arr e)).block b aA) (.inl (ahr _)) ag⟩
 ·rcases hxc with⟨rfl,rfl,rfl⟩|⟨s,b,Lx,e0,h1,h2,h3,h4,h5,h6,h7,h8⟩
  ·
   have SI:ys=[]:=ah4 (by simp only [aim,ahR] at yC;omega);subst SI;have hn0:news=[]:=ah4 (by simpa using HH);subst hn0;have hv:=tX.val;simp only [aim] at hv;have hr:=wm hT oI hE hY.row ty (a:=ax) (w:=w);rw [<- hv] at hr;refine⟨_,_,HF _ _ hr,Rel.weaken (σ:=σ.put d (.av (.sl true c []))) (fun n=>?_) ⟨_,hR.put hd (by rw [hv];exact .slE (fun _=>rfl))⟩⟩;simp only [get,aY,ais]
   cases hdn:Nat.beq d n with
   | true=>exact .inl rfl
   | false =>
    simp only [cond_false];rcases gG (s?:=t?) (σ:=dQ s? σ) (n:=n) with h|⟨_,h2,_⟩
    ·rw [h];exact .inr rfl
    ·rw [h2];rcases gG (s?:=s?) (σ:=σ) (n:=n) with h|⟨_,h5,_⟩
     ·rw [h];exact .inr rfl
     ·rw [h5];exact .inl rfl
  ·have hv:=tX.val;subst h2;have hr:=wi hT oI hE h4 h6 hY.row hY.one (by omega:xs.length+ys.length<=cap) ty;rw [<- hv] at hr;have XQ:=(ahx.1 h4).1;have hmul:(xs.length+ys.length)*c<=cap*c:=ahT _ ae;rw [ah9] at hmul;refine⟨_,_,HF _ _ hr,fin b _ _ (Lx.toList.take (xs.length*c)++news++Lx.toList.drop (xs.length*c+news.length)).toArray e0 cap rfl (setRow_heap w b Lx _ e0 (0,0) h4) ae ?_ (fun j hj=>?_) ag rfl rfl rfl (fun k hk _=>setRow_other w b k _ hk) (.inr ⟨s,h1,h3⟩) (by simpa using XQ)⟩
   ·simp only [List.size_toArray,ahC,ahF,ahV,aiA,HH];omega
   ·rw [ah9] at hj;rw [List.getElem?_toArray];by_cases hjx:j<xs.length*c
    ·rw [ahX,ahG (by simp;omega),ahG ae,aiq,if_pos hjx,h7 j hjx,air]
    ·rw [ahG (by simp [HH];omega),ahJ (by simp;omega),ahJ ae];congr 1
     simp;omega
def fl(ys:List AV):Prop:=∀ z∈flat ys,z.dK=true
def kJ(ys:List AV):Prop:=∀ z∈flat ys,z.aR=true/\z.dK=true
theorem fl.lit(h:(flat ys).all AV.dK=true):fl ys:=fun z hz=>ahM.1 h z hz
theorem fl.map{α:Type}{f:α->AV}{l:List α}(h:∀ x,(f x).cells.all AV.dK=true):fl (l.map f):=by
 intro z hz;simp only [flat,List.mem_flatMap,ahY] at hz;obtain⟨_,⟨x,_,rfl⟩,hz⟩:=hz;exact ahM.1 (h x) z hz
theorem kJ.map{α:Type}{f:α->AV}{l:List α}(h:∀ x,(f x).cells.all (fun z=>z.aR&&z.dK)=true):kJ (l.map f):=by
 intro z hz;simp only [flat,List.mem_flatMap,ahY] at hz;obtain⟨_,⟨x,_,rfl⟩,hz⟩:=hz;simpa using ahM.1 (h x) z hz
theorem kJ.int{l:List Int}:kJ (l.map AV.int):=.map fun _=>rfl
theorem HJ{us:List Value}{π:Nat->Option (List Nat)}(hok:fl ys)(hl:us.length=ys.length*c)(hc:∀ y∈ys,y.cells.length=c)(h:∀ (o:Nat) z,(flat ys)[o]?=some z->∃ u,us[o]?=some u/\Rep L w (π o) z u):∀ u∈us,u.oneCell'=true:=by
 intro u hu;obtain⟨o,ho,rfl⟩:=aip.1 hu;have aA:o<(flat ys).length:=by rw [bh hc,<-hl];exact ho
 obtain⟨u',h1,h2⟩:=h o _ (ahn aA);rw [ahn ho] at h1;injection h1 with h1
 rw [h1];exact(fx h2 (hok _ (ahB aA))).2.1
section
variable {t e c t2 e2:Nat} {sz cA tJ tK tM:Nat} {zz Lr zs:List AV} {kk:TK} {x y:Operand} {s? c?:Option Nat} {xs ys:List AV} {d ty:Nat} {pos:String} {aft:Array Edge} {g:Option (Nat×Bool)}
theorem HK{Bv:Nat}(hT:S.T t=some ⟨.slice e,sz,cA,zz⟩)(oI:S.T t2=some ⟨.slice e2,tJ,tK,Lr⟩)(hE:S.T e=some ⟨kk,c,tM,zs⟩)(hx:rl σ x=some (s?,c?,xs))(hy:get σ Bv=.av (.sl true c ys))(hc:c?.getD c=c)(c8:nh s? d=false)(E8:Nat.beq Bv d=false)(cH:nh s? Bv=false)(hok:fl ys)
  (hb:(xs.length+ys.length)*tM<=140737488355328) (hm:xs.length+ys.length<=4611686018427387904) :
  EStep S ⟨some d,.call ⟨.builtin .append,#[x,.tmp Bv],#[t,t2]⟩,ty,pos,aft,g⟩ σ ((dQ (some Bv) (dQ s? σ)).put d (.av (.sl true c (xs++ys)))):=by
 intro w0 L0 N a w hN ⟨L,hR⟩;have hh:=hR.hold Bv (aJ hR hy ag);rw [hy] at hh;simp only [Hold] at hh;obtain⟨a2,mD,us,tX,PK,h3⟩:=wq hh;have hY:PI L w c d (xs.length*c) (some Bv) ys (a.eval (.tmp Bv)) ys.length us a2 mD:=by
  refine⟨tX,?_,rfl,PK,fun o z hz=>?_⟩
  ·rcases h3 with⟨rfl,rfl,_⟩|⟨h,_⟩|⟨_,p,b,arr,e3,hp,_,_,_,_,_,_,h8⟩
   ·simp
   ·cases h
   ·exact HJ hok tX.len PK h8
  ·rcases h3 with⟨rfl,rfl,_⟩|⟨h,_⟩|⟨_,p,b,arr,e3,hp,_,_,_,_,_,_,h8⟩
   ·simp [flat] at hz
   ·cases h
   ·cases hp;obtain⟨u,hu,hr⟩:=h8 o z hz;refine⟨u,hu,fun L' w' hs ho ht qO kx hmv=>hr.frame hs ho ht qO kx _ fun p hp=>?_⟩;cases hp;exact⟨_,rfl,fun b q hb=>hmv Bv rfl b o q hb⟩
 obtain⟨v,w',h1,h2⟩:=yB hT oI hE hx (fun c' h=>by subst h;simpa using hc) c8 (by simpa [nh] using E8) (fun t' h=>by cases h;exact cH) hb hm hR (hN d rfl) hY (ty:=ty) (pos:=pos) (aft:=aft) (g:=g);exact⟨v,w',.inl h1,h2⟩
theorem HL{o:Bool}(hT:S.T t=some ⟨.slice e,sz,cA,zz⟩)(oI:S.T t2=some ⟨.slice e2,tJ,tK,Lr⟩)(hE:S.T e=some ⟨kk,c,tM,zs⟩)(hx:rl σ x=some (s?,c?,xs))(hy:rd σ (ov σ y)=.sl o c ys)(hc:c?.getD c=c)(c8:nh s? d=false)(hok:kJ ys)
  (hb:(xs.length+ys.length)*tM<=140737488355328) (hm:xs.length+ys.length<=4611686018427387904) :
  EStep S ⟨some d,.call ⟨.builtin .append,#[x,y],#[t,t2]⟩,ty,pos,aft,g⟩ σ ((dQ none (dQ s? σ)).put d (.av (.sl true c (xs++ys)))):=by
 intro w0 L0 N a w hN ⟨L,hR⟩;obtain⟨L1,π,_,_,hh⟩:=yo hR hy ag;obtain⟨a2,mD,us,tX,PK,h3⟩:=wq hh;have XR:fl ys:=fun z hz=>(hok z hz).2;have bE:∀ (o:Nat) z,(flat ys)[o]?=some z->∃ u,us[o]?=some u/\Rep L1 w none z u:=fun o z hz=>by
  have qw:=hok z (ahH hz);rcases h3 with⟨rfl,rfl,_⟩|⟨_,b,off,_,_,_,h8⟩|⟨_,p,b,arr,e3,_,_,_,_,_,_,_,h8⟩
  ·simp [flat] at hz
  ·exact h8 o z hz
  ·obtain⟨u,hu,hr⟩:=h8 o z hz;exact⟨u,hu,hr.aR qw.1⟩
 have hY:PI L w c d (xs.length*c) none ys (a.eval y) ys.length us a2 mD:=by
  refine⟨tX,HJ (π:=fun _=>none) XR tX.len PK bE,rfl,PK,fun o z hz=>?_⟩;obtain⟨u,hu,hr⟩:=bE o z hz;exact⟨u,hu,fun L' w' _ _ _ _ _ _=>hr.aR (hok z (ahH hz)).1⟩
 obtain⟨v,w',h1,h2⟩:=yB hT oI hE hx (fun c' h=>by subst h;simpa using hc) c8 rfl (fun t' h=>by cases h) hb hm hR (hN d rfl) hY (ty:=ty) (pos:=pos) (aft:=aft) (g:=g);exact⟨v,w',.inl h1,h2⟩
theorem jJ{α:Type}{f:α->AV}{l:List α}{a:α}{Bv:Nat}(hT:S.T t=some ⟨.slice e,sz,cA,zz⟩)(oI:S.T t2=some ⟨.slice e2,tJ,tK,Lr⟩)(hE:S.T e=some ⟨kk,c,tM,zs⟩)(hx:rl σ x=some (s?,c?,l.map f))(hy:get σ Bv=.av (.sl true c [f a]))(hc:c?.getD c=c)(c8:nh s? d=false)(E8:Nat.beq Bv d=false)(cH:nh s? Bv=false)(hok:(f a).cells.all AV.dK=true)
  (hb:(l.length+1)*tM<=140737488355328) (hm:l.length+1<=4611686018427387904) :
  EStep S ⟨some d,.call ⟨.builtin .append,#[x,.tmp Bv],#[t,t2]⟩,ty,pos,aft,g⟩ σ ((dQ (some Bv) (dQ s? σ)).put d (.av (.sl true c ((l++[a]).map f)))):=by
 rw [ah0];exact HK hT oI hE hx hy hc c8 E8 cH (.lit (by simpa [flat] using hok)) (by simpa using hb) (by simpa using hm)
theorem Ly{α:Type}{f:α->AV}{l l2:List α}{o:Bool}(hT:S.T t=some ⟨.slice e,sz,cA,zz⟩)(oI:S.T t2=some ⟨.slice e2,tJ,tK,Lr⟩)(hE:S.T e=some ⟨kk,c,tM,zs⟩)(hx:rl σ x=some (s?,c?,l.map f))(hy:rd σ (ov σ y)=.sl o c (l2.map f))(hc:c?.getD c=c)(c8:nh s? d=false)(hok:kJ (l2.map f))
  (hb:(l.length+l2.length)*tM<=140737488355328) (hm:l.length+l2.length<=4611686018427387904) :
  EStep S ⟨some d,.call ⟨.builtin .append,#[x,y],#[t,t2]⟩,ty,pos,aft,g⟩ σ ((dQ none (dQ s? σ)).put d (.av (.sl true c ((l++l2).map f)))):=by
 rw [ah0];exact HL hT oI hE hx hy hc c8 hok (by simpa using hb) (by simpa using hm)
end
end
end FM
