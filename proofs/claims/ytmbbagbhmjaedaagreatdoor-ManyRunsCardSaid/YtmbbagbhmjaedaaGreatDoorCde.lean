/- Part of the proof. -/
import Derived.Test.YtmbbagbhmjaedaaGreatDoorCdd
import Derived.Conc.Events
set_option linter.all false
namespace CO
open Go
variable {ρ:Ren}{P:Program}{p p':Array Value}{f:FuncId}{fr fr':Frame}
def MY(G:GD)(o:Oper):Bool:=match o.dst with
 | some t=>G.d t==0
 | none=>true
def Jm(F:Nat->Bool)(G:GD)(f:FuncId)(j:Nat)(x:Operand):Bool:=match x with
 | .tmp s=>G.d s==G.D.K f j
 | x=>cR F G x&&G.D.K f j==0
def okDirt(F:Nat->Bool)(G:GD)(o:Oper):Bool :=
 match o.op with
 | .move (.tmp s)|.assign (.tmp s)=>(match o.dst with
  | some t=>G.d t==G.d s
  | none=>false)
 | .indexAddr ty (.tmp s) y=>(match o.dst with
  | some t=>G.d s != 0&&cR F G y&&G.D.idx ty (G.d s)==some (G.d t)
  | none=>false)
 | .fieldAddr ty (.tmp s) i=>(match o.dst with
  | some t=>G.d s != 0&&G.D.fld ty i (G.d s)==some (G.d t)
  | none=>false)
 | .load ty (.tmp s)=>(match o.dst with
  | some t=>G.d s != 0&&G.D.ld ty (G.d s)==some (G.d t)
  | none=>false)
 | .call ⟨.builtin .len,⟨[.tmp s]⟩,⟨[ty]⟩⟩=>(match o.dst with
  | some t=>G.d s != 0&&G.D.ln ty (G.d s)&&G.d t==0
  | none=>false)
 | .call ⟨.value (.func f),xs,_⟩=>G.F2 f&&(xs.toList.zipIdx.all fun p=>Jm F G f p.2 p.1)&&MY G o
 | _=>false
def xF(P:Program)(F:Nat->Bool)(G:GD)(o:Oper):Bool:=mO P F G o.op&&MY G o||okDirt F G o
def Bj(P:Program)(F:Nat->Bool)(G:GD):Code->Bool
 | .skip|.ret|.label _|.goto _|.exit _|.refuse _=>true
 | .region _ ops _=>ops.all (xF P F G)
 | .seq a b=>Bj P F G a&&Bj P F G b
 | .cond c a b=>cR F G c&&Bj P F G a&&Bj P F G b
 | .block _ c|.loop c|.scope c=>Bj P F G c
 | .rangeFunc _ _ _ _=>false
def dy(P:Program)(F:Nat->Bool)(G:GD):Item->Bool
 | .code c|.inLoop c|.inScope c=>Bj P F G c
 | .inBlock _=>true
 | .inRegion ops _=>ops.all (xF P F G)
 | _=>false
def KR{P:Program}(E:Env P)(k:Nat)(ρ:Ren)(x y:Value):Prop:=if k=0 then VR ρ x y else y=x/\(x=undef∨E.Dv k x)
theorem KR.mono{P:Program}{E:Env P}{k:Nat}{ρ aQ:Ren}(hl:ρ.le aQ){x y:Value}(h:KR E k ρ x y):KR E k aQ x y:=by
 unfold KR at *;split
 ·rename_i e;rw [if_pos e] at h;exact h.mono hl
 ·rename_i e;rw [if_neg e] at h;exact h
theorem KR.vr{E:Env P}{k:Nat}{x y:Value}(h:VR ρ x y)(hk:k=0):KR E k ρ x y:=by unfold KR;rw [if_pos hk];exact h
theorem KR.clean{E:Env P}{k:Nat}{x y:Value}(h:KR E k ρ x y)(hk:k=0):VR ρ x y:=by unfold KR at h;rw [if_pos hk] at h;exact h
theorem KR.same{E:Env P}{k:Nat}{x y:Value}(h:KR E k ρ x y)(hk:k≠0):y=x/\(x=undef∨E.Dv k x):=by unfold KR at h;rw [if_neg hk] at h;exact h
structure Ak{P:Program}(E:Env P)(f:FuncId)(ρ:Ren)(p p':Array Value):Prop where
 size:p.size=p'.size
 get:∀ (t:Nat) x y,p[t]?=some x->p'[t]?=some y->KR E (E.D.K f t) ρ x y
theorem Ak.mono{P:Program}{E:Env P}{f:FuncId}{ρ aQ:Ren}(hl:ρ.le aQ){p p':Array Value}(h:Ak E f ρ p p'):Ak E f aQ p p':=⟨h.size,fun t x y hx hy=>(h.get t x y hx hy).mono hl⟩
theorem Ak.at {E:Env P}(h:Ak E f ρ p p')(t:Nat):(p[t]?=none/\p'[t]?=none)∨∃ x y,p[t]?=some x/\p'[t]?=some y/\KR E (E.D.K f t) ρ x y:=by
 rcases aia t p.size with hl|hg
 ·have Bo:t<p'.size:=h.size▸hl;exact .inr ⟨p[t],p'[t],by simp [hl],by simp [Bo],h.get t _ _ (by simp [hl]) (by simp [Bo])⟩
 ·exact .inl ⟨by simp [hg],by simp [h.size▸hg]⟩
def Ry{P:Program}(E:Env P)(f:FuncId)(fn:Func):Bool:=fn.results.all fun r=>match r with
 | .tmp t=>E.D.K f t==0
 | .cell a _=>E.D.K f a==0
def never{α:Type}:Sem α:=.halt (.exit 0)
abbrev FC:=Frame×List Frame
def lq(P:Program)(fr:Frame)(cs:List Frame):Next->Sem FC
 | .value v=>.pure (fr.finish v,cs)
 | .skip=>.pure (fr.finish undef,cs)
 | .enter f args=>.pure (Frame.enter P f args .normal,fr::cs)
 | _=>never
def MZ(P:Program)(fr:Frame)(cs:List Frame):Sem FC :=
 match fr.todo with
 | []|.code .ret::_=>.pure ({ fr with mode:=.returning },cs)
 | .code .skip::k|.code (.label _)::k|.inBlock _::k|.inScope _::k=>.pure ({ fr with todo:=k },cs)
 | .code (.seq a b)::k=>.pure ({ fr with todo:=.code a::.code b::k },cs)
 | .code (.cond c thn els)::k =>
  match fr.eval c with
  | .bool b=>.pure ({ fr with todo:=.code (if b then thn else els)::k },cs)
  | _=>.halt (.stuck "")
 | .code (.block id body)::k=>.pure ({ fr with todo:=.code body::.inBlock id::k },cs)
 | .code (.loop body)::k|.inLoop body::k=>.pure ({ fr with todo:=.code body::.inLoop body::k },cs)
 | .code (.scope body)::k=>.pure ({ fr with todo:=.code body::.inScope body::k },cs)
 | .code (.exit id)::k =>
  match exitTo id k with
  | some k=>.pure ({ fr with todo:=k },cs)
  | none=>.halt (.stuck "")
 | .code (.goto l)::k =>
  match gotoIn l k with
  | some k=>.pure ({ fr with todo:=k },cs)
  | none=>.halt (.stuck "")
 | .code (.refuse _)::_=>.halt (.stuck "")
 | .code (.region id ops draw)::k =>
  if draw then .choose (.order fr.fn id) fun t=>.pure ({ fr with todo:=.inRegion ops (Region.schedule (P.follows .mixedOrders) ops t)::k },cs)
  else .pure ({ fr with todo:=.inRegion ops (List.range ops.size)::k },cs)
 | .inRegion _ []::k=>.pure ({ fr with todo:=k },cs)
 | .inRegion ops (i::_)::_ =>
  if ((ops[i]?).map (Region.wanted · (yielded ops fr.tmps))).getD false then
   match ops[i]? with
   | some o=>(execOp fr.eval o).bind (lq P fr cs)
   | none=>never
  else .pure (fr.finish undef,cs)
 | _=>never
def cF(P:Program)(fr:Frame)(cs:List Frame):Sem FC :=
 match fr.mode with
 | .run=>MZ P fr cs
 | .returning =>
  match P.funcs[fr.fn]?,cs with
  | some fn,c::rest=>(results fn fr.tmps).bind fun v=>.pure (c.finish v,rest)
  | _,_=>never
 | .panicking _=>never
section
variable {P:Program}
structure fP(E:Env P)(ρ:Ren)(fr fr':Frame):Prop where
 fn:fr.fn=fr'.fn
 tmps:Ak E fr.fn ρ fr.tmps fr'.tmps
 todo:fr.todo=fr'.todo
 items:∀ i∈fr.todo,dy P E.F (E.gd fr.fn) i=true
 defers:fr.defers=[]/\fr'.defers=[]
 mode:fr.mode=fr'.mode/\(fr.mode=.run∨fr.mode=.returning)
 kind:fr.kind=.normal/\fr'.kind=.normal
 round:fr.roundOf=none/\fr'.roundOf=none
 fnOk:∃ fn,P.funcs[fr.fn]?=some fn/\Ry E fr.fn fn=true
def CJ(E:Env P)(fr:Frame):Prop:=∀ ops i rest k,fr.todo=.inRegion ops (i::rest)::k->∀ d,(ops[i]?).bind (·.dst)=some d->E.D.K fr.fn d=0
theorem fP.mono{E:Env P}{ρ aQ:Ren}{fr fr':Frame}(h:fP E ρ fr fr')(hl:ρ.le aQ):fP E aQ fr fr':=⟨h.fn,h.tmps.mono hl,h.todo,h.items,h.defers,h.mode,h.kind,h.round,h.fnOk⟩
inductive lX(E:Env P)(ρ:Ren)(base bC:List Frame):List Frame->List Frame->Prop
 | nil:lX E ρ base bC base bC
 | cons {f f':Frame} {cs cs':List Frame}:fP E ρ f f'->CJ E f->lX E ρ base bC cs cs'->lX E ρ base bC (f::cs) (f'::cs')
theorem lX.mono{E:Env P}{ρ aQ:Ren}{base bC cs cs':List Frame}(hl:ρ.le aQ)(h:lX E ρ base bC cs cs'):lX E aQ base bC cs cs':=by
 induction h with
 | nil=>exact .nil
 | cons h hd _ ih=>exact .cons (h.mono hl) hd ih
structure M0(E:Env P)(base bC:List Frame)(ρ:Ren)(x y:FC):Prop where
 fr:fP E ρ x.1 y.1
 cs:lX E ρ base bC x.2 y.2
theorem VR.undef{ρ:Ren}:VR ρ undef undef:=.tuple rfl fun i x y hx _=>by simp at hx
theorem KR.undef{E:Env P}{k:Nat}{ρ:Ren}:KR E k ρ Go.undef Go.undef:=by
 unfold KR;split
 ·exact .undef
 ·exact⟨rfl,.inl rfl⟩
theorem Ak.getD{E:Env P}{f:FuncId}{ρ:Ren}{p p':Array Value}(h:Ak E f ρ p p')(t:Nat):KR E (E.D.K f t) ρ (p.getD t Go.undef) (p'.getD t Go.undef):=by
 rcases h.at t with⟨h1,h2⟩|⟨x,y,h1,h2,hx⟩
 ·rw [ahA,ahA,h1,h2];exact .undef
 ·rw [ahA,ahA,h1,h2];exact hx
theorem Ak.set{E:Env P}(h:Ak E f ρ p p')(t:Nat){v v':Value}(hv:KR E (E.D.K f t) ρ v v'):Ak E f ρ (p.setIfInBounds t v) (p'.setIfInBounds t v'):=by
 refine⟨by simp [h.size],fun i x y hx hy=>?_⟩;rw [aif] at hx hy;rw [<- h.size] at hy;split at hx
 ·rename_i e;rw [if_pos e] at hy;split at hx
  ·rename_i e2;rw [if_pos e2] at hy;cases hx;cases hy;rw [<- e];exact hv
  ·cases hx
 ·rename_i e;rw [if_neg e] at hy;exact h.get i x y hx hy
theorem fP.ev{E:Env P}{ρ:Ren}{fr fr':Frame}(hc:Cx E ρ)(h:fP E ρ fr fr')(x:Operand)(hx:cR E.F (E.gd fr.fn) x=true):VR ρ (fr.eval x) (fr'.eval x):=by
 cases x with
 | tmp t=>exact(h.tmps.getD t).clean (by simpa [cR,GD.d,Env.gd] using hx)
 | const v=>exact Jk hc.F v hx
 | global g=>exact .ptr (.mk 0 none (hc.gl g hx))
 | func f=>exact .func f (by rw [hc.F];exact hx) rfl rfl (fun i x y hx _=>by simp at hx) (fun i x y hx _=>by simp at hx)
theorem fP.to{E:Env P}(h:fP E ρ fr fr')(k:List Item)(hk:∀ i∈k,dy P E.F (E.gd fr.fn) i=true):fP E ρ { fr with todo:=k } { fr' with todo:=k }:=⟨h.fn,h.tmps,rfl,hk,h.defers,h.mode,h.kind,h.round,h.fnOk⟩
theorem fP.finish{E:Env P}{ρ:Ren}{fr fr':Frame}(h:fP E ρ fr fr'){v v':Value}(hv:∀ ops i rest k,fr.todo=.inRegion ops (i::rest)::k->∀ d,(ops[i]?).bind (·.dst)=some d->KR E (E.D.K fr.fn d) ρ v v'):fP E ρ (fr.finish v) (fr'.finish v'):=by
 have ht:=h.todo;have hi:=h.items;unfold Frame.finish;rw [<- ht];split
 ·rename_i ops i rest k e;rw [e] at hi;have hv:=hv ops i rest k e;refine⟨h.fn,?_,rfl,fun x hx=>?_,h.defers,h.mode,h.kind,h.round,h.fnOk⟩
  ·dsimp only
   cases hd:(ops[i]?).bind (·.dst) with
   | none=>exact h.tmps
   | some d=>exact h.tmps.set d (hv d hd)
  ·cases hx with
   | head=>exact hi (.inRegion ops (i::rest)) (.head _)
   | tail _ hx=>exact hi _ (.tail _ hx)
 ·rename_i e;rw [e] at hi;have:=hi _ (.head _);cases this
 ·rename_i e;rw [e] at hi;have:=hi _ (.head _);cases this
 ·rename_i e;rw [e] at hi;have:=hi _ (.head _);cases this
 ·rename_i e;rw [e] at hi;have:=hi _ (.head _);cases this
 ·exact h
theorem xG{F:Nat->Bool}{G:GD}{id:Nat}:∀ {k k':List Item},(∀ i∈k,dy P F G i=true)->exitTo id k=some k'->∀ i∈k',dy P F G i=true
 | [],k',_,h=>by cases h
 | x::k,k',hk,h=>by
  have vY:∀ i∈k,dy P F G i=true:=fun i hi=>hk i (.tail _ hi)
  cases x with
  | inBlock id' =>
   simp only [exitTo] at h;split at h
   ·cases h;exact vY
   ·exact xG vY h
  | _=>exact xG vY h
theorem sN{F:Nat->Bool}{G:GD}:∀ {c:Code} {l:Nat} {r:Code},Bj P F G c=true->findLabel c l=some r->Bj P F G r=true
 | .seq a b,l,r,hc,h=>by
  simp only [Bj,aht] at hc;unfold findLabel at h;split at h
  ·cases h;rename_i e;simp only [Bj,aht];exact⟨sN hc.1 e,hc.2⟩
  ·exact sN hc.2 h
 | .label l',l,r,hc,h=>by
  unfold findLabel at h;split at h
  ·cases h;rfl
  ·cases h
 | .skip,_,_,_,h|.region ..,_,_,_,h|.cond ..,_,_,_,h|.block ..,_,_,_,h|.loop ..,_,_,_,h|.rangeFunc ..,_,_,_,h|.exit ..,_,_,_,h|.scope ..,_,_,_,h|.goto ..,_,_,_,h|.ret,_,_,_,h|.refuse ..,_,_,_,h=>by cases h
theorem xH{F:Nat->Bool}{G:GD}{l:Nat}:∀ {k k':List Item},(∀ i∈k,dy P F G i=true)->gotoIn l k=some k'->∀ i∈k',dy P F G i=true
 | [],k',_,h=>by cases h
 | x::k,k',hk,h=>by
  unfold gotoIn at h;split at h
  ·rename_i body k0 e;cases e;have hb:=hk _ (.head _);split at h
   ·rename_i rest e;cases h;intro i hi
    cases hi with
    | head=>exact sN (c:=body) hb e
    | tail _ hi =>
     cases hi with
     | head=>exact hb
     | tail _ hi=>exact hk _ (.tail _ hi)
   ·exact xH (fun i hi=>hk i (.tail _ hi)) h
  ·rename_i e;cases e;exact xH (fun i hi=>hk i (.tail _ hi)) h
  ·cases h
theorem uB{E:Env P}{f:FuncId}{ρ:Ren}(ops:Array Oper){p p':Array Value}(h:Ak E f ρ p p'):yielded ops p=yielded ops p':=by
 funext j;unfold yielded
 cases (ops[j]?).bind (·.dst) with
 | none=>rfl
 | some d =>
  show(match p[d]? with|some (.bool b)=>some b|_=>none)=(match p'[d]? with|some (.bool b)=>some b|_=>none);rcases h.at d with⟨h1,h2⟩|⟨x,y,h1,h2,hx⟩
  ·rw [h1,h2]
  ·rw [h1,h2];by_cases hk:E.D.K f d=0
   ·cases hx.clean hk<;>rfl
   ·obtain⟨rfl,_⟩:=hx.same hk;rfl
theorem Gr{ρ:Ren}{x x':Value}(h:VR ρ x x'):SR P cu ρ (asAddr x) (asAddr x'):=by
 cases h with
 | ptr h=>exact .pure h
 | ptrN=>exact .dead (show Dd P (runtimePanic .nilDeref:Sem Addr) from aq _)
 | _=>exact .halt
def mP(p:Array Value):ResultVar->Sem Value
 | .tmp t=>.pure (p.getD t undef)
 | .cell a t=>do loadVar t (<- asAddr (p.getD a undef))
def sP:ResultVar->Nat
 | .tmp t=>t
 | .cell a _=>a
theorem Gs{ρ:Ren}{p p':Array Value}(r:ResultVar)(h:VR ρ (p.getD (sP r) undef) (p'.getD (sP r) undef)):SR P VV ρ (mP p r) (mP p' r):=by
 cases r with
 | tmp t=>exact .pure h
 | cell a t=>exact(Gr h).seq fun _ _ _ _ ha=>sG t ha
theorem EA{Cn:Ren}{p p':Array Value}:∀ (l:List ResultVar) {ρ:Ren} {z z':Array Value},(∀ r∈l,VR Cn (p.getD (sP r) undef) (p'.getD (sP r) undef))->Cn.le ρ->AR ρ z z'->SR P AR ρ (l.foldlM (fun bs a=>do let b<-mP p a;pure (bs.push b)) z) (l.foldlM (fun bs a=>do let b<-mP p' a;pure (bs.push b)) z')
 | [],ρ,z,z',_,_,hz=>.pure hz
 | r::l,ρ,z,z',h,hl,hz=>by
  rw [List.foldlM_cons,List.foldlM_cons];exact((Gs r ((h r (.head _)).mono hl)).seq fun db dj b b' hb=>SR.ret (R:=AR) ((hz.mono dj).push hb)).seq fun dX bZ w w' hw=>EA l (fun r hr=>h r (.tail _ hr)) (hl.trans bZ) hw
theorem mQ(fn:Func)(p:Array Value):results fn p=(fn.results.mapM (mP p)).bind fun vs=>.pure (if h:vs.size=1 then vs[0] else .tuple vs):=rfl
theorem mR{E:Env P}(fn:Func)(h:Ak E f ρ p p')(hr:Ry E f fn=true):SR P VV ρ (results fn p) (results fn p'):=by
 rw [mQ,mQ];refine SR.bind (R:=AR) ?_ fun db hl vs M1 hv=>.pure ?_
 ·rw [Array.mapM_eq_foldlM,Array.mapM_eq_foldlM,<-Array.foldlM_toList,<-Array.foldlM_toList];refine EA _ (fun r hm=>(h.getD _).clean ?_) (.refl _) .nil;have tY:r∈fn.results:=by simpa using hm
  obtain⟨i,hi,rfl⟩:=Array.mem_iff_getElem.1 tY;have:=aiN.1 hr i hi;generalize fn.results[i]=r at this;cases r<;>simpa [sP] using this
 ·have e:=hv.size;by_cases c:vs.size=1
  ·have c':M1.size=1:=e▸c;rw [dif_pos c,dif_pos c'];exact hv.get 0 _ _ (by simp [c]) (by simp [c'])
  ·have c':¬ M1.size=1:=e▸c;rw [dif_neg c,dif_neg c'];exact .tuple hv.size hv.get
structure Jn(E:Env P):Prop where
 idx:∀ {ty k k':Nat},k≠0->E.D.idx ty k=some k'->∀ {x:Value},x=undef∨E.Dv k x->∀ (ρ:Ren),ρ.m=E.m->∀ {y y':Value},VR ρ y y'->SR P (KR E k') ρ (Instr.indexAt ty x y) (Instr.indexAt ty x y')
 fld:∀ {ty i k k':Nat},k≠0->E.D.fld ty i k=some k'->∀ {x:Value},x=undef∨E.Dv k x->∀ (ρ:Ren),ρ.m=E.m->SR P (KR E k') ρ (Instr.fieldAt ty x i) (Instr.fieldAt ty x i)
 ld:∀ {ty k k':Nat},k≠0->E.D.ld ty k=some k'->∀ {x:Value},x=undef∨E.Dv k x->∀ (ρ:Ren),ρ.m=E.m->SR P (KR E k') ρ (Instr.loadAt ty x) (Instr.loadAt ty x)
 ln:∀ {ty k:Nat},k≠0->E.D.ln ty k=true->∀ {x:Value},x=undef∨E.Dv k x->∀ (ρ:Ren) (t:TypeId) (cs:Array Bool),ρ.m=E.m->SR P (CE P E.F) ρ (builtin .len #[ty] t cs #[x]) (builtin .len #[ty] t cs #[x])
structure cf(E:Env P):Prop where
 ok:∀ f fn c,E.F f=true∨E.F2 f=true->P.funcs[f]?=some fn->fn.body=some c->Bj P E.F (E.gd f) c=true
 res:∀ f fn,E.F f=true∨E.F2 f=true->P.funcs[f]?=some fn->Ry E f fn=true
 cl:∀ f t,E.F f=true->E.D.K f t=0
 code2:∀ f,E.F2 f=true->Ji E f
 dirt:Jn E
theorem fP.enter{E:Env P}(hB:cf E){ρ:Ren}{f:Nat}{fn:Func}{c:Code}(hF:E.F f=true∨E.F2 f=true)(hf:P.funcs[f]?=some fn)(hb:fn.body=some c){p p':Array Value}(h:Ak E f ρ p p'):fP E ρ (Frame.enter P f p .normal) (Frame.enter P f p' .normal):=by
 have e:=h.size;refine⟨rfl,?_,rfl,fun i hi=>?_,⟨rfl,rfl⟩,⟨rfl,.inl rfl⟩,⟨rfl,rfl⟩,⟨rfl,rfl⟩,fn,hf,hB.res f fn hF hf⟩
 ·show Ak E f ρ (p++Array.replicate (((P.funcs[f]?).map (·.ntmps)).getD 0-p.size) undef) (p'++Array.replicate (((P.funcs[f]?).map (·.ntmps)).getD 0-p'.size) undef);rw [<- e];refine⟨by simp [e],fun t x y hx hy=>?_⟩;rw [Array.getElem?_append] at hx hy;rw [<- e] at hy;split at hx
  ·rename_i hl;rw [if_pos hl] at hy;exact h.get t x y hx hy
  ·rename_i hl;rw [if_neg hl] at hy;rw [hx] at hy;cases hy;rw [Array.getElem?_replicate] at hx;split at hx
   ·cases hx;exact .undef
   ·cases hx
 ·have:i=.code c:=by
   simp only [Frame.enter,hf,hb,aiJ,ah8,ahL] at hi;exact hi
  rw [this];exact hB.ok f fn c hF hf hb
theorem Ak.ZK{E:Env P}(hB:cf E){f:Nat}(hF:E.F f=true)(h:AR ρ p p'):Ak E f ρ p p':=⟨h.size,fun t x y hx hy=>.vr (h.get t x y hx hy) (hB.cl f t hF)⟩
theorem Jo{E:Env P}(hB:cf E){ρ:Ren}{base bC:List Frame}{fr fr':Frame}{cs cs':List Frame}(h:fP E ρ fr fr')(hd:CJ E fr)(bt:lX E ρ base bC cs cs'){x y:Next}(hx:CE P E.F ρ x y):SR P (M0 E base bC) ρ (lq P fr cs x) (lq P fr' cs' y):=by
 cases hx with
 | value hv=>exact .pure ⟨h.finish fun ops i rest k e d gT=>.vr hv (hd ops i rest k e d gT),bt⟩
 | skip=>exact .pure ⟨h.finish fun _ _ _ _ _ _ _=>.undef,bt⟩
 | enter f hF hf hb ha=>exact .pure ⟨.enter hB (.inl hF) hf hb (.ZK hB hF ha),.cons h hd bt⟩
theorem M3{E:Env P}(hB:cf E)(hc:Cx E ρ){base bC:List Frame}{cs cs':List Frame}(h:fP E ρ fr fr')(bt:lX E ρ base bC cs cs'){ops:Array Oper}{i:Nat}{rest:List Nat}{k:List Item}(ht:fr.todo=.inRegion ops (i::rest)::k){o:Oper}(ho:ops[i]?=some o)(ok:okDirt E.F (E.gd fr.fn) o=true):
  SR P (M0 E base bC) ρ ((execOp fr.eval o).bind (lq P fr cs)) ((execOp fr'.eval o).bind (lq P fr' cs')):=by
 obtain⟨dst,op,ty,pos,aft,gd⟩:=o;have fin:∀ {aQ:Ren},ρ.le aQ->∀ {t:Nat} {v v':Value},dst=some t->KR E (E.D.K fr.fn t) aQ v v'->SR P (M0 E base bC) aQ (lq P fr cs (.value v)) (lq P fr' cs' (.value v')):=fun hl t v v' hd hv=>by
  refine .pure ⟨(h.mono hl).finish fun Rz i' Jp k' e d gT=>?_,bt.mono hl⟩;rw [ht] at e;simp only [List.cons.injEq,Item.inRegion.injEq] at e;obtain⟨⟨rfl,rfl,_⟩,_⟩:=e;rw [ho] at gT;simp only [aiJ] at gT;rw [hd] at gT;cases gT;exact hv
 have RA:∀ {s s':Sem Value} {t:Nat},dst=some t->SR P (KR E (E.D.K fr.fn t)) ρ s s'->SR P (M0 E base bC) ρ ((do pure (.value (<- s)):Sem Next).bind (lq P fr cs)) ((do pure (.value (<- s')):Sem Next).bind (lq P fr' cs')):=fun{s s' t} hd hs =>
  SR.bind (R:=fun ρ x y=>∃ v v',x=.value v/\y=.value v'/\KR E (E.D.K fr.fn t) ρ v v') (hs.seq fun _ _ a b hv=>.pure ⟨a,b,rfl,rfl,hv⟩) fun aQ hl x y hx=>by
   obtain⟨v,v',rfl,rfl,hv⟩:=hx;exact fin hl hd hv
 unfold okDirt at ok;dsimp only at ok;split at ok
 ·
  rename_i s
  cases dst with
  | none=>cases ok
  | some t=>exact fin (.refl _) rfl (by have:=h.tmps.getD s;simp only [beq_iff_eq] at ok;unfold GD.d Env.gd at ok;rw [ok];exact this)
 ·rename_i s
  cases dst with
  | none=>cases ok
  | some t=>exact fin (.refl _) rfl (by have:=h.tmps.getD s;simp only [beq_iff_eq] at ok;unfold GD.d Env.gd at ok;rw [ok];exact this)
 ·rename_i u s y
  cases dst with
  | none=>cases ok
  | some t =>
   simp only [aht,bne_iff_ne,ne_eq,beq_iff_eq] at ok;obtain⟨⟨o1,o2⟩,o3⟩:=ok;obtain⟨e1,e2⟩:=(h.tmps.getD s).same o1;refine RA rfl ?_;have ey:=h.ev hc y o2;show SR P _ ρ (Instr.indexAt u (fr.tmps.getD s undef) (fr.eval y)) (Instr.indexAt u (fr'.tmps.getD s undef) (fr'.eval y));rw [e1];exact hB.dirt.idx o1 o3 e2 ρ hc.m ey
 ·rename_i u s j
  cases dst with
  | none=>cases ok
  | some t =>
   simp only [aht,bne_iff_ne,ne_eq,beq_iff_eq] at ok;obtain⟨o1,o3⟩:=ok;obtain⟨e1,e2⟩:=(h.tmps.getD s).same o1;refine RA rfl ?_;show SR P _ ρ (Instr.fieldAt u (fr.tmps.getD s undef) j) (Instr.fieldAt u (fr'.tmps.getD s undef) j);rw [e1];exact hB.dirt.fld o1 o3 e2 ρ hc.m
 ·rename_i u s
  cases dst with
  | none=>cases ok
  | some t =>
   simp only [aht,bne_iff_ne,ne_eq,beq_iff_eq] at ok;obtain⟨o1,o3⟩:=ok;obtain⟨e1,e2⟩:=(h.tmps.getD s).same o1;refine RA rfl ?_;show SR P _ ρ (Instr.loadAt u (fr.tmps.getD s undef)) (Instr.loadAt u (fr'.tmps.getD s undef));rw [e1];exact hB.dirt.ld o1 o3 e2 ρ hc.m
 ·rename_i s u
  cases dst with
  | none=>cases ok
  | some t =>
   simp only [aht,bne_iff_ne,ne_eq,beq_iff_eq] at ok;obtain⟨⟨o1,o2⟩,o3⟩:=ok;obtain⟨e1,e2⟩:=(h.tmps.getD s).same o1;have hd:CJ E fr:=fun Rz i' Jp k' e d gT=>by
    rw [ht] at e;simp only [List.cons.injEq,Item.inRegion.injEq] at e;obtain⟨⟨rfl,rfl,_⟩,_⟩:=e;rw [ho] at gT;cases gT;exact o3
   have key:=hB.dirt.ln o1 o2 e2 ρ ty #[false] hc.m;refine SR.bind (R:=CE P E.F) ?_ fun db hl x y Hu=>Jo hB (h.mono hl) hd (bt.mono hl) Hu;have ex:∀ ev:Operand->Value,execOp ev ⟨some t,.call ⟨.builtin .len,⟨[.tmp s]⟩,⟨[u]⟩⟩,ty,pos,aft,gd⟩=builtin .len #[u] ty #[false] #[ev (.tmp s)]:=fun ev=>by
    simp [execOp,resolve,invoke]
   rw [ex,ex];show SR P (CE P E.F) ρ (builtin .len #[u] ty #[false] #[fr.tmps.getD s undef]) (builtin .len #[u] ty #[false] #[fr'.tmps.getD s undef]);rw [e1];exact key
 ·rename_i f xs ts;simp only [aht] at ok;obtain⟨⟨o1,o2⟩,o3⟩:=ok;have hd:CJ E fr:=fun Rz i' Jp k' e d gT=>by
   rw [ht] at e;simp only [List.cons.injEq,Item.inRegion.injEq] at e;obtain⟨⟨rfl,rfl,_⟩,_⟩:=e;rw [ho] at gT;simp only [aiJ] at gT;subst gT;simpa [MY,GD.d,Env.gd] using o3
  obtain⟨fn,c,g1,g2,g3⟩:=(hB.code2 f o1).ok;have ex:∀ ev:Operand->Value,ev (.func f)=.func (.func f) #[] #[]->execOp ev ⟨dst,.call ⟨.value (.func f),xs,ts⟩,ty,pos,aft,gd⟩=callFunc f (xs.map ev):=fun ev he=>by
   have:(#[]:Array Value)++xs.map ev=xs.map ev:=aiH ..;have h2:xs.map ev++(#[]:Array Value)=xs.map ev:=aij ..;show(do let d<-Deferred.ofValue (ev (.func f)) (xs.map ev);invoke d.target d.args:Sem Next)=_;rw [he];show callFunc f ((#[]++xs.map ev)++#[])=_;rw [this,h2]
  rw [ex _ rfl,ex _ rfl];refine SR.bind (R:=fun aQ x y=>aQ=ρ/\x=.enter f (xs.map fr.eval)/\y=.enter f (xs.map fr'.eval)) ?_ fun db hl x y Hu=>?_
  ·refine cP ?_;simp only [g1,g2,g3,Option.isNone_some,ahD,if_false];exact .pure ⟨rfl,rfl,rfl⟩
  ·obtain⟨rfl,rfl,rfl⟩:=Hu;refine .pure ⟨.enter hB (.inr o1) g1 g3 ⟨ag,fun t x y hx hy=>?_⟩,.cons h hd bt⟩;simp only [aik,ahs] at hx hy;obtain⟨a,ha,rfl⟩:=hx;obtain⟨b,hb,rfl⟩:=hy;rw [ha] at hb;cases hb;have hm:(a,t)∈xs.toList.zipIdx:=by
    rw [List.mem_zipIdx_iff_getElem?];simpa using ha
   have hk:=ahM.1 o2 _ hm
   cases a with
   | tmp s =>
    simp only [Jm,beq_iff_eq] at hk;have:=h.tmps.getD s;have vY:E.D.K fr.fn s=E.D.K f t:=hk;rw [vY] at this;exact this
   | _ =>
    simp only [Jm,aht,beq_iff_eq] at hk;exact .vr (h.ev hc _ hk.1) hk.2
 ·cases ok
theorem Al{E:Env P}(hK:cQ E)(hB:cf E)(hc:Cx E ρ){base bC:List Frame}{cs cs':List Frame}(h:fP E ρ fr fr')(bt:lX E ρ base bC cs cs')(hn:fr.mode=.returning->∃ f f' l l',cs=f::l/\cs'=f'::l'/\fP E ρ f f'/\CJ E f/\lX E ρ base bC l l'):
  SR P (M0 E base bC) ρ (cF P fr cs) (cF P fr' cs'):=by
 unfold cF;rcases h.mode with⟨em,hm|hm⟩
 ·rw [<- em,hm];dsimp only;have ht:=h.todo;have hi:=h.items;unfold MZ;rw [<- ht]
  cases hk:fr.todo with
  | nil=>exact .pure ⟨⟨h.fn,h.tmps,rfl,fun i hi=>(by cases hi),h.defers,⟨rfl,.inr rfl⟩,h.kind,h.round,h.fnOk⟩,bt⟩
  | cons x k =>
   rw [hk] at hi;have vY:∀ i∈k,dy P E.F (E.gd fr.fn) i=true:=fun i ez=>hi i (.tail _ ez);have hx:=hi x (.head _);have two:∀ {a b:Item},dy P E.F (E.gd fr.fn) a=true->dy P E.F (E.gd fr.fn) b=true->∀ i∈a::b::k,dy P E.F (E.gd fr.fn) i=true:=fun ha hb i ez=>by
    cases ez with
    | head=>exact ha
    | tail _ ez=>cases ez with
     | head=>exact hb
     | tail _ ez=>exact vY i ez
   have one:∀ {a:Item},dy P E.F (E.gd fr.fn) a=true->∀ i∈a::k,dy P E.F (E.gd fr.fn) i=true:=fun ha i ez=>by
    cases ez with
    | head=>exact ha
    | tail _ ez=>exact vY i ez
   have go:∀ k,(∀ i∈k,dy P E.F (E.gd fr.fn) i=true)->SR P (M0 E base bC) ρ (.pure ({ fr with todo:=k },cs)) (.pure ({ fr' with todo:=k },cs')):=fun k hk=>.pure ⟨h.to k hk,bt⟩;have go':∀ k,(∀ i∈k,dy P E.F (E.gd fr.fn) i=true)->SR P (M0 E base bC) ρ (.pure ({ fr with mode:=.run,todo:=k },cs)) (.pure ({ fr' with mode:=.run,todo:=k },cs')):=fun k hk=>.pure ⟨⟨h.fn,h.tmps,rfl,hk,h.defers,⟨rfl,.inl rfl⟩,h.kind,h.round,h.fnOk⟩,bt⟩
   cases x with
   | code c =>
    cases c with
    | skip=>exact go k vY
    | ret=>exact .pure ⟨⟨h.fn,h.tmps,rfl,hi,h.defers,⟨rfl,.inr rfl⟩,h.kind,h.round,h.fnOk⟩,bt⟩
    | label l=>exact go k vY
    | refuse w=>exact .halt
    | rangeFunc f a b c=>cases hx
    | seq a b =>
     simp only [dy,Bj,aht] at hx;exact go _ (two hx.1 hx.2)
    | cond c a b =>
     simp only [dy,Bj,aht] at hx;have hv:=h.ev hc c hx.1.1;dsimp only;generalize fr.eval c=v at hv;generalize fr'.eval c=v' at hv
     cases hv with
     | bool z=>cases z with
      | true=>exact go _ (one hx.1.2)
      | false=>exact go _ (one hx.2)
     | _=>exact .halt
    | block id c=>exact go _ (two hx rfl)
    | loop c=>exact go _ (two hx hx)
    | scope c=>exact go _ (two hx hx)
    | exit id =>
     dsimp only
     cases e:exitTo id k with
     | none=>exact .halt
     | some k2=>exact go k2 (xG vY e)
    | goto l =>
     dsimp only
     cases e:gotoIn l k with
     | none=>exact .halt
     | some k2=>exact go k2 (xH vY e)
    | region id ops draw =>
     cases draw with
     | true =>
      have e:Question.order fr'.fn id=.order fr.fn id:=by rw [h.fn]
      show SR P (M0 E base bC) ρ (.choose (.order fr.fn id) fun t=>.pure ({ fr with todo:=.inRegion ops (Region.schedule (P.follows .mixedOrders) ops t)::k },cs)) (.choose (.order fr'.fn id) fun t=>.pure ({ fr' with todo:=.inRegion ops (Region.schedule (P.follows .mixedOrders) ops t)::k },cs'));rw [e];exact .choose fun t=>go (.inRegion ops (Region.schedule (P.follows .mixedOrders) ops t)::k) (one (a:=.inRegion ops _) hx)
     | false=>exact go _ (one (a:=.inRegion ops _) hx)
   | inBlock id=>exact go k vY
   | inLoop c=>exact go _ (two hx hx)
   | inScope c=>exact go k vY
   | inRegion ops l =>
    cases l with
    | nil=>exact go k vY
    | cons i rest =>
     dsimp only;rw [<- uB ops h.tmps];refine ar_ite (fun _=>?_) fun _=>.pure ⟨h.finish fun _ _ _ _ _ _ _=>.undef,bt⟩
     cases ho:ops[i]? with
     | none=>rename_i hw;rw [ho] at hw;simp at hw
     | some o =>
      have hok:xF P E.F (E.gd fr.fn) o=true:=by
       obtain⟨KZ,rfl⟩:=ahx.1 ho;exact aiN.1 hx i KZ
      simp only [xF,aiR,aht] at hok;rcases hok with⟨hok,Vw⟩|hok
      ·have hd:CJ E fr:=fun Rz i' Jp k' e d gT=>by
        rw [hk] at e;simp only [List.cons.injEq,Item.inRegion.injEq] at e;obtain⟨⟨rfl,rfl,_⟩,_⟩:=e;rw [ho] at gT;simp only [aiJ] at gT;rw [MY,gT] at Vw;simpa [GD.d,Env.gd] using Vw
       exact(Gp hc hK (fun x hx=>h.ev hc x hx) o hok).bind fun db hl x y Hu=>Jo hB (h.mono hl) hd (bt.mono hl) Hu
      ·exact M3 hB hc h bt hk ho hok
   | inRangeFunc l=>cases hx
   | endRangeFunc l=>cases hx
   | beginRound=>cases hx
   | call d a b c=>cases hx
   | extern a b=>cases hx
 ·obtain⟨f,f',l,l',rfl,rfl,h1,hd,h2⟩:=hn hm;obtain⟨fn,h3,h4⟩:=h.fnOk;rw [<- em,hm,<-h.fn,h3];dsimp only;exact(mR fn h.tmps h4).bind fun db hl v v' hv=>.pure ⟨(h1.mono hl).finish fun ops i rest k e d gT=>.vr hv (hd ops i rest k e d gT),h2.mono hl⟩
end
end CO
namespace CO
open Go
variable {es:Array Event}{ai:World}
def Gm(fr:Frame)(cs:List Frame):Goroutine:={ frame:=fr,callers:=cs,status:=.running,dying:=none }
structure CK(fr:Frame):Prop where
 defers:fr.defers=[]
 kind:fr.kind=.normal
 round:fr.roundOf=none
theorem fP.ZL{P:Program}{E:Env P}{ρ:Ren}{fr fr':Frame}(h:fP E ρ fr fr'):CK fr:=⟨h.defers.1,h.kind.1,h.round.1⟩
theorem fP.ZM{P:Program}{E:Env P}{ρ:Ren}{fr fr':Frame}(h:fP E ρ fr fr'):CK fr':=⟨h.defers.2,h.kind.2,h.round.2⟩
theorem Am(P:Program)(f:FuncId):seen P f #[]=#[]:=by simp [seen]
def Lost(fr:Frame)(cs:List Frame)(s:GStep):Prop :=
 (∃ o w,s.bare=.ended o w)∨∃ chain w,s.bare=.go (Gm { fr with mode:=.panicking chain } cs) w
theorem pb{α:Type}{a b:α}{w v:World}{fs:Array Event}(h:((Result.ok a w:Result α),es)=(.ok b v,fs)):a=b/\w=v/\es=fs:=by
 injection h with h1 h2
 injection h1 with h3 h4
 exact⟨h3,h4,h2⟩
section
variable {P:Program} {fr:Frame} {cs:List Frame} {w:World}
theorem M4(main:Bool)(hF:CK fr)(hm:fr.mode=.run){ops:Array Oper}{i:Nat}{rest:List Nat}{k:List Item}(hk:fr.todo=.inRegion ops (i::rest)::k){o:Oper}(ho:ops[i]?=some o)(hw:Region.wanted o (yielded ops fr.tmps)=true){r:FC}(h:((execOp fr.eval o).bind (lq P fr cs)).runT P w #[]=(.ok r ai,es)):
  stepG P main (Gm fr cs) w=.go (Gm r.1 r.2) ai (seen P fr.fn es):=by
 have e:stepG P main (Gm fr cs) w=stepG.apply P true fr cs none (execOp fr.eval o) w:=by
  simp [stepG,stepG.exec,stepG.oper,Frame.oper?,Gm,hm,hk,ho,hw,hF.round]
 rw [e];rw [Sem.runT_bind'] at h;unfold stepG.apply;simp only [if_true]
 cases hx:(execOp fr.eval o).runT P w #[] with
 | mk res ZN =>
  rw [hx] at h;have MD:(fr.kind==CallKind.early)=false:=by rw [hF.kind];rfl
  cases res with
  | halt hh w'=>cases h
  | ok nx w' =>
   cases nx with
   | value v =>
    obtain⟨rfl,rfl,rfl⟩:=pb h;simp [MD,GStep.after,Gm]
   | skip =>
    obtain⟨rfl,rfl,rfl⟩:=pb h;simp [MD,GStep.after,Gm]
   | enter f args =>
    obtain⟨rfl,rfl,rfl⟩:=pb h;simp [MD,GStep.after,Gm,hk]
   | _=>cases h
theorem Gt(main:Bool)(hF:CK fr)(hm:fr.mode=.run){ops:Array Oper}{i:Nat}{rest:List Nat}{k:List Item}(hk:fr.todo=.inRegion ops (i::rest)::k){o:Oper}(ho:ops[i]?=some o)(hw:Region.wanted o (yielded ops fr.tmps)=true){hh:Halt}(h:((execOp fr.eval o).bind (lq P fr cs)).runT P w #[]=(.halt hh ai,es))(hs:sx hh):
  Lost fr cs (stepG P main (Gm fr cs) w):=by
 have e:stepG P main (Gm fr cs) w=stepG.apply P true fr cs none (execOp fr.eval o) w:=by
  simp [stepG,stepG.exec,stepG.oper,Frame.oper?,Gm,hm,hk,ho,hw,hF.round]
 rw [e];rw [Sem.runT_bind'] at h;unfold stepG.apply;simp only [if_true];have hr:∀ vs,fr.raise vs={ fr with mode:=.panicking vs }:=fun vs=>by simp [Frame.raise,hm]
 cases hx:(execOp fr.eval o).runT P w #[] with
 | mk res ZN =>
  rw [hx] at h;have MD:(fr.kind==CallKind.early)=false:=by rw [hF.kind];rfl
  cases res with
  | halt h' w' =>
   injection h with h1 h2
   injection h1 with h1 h3
   subst h1
   cases h' with
   | panic v=>exact .inr ⟨[{ v:=v,recovered:=false }],w',by simp [MD,GStep.after,Gm,hr]⟩
   | stuck s=>exact .inl ⟨_,w',by simp [MD,GStep.after];rfl⟩
   | unsupported u =>
    cases u with
    | initOrder g=>exact hs.elim
    | _=>exact .inl ⟨_,w',by simp [MD,GStep.after];rfl⟩
   | _=>exact hs.elim
  | ok nx w' =>
   cases nx with
   | value v=>cases h
   | skip=>cases h
   | enter f args=>cases h
   | _ =>
    injection h with h1 h2
    injection h1 with h1 h3
    subst h1;exact hs.elim
theorem xI(main:Bool)(hF:CK fr){r:FC}{ai:World}{es:Array Event}(h:(cF P fr cs).runT P w #[]=(.ok r ai,es)):stepG P main (Gm fr cs) w=.go (Gm r.1 r.2) ai (seen P fr.fn es):=by
 unfold cF at h
 cases hm:fr.mode with
 | panicking c=>rw [hm] at h;cases h
 | returning =>
  rw [hm] at h;dsimp only at h
  cases hf:P.funcs[fr.fn]? with
  | none=>rw [hf] at h;cases h
  | some fn =>
   rw [hf] at h
   cases cs with
   | nil=>cases h
   | cons c rest =>
    dsimp only at h;rw [Sem.runT_bind'] at h
    cases hx:(results fn fr.tmps).runT P w #[] with
    | mk res ZN =>
     rw [hx] at h
     cases res with
     | halt _ _=>cases h
     | ok v w' =>
      obtain⟨rfl,rfl,rfl⟩:=pb h;simp only [stepG,Gm,hm,unwind,hF.defers,hf,hx,doReturn,hF.kind,GStep.after,aij]
 | run =>
  rw [hm] at h;dsimp only at h;unfold MZ at h;have pure:∀ {K5:Frame},((Result.ok ((K5,cs):FC) w),(#[]:Array Event))=(.ok r ai,es)->stepG P main (Gm fr cs) w=.go (Gm K5 cs) w->stepG P main (Gm fr cs) w=.go (Gm r.1 r.2) ai (seen P fr.fn es):=fun h1 h2=>by
   obtain⟨rfl,rfl,rfl⟩:=pb h1;rw [h2,Am]
  cases hk:fr.todo with
  | nil=>rw [hk] at h;exact pure h (by simp [stepG,stepG.exec,Gm,hm,hk,hF.round])
  | cons x k =>
   rw [hk] at h
   cases x with
   | code c =>
    cases c with
    | skip=>exact pure h (by simp [stepG,stepG.exec,Gm,hm,hk])
    | ret=>exact pure h (by simp [stepG,stepG.exec,Gm,hm,hk,hF.round])
    | label l=>exact pure h (by simp [stepG,stepG.exec,Gm,hm,hk])
    | refuse s=>cases h
    | rangeFunc _ _ _ _=>cases h
    | seq a b=>exact pure h (by simp [stepG,stepG.exec,Gm,hm,hk])
    | cond c a b =>
     dsimp only at h
     cases hv:fr.eval c with
     | bool z=>rw [hv] at h;exact pure h (by simp [stepG,stepG.exec,Gm,hm,hk,hv])
     | _=>rw [hv] at h;cases h
    | block id b=>exact pure h (by simp [stepG,stepG.exec,Gm,hm,hk])
    | loop b=>exact pure h (by simp [stepG,stepG.exec,Gm,hm,hk])
    | scope b=>exact pure h (by simp [stepG,stepG.exec,Gm,hm,hk])
    | exit id =>
     dsimp only at h
     cases he:exitTo id k with
     | none=>rw [he] at h;cases h
     | some k2=>rw [he] at h;exact pure h (by simp [stepG,stepG.exec,Gm,hm,hk,he])
    | goto l =>
     dsimp only at h
     cases he:gotoIn l k with
     | none=>rw [he] at h;cases h
     | some k2=>rw [he] at h;exact pure h (by simp [stepG,stepG.exec,Gm,hm,hk,he])
    | region id ops draw =>
     cases draw with
     | false=>exact pure h (by simp [stepG,stepG.exec,Gm,hm,hk])
     | true =>
      have h':((Sem.choose (.order fr.fn id) fun t=>.pure ({ fr with todo:=.inRegion ops (Region.schedule (P.follows .mixedOrders) ops t)::k },cs):Sem FC)).runT P w #[]=(.ok r ai,es):=h;simp only [Sem.runT,Question.forced,ahD,if_false] at h';obtain⟨rfl,rfl,rfl⟩:=pb h';rw [Am];simp [stepG,stepG.exec,Gm,hm,hk,choose,Sem.run,Question.forced]
   | inBlock id=>exact pure h (by simp [stepG,stepG.exec,Gm,hm,hk])
   | inLoop b=>exact pure h (by simp [stepG,stepG.exec,Gm,hm,hk])
   | inScope b=>exact pure h (by simp [stepG,stepG.exec,Gm,hm,hk])
   | inRegion ops l =>
    cases l with
    | nil=>exact pure h (by simp [stepG,stepG.exec,Gm,hm,hk])
    | cons i rest =>
     dsimp only at h;by_cases hw:((ops[i]?).map (Region.wanted · (yielded ops fr.tmps))).getD false=true
     ·rw [if_pos hw] at h
      cases ho:ops[i]? with
      | none=>rw [ho] at h;cases h
      | some o =>
       rw [ho] at h hw;exact M4 main hF hm hk ho (by simpa using hw) h
     ·rw [if_neg hw] at h;exact pure h (by simp only [Bool.not_eq_true] at hw;simp [stepG,stepG.exec,Gm,hm,hk,hw])
   | _=>cases h
theorem Gu(main:Bool)(hF:CK fr){hh:Halt}(h:(cF P fr cs).runT P w #[]=(.halt hh ai,es))(hs:sx hh):Lost fr cs (stepG P main (Gm fr cs) w):=by
 unfold cF at h;have Gv:∀ {q:Sem FC},q=never->q.runT P w #[]=(.halt hh ai,es)->False:=fun hq h=>by
  subst hq;injection h with h1 h2
  injection h1 with h1 h3
  subst h1;exact hs.elim
 cases hm:fr.mode with
 | panicking c=>rw [hm] at h;exact(Gv rfl h).elim
 | returning =>
  rw [hm] at h;dsimp only at h
  cases hf:P.funcs[fr.fn]? with
  | none=>rw [hf] at h;exact(Gv rfl h).elim
  | some fn =>
   rw [hf] at h
   cases cs with
   | nil=>exact(Gv rfl h).elim
   | cons c rest =>
    dsimp only at h;rw [Sem.runT_bind'] at h
    cases hx:(results fn fr.tmps).runT P w #[] with
    | mk res ZN =>
     rw [hx] at h
     cases res with
     | halt h' w' =>
      refine .inl ?_;cases h'<;>exact⟨_,w',by simp only [stepG,Gm,hm,unwind,hF.defers,hf,hx,GStep.after];rfl⟩
     | ok v w'=>cases h
 | run =>
  rw [hm] at h;dsimp only at h;unfold MZ at h
  cases hk:fr.todo with
  | nil=>rw [hk] at h;cases h
  | cons x k =>
   rw [hk] at h
   cases x with
   | code c =>
    cases c with
    | refuse s=>exact .inl ⟨_,w,by simp [stepG,stepG.exec,Gm,hm,hk];rfl⟩
    | rangeFunc _ _ _ _=>exact(Gv rfl h).elim
    | cond c a b =>
     dsimp only at h
     cases hv:fr.eval c with
     | bool z=>rw [hv] at h;cases h
     | _=>exact .inl ⟨_,w,by simp [stepG,stepG.exec,Gm,hm,hk,hv];rfl⟩
    | exit id =>
     dsimp only at h
     cases he:exitTo id k with
     | none=>exact .inl ⟨_,w,by simp [stepG,stepG.exec,Gm,hm,hk,he,hF.round];rfl⟩
     | some k2=>rw [he] at h;cases h
    | goto l =>
     dsimp only at h
     cases he:gotoIn l k with
     | none=>exact .inl ⟨_,w,by simp [stepG,stepG.exec,Gm,hm,hk,he,hF.round];rfl⟩
     | some k2=>rw [he] at h;cases h
    | region id ops draw =>
     cases draw with
     | false=>cases h
     | true =>
      have h':((Sem.choose (.order fr.fn id) fun t=>.pure ({ fr with todo:=.inRegion ops (Region.schedule (P.follows .mixedOrders) ops t)::k },cs):Sem FC)).runT P w #[]=(.halt hh ai,es):=h;simp only [Sem.runT,Question.forced,ahD,if_false] at h';cases h'
    | _=>cases h
   | inRegion ops l =>
    cases l with
    | nil=>cases h
    | cons i rest =>
     dsimp only at h;by_cases hw:((ops[i]?).map (Region.wanted · (yielded ops fr.tmps))).getD false=true
     ·rw [if_pos hw] at h
      cases ho:ops[i]? with
      | none=>rw [ho] at h;exact(Gv rfl h).elim
      | some o =>
       rw [ho] at h hw;exact Gt main hF hm hk ho (by simpa using hw) h hs
     ·rw [if_neg hw] at h;cases h
   | inBlock _=>cases h
   | inLoop _=>cases h
   | inScope _=>cases h
   | _=>exact(Gv rfl h).elim
end
end CO
