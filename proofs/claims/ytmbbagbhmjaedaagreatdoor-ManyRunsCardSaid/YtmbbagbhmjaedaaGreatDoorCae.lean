/- Part of the proof. -/
import Derived.Test.YtmbbagbhmjaedaaGreatDoorCad
set_option linter.all false
namespace FM
open Go Go.RowKit
variable {l:List Oper}{t:Operand}{w0:World}{L0:Nat->aO}
def dstOk(S:Sys)(N:Nat)(l:List Oper):Bool:=l.all fun o=>match o.dst with
 | some d=>Nat.blt d N&&!S.M d
 | none=>true
theorem aU{S:Sys}{N:Nat}{o:Oper}(h:dstOk S N (o::l)=true):(∀ d:Nat,o.dst=some d->oC S N d)/\dstOk S N l=true:=by
 simp only [dstOk,List.all_cons,aht] at h;refine⟨fun d hd=>?_,h.2⟩;have:=h.1;rw [hd] at this;simp [Nat.blt] at this;exact⟨ae,by simpa using this.2⟩
def XE(S:Sys)(N:Nat)(ops:Array Oper)(l:List Oper)(K:St->Prop)(σ:St):Prop :=
 dstOk S N l=true->∀ (w0:World) (L0:Nat->aO) (Q:Exit->Act->World->Prop) (a:Act) (w:World),
  OutJ S N w0 L0 K Q->Rel S w0 L0 N σ a w->wpList S.P ops Q l a w
def Jq(S:Sys)(N:Nat)(ops:Array Oper)(l:List Oper)(K:St->Prop)(σ:St):Prop :=
 dstOk S N l=true->∀ (w0:World) (L0:Nat->aO) (Q:Act->Prop) (a:Act) (w:World),
  (∀ bx a',K bx->Rel S w0 L0 N bx a' w->Q a')->Rel S w0 L0 N σ a w->wpQuiet S.P ops (Ext w) Q l a
@[irreducible] def J (q:Bool) (S:Sys) (N:Nat) (ops:Array Oper) (l:List Oper) (K:St→Prop) (σ:St):Prop :=
 match q with
 | true=>Jq S N ops l K σ
 | false=>XE S N ops l K σ
def live(ops:Array Oper)(g:Option (Nat×Bool))(σ:St):Option Bool :=
 match g with
 | none=>some true
 | some (j,b)=>match (ops[j]?).bind (·.dst) with
  | some t=>match get σ t with
   | .av (.bool c)=>some (match c,b with|true,true=>true|false,false=>true|_,_=>false)
   | _=>none
  | none=>none
section
variable {S:Sys} {N:Nat} {ops:Array Oper} {l:List Oper} {K:St->Prop} {σ bx:St} {o:Oper} {q:Bool}
theorem Ho{a:Act}{t:Nat}{b:Bool}(h:a.tmps.getD t undef=.bool b):a.tmps[t]?=some (.bool b):=by
 rw [ahA] at h
 cases ht:a.tmps[t]? with
 | none=>rw [ht] at h;cases h
 | some v=>rw [ht] at h;simp at h;rw [h]
theorem ba{b:Bool}(hg:live ops o.guard σ=some b){a:Act}{w:World}(h:Rel S w0 L0 N σ a w):Region.wanted o (yielded ops a.tmps)=b:=by
 obtain⟨L,h⟩:=h;unfold live at hg;unfold Region.wanted
 cases Pu:o.guard with
 | none=>rw [Pu] at hg;simp only [ahp] at hg;exact hg
 | some jb =>
  obtain⟨j,c⟩:=jb;rw [Pu] at hg;simp only at hg ⊢
  cases ht:(ops[j]?).bind (·.dst) with
  | none=>rw [ht] at hg;cases hg
  | some t =>
   rw [ht] at hg;simp only at hg;have TE:∀ e,get σ t=.av (.bool e)->yielded ops a.tmps j=some e:=fun e he=>by
    have hh:=h.hold t (aJ h he ag);rw [he] at hh;have:a.tmps.getD t undef=.bool e:=by generalize a.tmps.getD t undef=v at hh;cases hh;rfl
    simp only [yielded,ht,aiJ,Ho this]
   split at hg
   ·rename_i e he;rw [TE e he];revert hg;cases e<;>cases c<;>simp
   ·cases hg
theorem J.nil(h:K σ):J q S N ops [] K σ:=by
 unfold J
 cases q with
 | true=>exact fun _ w0 L0 Q a w hQ hR=>hQ σ a h hR
 | false=>exact fun _ w0 L0 Q a w hQ hR=>hQ σ a w h hR
theorem J.step(hg:live ops o.guard σ=some true)(hs:Step S o σ bx)(h:J q S N ops l K bx):J q S N ops (o::l) K σ:=by
 unfold J at *
 cases q with
 | true =>
  intro hd w0 L0 Q a w hQ hR;obtain⟨h1,h2⟩:=aU hd;obtain⟨v,hv,gi⟩:=hs w0 L0 N a w h1 hR;have:=h h2 w0 L0 Q (a.put o.dst v) w hQ gi;simp only [wpQuiet,ba hg hR,if_true];refine⟨v,fun w' qU=>?_,this⟩;unfold Oper.quietAt;rw [hv w' qU];exact⟨rfl,rfl⟩
 | false =>
  intro hd w0 L0 Q a w hQ hR;obtain⟨h1,h2⟩:=aU hd;obtain⟨v,hv,gi⟩:=hs w0 L0 N a w h1 hR;have:=h h2 w0 L0 Q (a.put o.dst v) w hQ gi;simp only [wpList,ba hg hR,if_true];refine .inl ?_;unfold Oper.wp;rw [hv w (Ext.refl w)];exact this
theorem J.skip{d:Nat}(hg:live ops o.guard σ=some false)(hd:o.dst=some d)(h:J q S N ops l K (σ.put d .none)):J q S N ops (o::l) K σ:=by
 unfold J at *;have put:∀ {w0:World} {L0:Nat->aO} {a:Act} {w:World},oC S N d->Rel S w0 L0 N σ a w->Rel S w0 L0 N (σ.put d .none) (a.put o.dst undef) w:=fun aA ⟨L,hR⟩=>⟨_,by rw [hd];exact hR.put aA trivial⟩
 cases q with
 | true =>
  intro dI w0 L0 Q a w hQ hR;obtain⟨h1,h2⟩:=aU dI;simp only [wpQuiet,ba hg hR,ahD,if_false];exact h h2 w0 L0 Q _ w hQ (put (h1 d hd) hR)
 | false =>
  intro dI w0 L0 Q a w hQ hR;obtain⟨h1,h2⟩:=aU dI;simp only [wpList,ba hg hR,ahD,if_false];exact h h2 w0 L0 Q _ w hQ (put (h1 d hd) hR)
theorem J.split{t:Nat}{b:Bool}(ht:get σ t=.av (.bool b))(h1:b=true->∀ bx:St,bx=σ.upd true t (.av (.bool true))->J q S N ops (o::l) K bx)(h2:b=false->∀ bx:St,bx=σ.upd true t (.av (.bool false))->J q S N ops (o::l) K bx):J q S N ops (o::l) K σ:=by
 have Lj:∀ {w0:World} {L0:Nat->aO} {a:Act} {w:World} (c:Bool),b=c->Rel S w0 L0 N σ a w->Rel S w0 L0 N (σ.upd true t (.av (.bool c))) a w:=by
  intro w0 L0 a w c hc ⟨L,hR⟩;refine⟨L,hR.defers,hR.size,hR.keep,hR.lok,fun n hn=>?_,fun n hn=>?_,hR.fix,hR.glob⟩
  ·simp only [get];by_cases Dr:t=n
   ·subst Dr;rw [ahy,cond_true,<-hc,<-ht];exact hR.hold t hn
   ·rw [au Dr,cond_false];have hh:=hR.hold n hn;generalize hg:get σ n=tv at hh;cases tv<;>simp only [TV.bk]<;>first
     | exact hh
     | trivial
     | (rename_i s _;cases hs:Nat.beq s t with
       | true=>trivial
       | false=>exact hh)
     | (rename_i s _ _;cases hs:Nat.beq s t with
       | true =>
        first
         | (obtain⟨b',h1,h2,_⟩:=hh;exact⟨b',h1,h2,fun h=>absurd rfl h⟩)
       | false=>exact hh)
     | (rename_i s _ _ _;cases hs:Nat.beq s t with
       | true =>
        obtain⟨b',h1,h2,_⟩:=hh;exact⟨b',h1,h2,fun h=>absurd rfl h⟩
       | false=>exact hh)
  ·simp only [get];by_cases Dr:t=n
   ·have:=aJ hR ht ag;omega
   ·rw [au Dr,cond_false,hR.out n hn];rfl
 unfold J at *
 cases q with
 | true =>
  intro hd w0 L0 Q a w hQ hR
  cases hb:b with
  | true=>exact h1 hb _ rfl hd w0 L0 Q a w hQ (Lj true hb hR)
  | false=>exact h2 hb _ rfl hd w0 L0 Q a w hQ (Lj false hb hR)
 | false =>
  intro hd w0 L0 Q a w hQ hR
  cases hb:b with
  | true=>exact h1 hb _ rfl hd w0 L0 Q a w hQ (Lj true hb hR)
  | false=>exact h2 hb _ rfl hd w0 L0 Q a w hQ (Lj false hb hR)
end
@[irreducible] def CW (S:Sys) (N:Nat) (c:Code) (Q:Exit→St→Prop) (σ:St):Prop :=
 ∀ (w0:World) (L0:Nat->aO) (Q':Exit->Act->World->Prop) (a:Act) (w:World),
  OutC S N w0 L0 Q Q'->Rel S w0 L0 N σ a w->c.wp S.P Q' a w
def pw(K:St->Prop)(Q:Exit->St->Prop):Exit->St->Prop
 | .normal,σ=>K σ
 | e,σ=>Q e σ
def kE(id:Nat)(Q:Exit->St->Prop):Exit->St->Prop
 | .exit i,σ=>bif Nat.beq i id then Q .normal σ else Q (.exit i) σ
 | e,σ=>Q e σ
section
variable {S:Sys} {N:Nat} {Q:Exit->St->Prop} {σ:St}
theorem CW.seq{x y:Code}(h:CW S N x (pw (CW S N y Q) Q) σ):CW S N (.seq x y) Q σ:=by
 unfold CW at h ⊢;intro w0 L0 Q' a w hQ hR;refine wp_seq (h w0 L0 _ a w ⟨fun e bx a' w' he gi=>?_,fun ch a' w' hd=>hQ.die ch a' w' hd⟩ hR);cases e<;>simp only [pw] at he<;>simp only [Exit.then]
 case normal=>exact he w0 L0 Q' a' w' hQ gi
 all_goals exact hQ _ bx a' w' he gi
theorem CW.skip(h:Q .normal σ):CW S N .skip Q σ:=by
 unfold CW;exact fun w0 L0 Q' a w hQ hR=>wp_skip (hQ _ _ _ _ h hR)
theorem CW.ret(h:Q .ret σ):CW S N .ret Q σ:=by
 unfold CW;exact fun w0 L0 Q' a w hQ hR=>wp_ret (hQ _ _ _ _ h hR)
theorem CW.exit{id:Nat}(h:Q (.exit id) σ):CW S N (.exit id) Q σ:=by
 unfold CW;exact fun w0 L0 Q' a w hQ hR=>wp_exit (hQ _ _ _ _ h hR)
theorem CW.block{id:Nat}{c:Code}(h:CW S N c (kE id Q) σ):CW S N (.block id c) Q σ:=by
 unfold CW at *;intro w0 L0 Q' a w hQ hR;refine wp_block (h w0 L0 _ a w ⟨fun e bx a' w' he gi=>?_,fun ch a' w' hd=>hQ.die ch a' w' hd⟩ hR);cases e<;>simp only [kE] at he<;>simp only [Exit.inBlock]
 case exit i =>
  cases hi:Nat.beq i id with
  | true=>rw [hi,cond_true] at he;rw [if_pos (ahz hi)];exact hQ _ _ _ _ he gi
  | false=>rw [hi,cond_false] at he;rw [if_neg (aC hi)];exact hQ _ _ _ _ he gi
 all_goals exact hQ _ _ _ _ he gi
theorem uL{b:Bool}(ht:ov σ t=.av (.bool b)){a:Act}{w:World}(hR:Rel S w0 L0 N σ a w):a.eval t=.bool b:=by
 obtain⟨L,hR⟩:=hR;exact qv hR ht
theorem CW.Ds{x y:Code}(ht:ov σ t=.av (.bool true))(h:CW S N x Q σ):CW S N (.cond t x y) Q σ:=by
 unfold CW at *;exact fun w0 L0 Q' a w hQ hR=>wp_cond_true (uL ht hR) (h w0 L0 Q' a w hQ hR)
theorem CW.Dt{x y:Code}(ht:ov σ t=.av (.bool false))(h:CW S N y Q σ):CW S N (.cond t x y) Q σ:=by
 unfold CW at *;exact fun w0 L0 Q' a w hQ hR=>wp_cond_false (uL ht hR) (h w0 L0 Q' a w hQ hR)
theorem CW.cond{t:Operand}{x y:Code}{b:Bool}(ht:ov σ t=.av (.bool b))(h1:b=true->CW S N x Q σ)(h2:b=false->CW S N y Q σ):CW S N (.cond t x y) Q σ:=by
 cases b with
 | true=>exact .Ds ht (h1 rfl)
 | false=>exact .Dt ht (h2 rfl)
theorem CW.TF{x y:Code}{p:Prop}{inst:Decidable p}(ht:ov σ t=.av (.bool (decide p)))(h1:p->CW S N x Q σ)(h2:¬ p->CW S N y Q σ):CW S N (.cond t x y) Q σ :=
 .cond ht (fun h=>h1 (of_decide_eq_true h)) (fun h=>h2 (of_decide_eq_false h))
theorem J.Pv{q:Bool}{ops:Array Oper}{K:St->Prop}{o:Oper}{t:Nat}{p:Prop}{inst:Decidable p}(ht:get σ t=.av (.bool (decide p)))(h1:p->∀ bx:St,bx=σ.upd true t (.av (.bool true))->J q S N ops (o::l) K bx)
  (h2:¬ p->∀ bx:St,bx=σ.upd true t (.av (.bool false))->J q S N ops (o::l) K bx):J q S N ops (o::l) K σ :=
 .split ht (fun h=>h1 (of_decide_eq_true h)) (fun h=>h2 (of_decide_eq_false h))
theorem CW.reg{id:Nat}(hd:dstOk S N l=true)(h:J false S N l.toArray l (Q .normal) σ):CW S N (.region id l.toArray false) Q σ:=by
 unfold CW;unfold J at h;exact fun w0 L0 Q' a w hQ hR=>wp_region_lit (h hd w0 L0 Q' a w ⟨fun bx a' w' hK gi=>hQ _ _ _ _ hK gi,hQ.die⟩ hR)
theorem CW.XF{id:Nat}(hB:Region.lexB .any l.toArray=true)(hd:dstOk S N l=true)(h:J true S N l.toArray l (Q .normal) σ):CW S N (.region id l.toArray true) Q σ:=by
 unfold CW;unfold J at h;intro w0 L0 Q' a w hQ hR;refine wp_region_quiet (C:=Ext w) S.mixed hB ⟨rfl,rfl,rfl,ahr _,fun _ _=>rfl⟩ ?_;exact h hd w0 L0 _ a w (fun bx a' hK gi w' qU=>hQ _ _ _ _ hK (gi.ext qU)) hR
def Has(σ:St):List (Nat×TV)->Prop
 | []=>True
 | (n,tv)::r=>get σ n=tv/\Has σ r
def jc:List (Nat×TV)->St
 | []=>.nil
 | (n,tv)::r=>.put n tv (jc r)
theorem Rel.weaken{bx:St}(hw:∀ n,get bx n=get σ n∨get bx n=.none){a:Act}{w:World}(h:Rel S w0 L0 N σ a w):Rel S w0 L0 N bx a w:=by
 obtain⟨L,hR⟩:=h;refine⟨L,hR.defers,hR.size,hR.keep,hR.lok,fun n hn=>?_,fun n hn=>?_,hR.fix,hR.glob⟩
 ·rcases hw n with h|h
  ·rw [h];exact hR.hold n hn
  ·rw [h];trivial
 ·rcases hw n with h|h
  ·rw [h];exact hR.out n hn
  ·exact h
theorem CW.weaken{c:Code}{bx:St}(hw:∀ n,get bx n=get σ n∨get bx n=.none)(h:CW S N c Q bx):CW S N c Q σ:=by
 unfold CW at *;intro w0 L0 Q' a w hQ ⟨L,hR⟩;refine h w0 L0 Q' a w hQ ⟨L,hR.defers,hR.size,hR.keep,hR.lok,fun n hn=>?_,fun n hn=>?_,hR.fix,hR.glob⟩
 ·rcases hw n with h|h
  ·rw [h];exact hR.hold n hn
  ·rw [h];trivial
 ·rcases hw n with h|h
  ·rw [h];exact hR.out n hn
  ·exact h
theorem gR:∀ {I:List (Nat×TV)},Has σ I->∀ n,get (jc I) n=get σ n∨get (jc I) n=.none
 | [],_,n=>.inr rfl
 | (m,tv)::r,h,n=>by
  simp only [jc,get,aY];by_cases hmn:m=n
  ·subst hmn;rw [ahy,cond_true];exact .inl h.1.symm
  ·rw [au hmn,cond_false]
   cases hd:(get (jc r) n).dep m with
   | true=>exact .inr rfl
   | false=>rw [cond_false];exact gR h.2 n
theorem CW.has{c:Code}(I:List (Nat×TV))(hI:Has σ I)(h:CW S N c Q (jc I)):CW S N c Q σ:=.weaken (gR hI) h
theorem CW.mono{c:Code}{Q':Exit->St->Prop}(h:CW S N c Q σ)(hq:∀ e bx,Q e bx->Q' e bx):CW S N c Q' σ:=by
 unfold CW at *;exact fun w0 L0 Q'' a w hQ hR=>h w0 L0 Q'' a w ⟨fun e bx a' w' he=>hQ e bx a' w' (hq e bx he),hQ.die⟩ hR
theorem CW.loop{ι:Type}(I:ι->List (Nat×TV))(pre:ι->Prop)(μ:ι->Nat){c:Code}(i0:ι)(hp:pre i0)(h0:Has σ (I i0))
  (round:∀ i,pre i->CW S N c (pw (fun bx=>∃ j,pre j/\μ j<μ i/\Has bx (I j)) Q) (jc (I i))):CW S N (.loop c) Q σ:=by
 unfold CW at *;intro w0 L0 Q' a w hQ hR;have Bn:∀ {σ:St} {J:List (Nat×TV)} {a:Act} {w:World},Has σ J->Rel S w0 L0 N σ a w->Rel S w0 L0 N (jc J) a w:=fun{σ J a w} hJ ⟨L,hR⟩ =>
  ⟨L,hR.defers,hR.size,hR.keep,hR.lok,fun n hn=>by
   rcases gR hJ n with h|h
   ·rw [h];exact hR.hold n hn
   ·rw [h];trivial,fun n hn=>by
   rcases gR hJ n with h|h
   ·rw [h];exact hR.out n hn
   ·exact h,hR.fix,hR.glob⟩
 intro b k cs;have key:∀ n i,μ i=n->pre i->∀ a w,Rel S w0 L0 N (jc (I i)) a w ->
   ∃ e a' w',Q' e a' w'/\Arrives S.P (lone (b.at a (.code c::.inLoop c::k)) cs w) b k cs e a' w':=by
  intro n
  induction n using Nat.strongRecOn with
  | _ n ih =>
   intro i hi b7 a w hR
   obtain⟨e,a',w',hq,kl⟩:=round i b7 w0 L0 (fun e a' w'=>match e with
    | .normal=>∃ j,pre j/\μ j<μ i/\Rel S w0 L0 N (jc (I j)) a' w'
    | e=>Q' e a' w') a w ⟨fun e bx a' w' he gi=>by
    cases e<;>simp only [pw] at he
    case normal =>
     obtain⟨j,hj,aA,XG⟩:=he
     exact⟨j,hj,aA,Bn XG gi⟩
    all_goals exact hQ _ _ _ _ he gi,fun ch a' w' hd=>hQ.die ch a' w' hd⟩ hR b (.inLoop c::k) cs
   cases e with
   | normal =>
    obtain⟨j,hj,aA,gi⟩:=hq;obtain⟨e2,a2,w2,XH,TG⟩:=ih (μ j) (hi▸aA) j rfl hj a' w' gi;exact⟨e2,a2,w2,XH,.of_steps (Steps.trans kl (.one step_inLoop)) TG⟩
   | exit id=>exact⟨_,a',w',hq,.pass (x:=.inLoop c) rfl (fun _ _=>.inl ag) kl⟩
   | goto l=>exact⟨_,a',w',hq,.pass (x:=.inLoop c) rfl (fun _ _=>.inl ag) kl⟩
   | ret=>exact⟨_,a',w',hq,.pass (x:=.inLoop c) rfl (fun _ _=>.inl ag) kl⟩
   | panic ch=>exact⟨_,a',w',hq,.pass (x:=.inLoop c) rfl (fun _ _=>.inl ag) kl⟩
   | outgrown=>exact⟨_,a',w',hq,.pass (x:=.inLoop c) rfl (fun _ _=>.inl ag) kl⟩
 obtain⟨e,a',w',hq,kl⟩:=key _ i0 rfl hp a w (Bn h0 hR);exact⟨e,a',w',hq,.of_steps (.one step_loop) kl⟩
end
end FM
namespace FM
open Go Go.RowKit
variable {L:Nat->aO}{P:Program}{xs9:List AV}
structure jd(P:Program)(f:Nat):Prop where
 out:∃ fn,P.funcs[f]?=some fn/\(fn.name == "runtime.NumGoroutine")=false/\fn.body.isNone=false
structure NO(n:Nat)(L:Nat->aO)(w:World):Prop where
 lt:∀ b p,L b=.my p->b<w.heap.size
 head:∀ b p,L b=.my p->∃ i q,p=i::q/\i<n
 inj:∀ b b' p,L b=.my p->L b'=.my p->b=b'
 new:∀ b,w.heap.size<=b->L b≠.fo
 glob:kg L w
structure tW(n:Nat)(xs9':List AV)(r:AV)(L:Nat->aO)(w:World)(vs:List Value)(v:Value)(w':World)(L':Nat->aO):Prop where
 keep:gf L w w'
 lok:tU L w L' w'
 head:∀ b p,L' b=.my p->∃ i q,p=i::q/\i<=n
 args:∀ i x u,xs9'[i]?=some x->vs[i]?=some u->Rep L' w' (some [i]) x u
 res:Rep L' w' (some [n]) r v
structure FnSpec(P:Program)(f:Nat)(xs9 xs9':List AV)(r:AV):Prop where
 ok:jd P f
 calls:∀ (w:World) (L:Nat->aO) (vs:List Value),vs.length=xs9.length->NO xs9.length L w->(∀ i x v,xs9[i]?=some x->vs[i]?=some v->Rep L w (some [i]) x v) ->
  Calls P f vs.toArray w fun e w'=>∃ v L',e=.returned v/\tW xs9.length xs9' r L w vs v w' L'
def idx:List Nat->Nat->Option Nat
 | [],_=>none
 | a::r,t=>bif Nat.beq a t then some 0 else(idx r t).map (·+1)
theorem qV:∀ {ts:List Nat} {t k:Nat},idx ts t=some k->ts[k]?=some t
 | [],_,_,h=>by simp [idx] at h
 | a::r,t,k,h=>by
  simp only [idx] at h
  cases hb:Nat.beq a t with
  | true=>rw [hb,cond_true] at h;injection h with h;subst h;simp [ahz hb]
  | false =>
   rw [hb,cond_false,ahs] at h;obtain⟨k',h1,rfl⟩:=h;simpa using qV h1
def uM:List Nat->Bool
 | []=>true
 | a::r=>!(r.any fun b=>Nat.beq b a)&&uM r
theorem Hp:∀ {ts:List Nat},uM ts=true->∀ {k t:Nat},ts[k]?=some t->idx ts t=some k
 | [],_,k,t,h=>by simp at h
 | a::r,hok,0,t,h=>by
  simp only [ahq,ahp] at h;subst h;simp [idx,ahy]
 | a::r,hok,k+1,t,h=>by
  simp only [ahP] at h;simp only [uM,aht,Bool.not_eq_true',List.any_eq_false] at hok;have cr:Nat.beq a t=false:=by
   refine au fun e=>?_;subst e;exact hok.1 a (ahH h) (ahy a)
  simp [idx,cr,Hp hok.2 h]
def Fa(n:Nat)(single:Bool)(ts:List Nat)(t:Nat):Option (List Nat) :=
 bif Nat.blt t n then some [t] else(idx ts t).map fun k=>bif single then [n] else [n,k]
def cG(ρ:Nat->Option (List Nat))(L:Nat->aO):Nat->aO:=fun b =>
 match L b with
 | .my (t::q)=>match ρ t with
  | some p=>.my (p++q)
  | none=>.sh
 | .my []=>.sh
 | l=>l
theorem je{ρ:Nat->Option (List Nat)}{L:Nat->aO}{b:Nat}{p:List Nat}(h:cG ρ L b=.my p):∃ t q p',L b=.my (t::q)/\ρ t=some p'/\p=p'++q:=by
 simp only [cG] at h
 cases hL:L b with
 | my p0 =>
  rw [hL] at h
  cases p0 with
  | nil=>cases h
  | cons t q =>
   simp only at h
   cases Bc:ρ t with
   | none=>rw [Bc] at h;cases h
   | some p'=>rw [Bc] at h;injection h with h;exact⟨t,q,p',rfl,Bc,h.symm⟩
 | sh=>rw [hL] at h;cases h
 | fo=>rw [hL] at h;cases h
theorem yp{ρ:Nat->Option (List Nat)}{b t:Nat}{q p:List Nat}(h:L b=.my (t::q))(Bc:ρ t=some p):cG ρ L b=.my (p++q):=by
 simp only [cG,h,Bc]
theorem qW{ρ:Nat->Option (List Nat)}{b:Nat}(h:L b=.sh):cG ρ L b=.sh:=by simp only [cG,h]
theorem yq{ρ:Nat->Option (List Nat)}{L:Nat->aO}{b:Nat}:cG ρ L b=.fo↔L b=.fo:=by
 simp only [cG]
 cases hL:L b with
 | my p=>cases p with
  | nil=>simp
  | cons t q=>simp only;cases ρ t<;>simp
 | _=>simp
theorem tU.cG{L0 L:Nat->aO}{w0 w:World}(h:tU L0 w0 L w){ρ:Nat->Option (List Nat)}(cr:∀ t p,ρ t=some p->p≠[])
  (Bc:∀ t t' p p' q q',ρ t=some p->ρ t'=some p'->p++q=p'++q'->t=t'/\q=q'):tU L0 w0 (FM.cG ρ L) w where
 lt b p hb:=by obtain⟨t,q,p',h1,_,_⟩:=je hb;exact h.lt b _ h1
 inj b b' p hb bI:=by
  obtain⟨t,q,p1,h1,h2,h3⟩:=je hb;obtain⟨t',q',p1',nj,kh,mA⟩:=je bI;obtain⟨rfl,rfl⟩:=Bc t t' p1 p1' q q' h2 kh (h3.symm.trans mA);exact h.inj _ _ _ h1 nj
 head b p hb:=by
  obtain⟨t,q,p1,h1,h2,h3⟩:=je hb;subst h3;have:=cr t p1 h2;simp [this]
 old b p aA hb:=by obtain⟨t,q,p',h1,_,_⟩:=je hb;exact h.old b _ aA h1
 fo b hb:=yq.trans (h.fo b hb)
 new b hb hf:=h.new b hb (yq.1 hf)
theorem Ll{n:Nat}{single:Bool}{ts:List Nat}(hs:single=true->ts.length=1):∀ t t' p p' q q',Fa n single ts t=some p->Fa n single ts t'=some p'->p++q=p'++q'->t=t'/\q=q':=by
 intro t t' p p' q q' h h' he;unfold Fa at h h';cases hb:Nat.blt t n<;>cases bI:Nat.blt t' n<;>simp only [hb,bI,cond_true,cond_false,ahs,ahp] at h h'
 ·obtain⟨k,h1,rfl⟩:=h;obtain⟨k',nj,rfl⟩:=h';have e1:=qV h1;have oD:=qV nj
  cases single with
  | true =>
   simp only [cond_true,List.singleton_append,List.cons.injEq,true_and] at he;have:=hs rfl;have hk:k=0:=by have:=(aho.1 e1).1;omega
   have vY:k'=0:=by have:=(aho.1 oD).1;omega
   subst hk;subst vY;rw [e1] at oD;exact⟨ah6 oD,he⟩
  | false =>
   simp only [cond_false,aiO,List.nil_append,List.cons.injEq,true_and] at he;obtain⟨rfl,rfl⟩:=he;rw [e1] at oD;exact⟨ah6 oD,rfl⟩
 ·obtain⟨k,h1,rfl⟩:=h;subst h';have aA:t'<n:=by simp [Nat.blt] at bI;omega
  exfalso;cases single<;>simp at he<;>omega
 ·obtain⟨k,h1,rfl⟩:=h';subst h;have aA:t<n:=by simp [Nat.blt] at hb;omega
  exfalso;cases single<;>simp at he<;>omega
 ·subst h;subst h';simpa using he
theorem Pw{n:Nat}{single:Bool}{ts:List Nat}:∀ t p,Fa n single ts t=some p->p≠[]:=by
 intro t p h;unfold Fa at h
 cases hb:Nat.blt t n with
 | true=>rw [hb,cond_true] at h;injection h with h;subst h;simp
 | false =>
  rw [hb,cond_false,ahs] at h;obtain⟨k,_,rfl⟩:=h;cases single<;>simp
def ResultVar.slot:ResultVar->Nat
 | .tmp t=>t
 | .cell t _=>t
def AV.one(ti:TI):AV->Bool
 | .agg _=>false
 | z=>!z.aW&&!ti.k.isAgg
theorem Hq{ti:TI}{z:AV}(h:z.one ti=true):z.cells=[z]/\z.fits ti=true/\z.fv=true/\z.aW=false:=by
 cases z<;>simp_all [AV.one,AV.cells,AV.fits,AV.fv]
def uN(S:Sys)(σ:St):ResultVar->Option AV
 | .tmp t=>match get σ t with
  | .av y=>some y
  | _=>none
 | .cell t ty=>match get σ t,S.T ty with
  | .av (.pt true cs),some ti=>match ti.k.isAgg with
   | true=>bif Nat.beq cs.length ti.size&&cs.all (fun z=>!z.aW) then some (.agg cs) else none
   | false=>match cs with
    | [y]=>bif y.one ti then some y else none
    | _=>none
  | _,_=>none
def yr(S:Sys)(σ:St):List ResultVar->Option (List AV)
 | []=>some []
 | r::rs=>match uN S σ r,yr S σ rs with
  | some y,some ys=>some (y::ys)
  | _,_=>none
def pack:List AV->AV
 | [y]=>y
 | ys=>.tup ys
def yu:List Value->Value
 | [v]=>v
 | vs=>.tuple vs.toArray
def mB(tmps:Array Value):ResultVar->Sem Value
 | .tmp t=>pure (tmps.getD t undef)
 | .cell p t=>do loadVar t (<- asAddr (tmps.getD p undef))
section
variable {S:Sys} {N:Nat} {σ:St}
theorem qX:∀ {eR:List ResultVar} {rs:List AV},yr S σ eR=some rs->rs.length=eR.length/\∀ (k:Nat) (rv:ResultVar) (y:AV),eR[k]?=some rv->rs[k]?=some y->uN S σ rv=some y
 | [],rs,h=>by simp only [yr,ahp] at h;subst h;exact⟨rfl,fun k rv y h=>by simp at h⟩
 | r::eR,rs,h=>by
  simp only [yr] at h
  cases h1:uN S σ r with
  | none=>rw [h1] at h;cases h
  | some y =>
   cases h2:yr S σ eR with
   | none=>rw [h1,h2] at h;cases h
   | some ys =>
    rw [h1,h2] at h;simp only [ahp] at h;subst h;obtain⟨e1,e2⟩:=qX h2;refine⟨by simp [e1],fun k rv y' hk hy=>?_⟩
    cases k with
    | zero=>simp only [ahq,ahp] at hk hy;subst hk;subst hy;exact h1
    | succ k=>simp only [ahP] at hk hy;exact e2 k rv y' hk hy
theorem Du{w0:World}{L0:Nat->aO}{a:Act}{w:World}(hR:RelL S w0 L0 N σ a w L){rv:ResultVar}{y:AV}(h:uN S σ rv=some y):
  ∃ v,(mB a.tmps rv).run S.P w=.ok v w/\Rep L w (some [ResultVar.slot rv]) y v:=by
 cases rv with
 | tmp t =>
  simp only [uN] at h
  cases ht:get σ t with
  | av z =>
   rw [ht] at h;simp only [ahp] at h;subst h;have:=hR.hold t (aJ hR ht ag);rw [ht] at this;exact⟨_,rfl,this⟩
  | _=>rw [ht] at h;cases h
 | cell t ty =>
  simp only [uN] at h;split at h
  ·rename_i cs ti ht hT;have hh:=hR.hold t (aJ hR ht ag);rw [ht] at hh;simp only [Hold] at hh;have hok:=S.ok ty ti hT;split at h
   ·rename_i Hr
    cases hc:(Nat.beq cs.length ti.size&&cs.all (fun z=>!z.aW)) with
    | false=>rw [hc] at h;cases h
    | true =>
     rw [hc,cond_true] at h;injection h with h
     subst h;simp only [aht] at hc;generalize XI:a.tmps.getD t undef=v at hh
     cases hh with
     | @ptO p cs b arr e u hL hb bc aH hr =>
      have dJ:(AV.agg cs).fv=true:=hc.2
      obtain⟨v,h1,h2,_⟩:=dA hok (y:=.agg cs) (b:=b) (off:=0) (L:=L) (π:=fun j=>some ([t]++[j])) (by simp [AV.fits,Hr,hc.1]) (ahx.1 hb).1 (cY dJ) (fun j z hz=>⟨u j,by
       rw [ahR,cell_of_row w b j arr e (0,0) hb];exact aH j (aho.1 hz).1,hr j z hz⟩)
      refine⟨v,?_,?_⟩
      ·simp only [mB,XI,asAddr,Sem.run_bind,Sem.run_pure,Result.andThen_ok];exact h1 w (Ext.refl w)
      ·exact h2.replace rfl
   ·rename_i Hr;split at h
    ·rename_i z
     cases hc:z.one ti with
     | false=>rw [hc] at h;cases h
     | true =>
      rw [hc,cond_true] at h;injection h with h
      subst h;obtain⟨Dw,lQ,dJ,Px⟩:=Hq hc;generalize XI:a.tmps.getD t undef=v at hh
      cases hh with
      | @ptO p cs b arr e u hL hb bc aH hr =>
       obtain⟨v,h1,h2,_⟩:=dA hok (y:=z) (b:=b) (off:=0) (L:=L) (π:=fun j=>some ([t]++[j])) lQ (ahx.1 hb).1 (cY dJ) (fun j z' hz=>⟨u j,by
        rw [Dw] at hz
        rw [ahR,cell_of_row w b j arr e (0,0) hb];exact aH j (aho.1 hz).1,by rw [Dw] at hz;exact hr j z' hz⟩)
       refine⟨v,?_,?_⟩
       ·simp only [mB,XI,asAddr,Sem.run_bind,Sem.run_pure,Result.andThen_ok];exact h1 w (Ext.refl w)
       ·exact h2.replace Px
    ·cases h
  ·cases h
theorem nk{α β:Type}{P:Program}{w:World}(f:α->Sem β):∀ (l:List α) (vs:List β),vs.length=l.length->(∀ (k:Nat) x v,l[k]?=some x->vs[k]?=some v->(f x).run P w=.ok v w)->(l.mapM f).run P w=.ok vs w
 | [],vs,hl,_=>by
  have:vs=[]:=ah4 (by simpa using hl);subst this;rfl
 | x::l,[],hl,_=>by simp at hl
 | x::l,v::vs,hl,h=>by
  have h0:=h 0 x v rfl rfl;have ih:=nk f l vs (by simpa using hl) fun k y u hk hu=>h (k+1) y u (by simpa using hk) (by simpa using hu);simp only [List.mapM_cons,Sem.run_bind,h0,Result.andThen_ok,ih,Sem.run_pure]
theorem yw{fn:Func}{eR:List ResultVar}(hr:fn.results=eR.toArray){tmps:Array Value}{P:Program}{w:World}{vs:List Value}(hl:vs.length=eR.length)
  (h:∀ (k:Nat) rv v,eR[k]?=some rv->vs[k]?=some v->(mB tmps rv).run P w=.ok v w) :
  (results fn tmps).run P w=.ok (yu vs) w:=by
 have hm:=nk (P:=P) (w:=w) (mB tmps) eR vs hl h;have e:results fn tmps=(do let vs<-fn.results.mapM (mB tmps);pure (if h:vs.size=1 then vs[0] else .tuple vs)):=by
  unfold results;congr 2
 rw [e,hr,Sem.run_bind,List.mapM_toArray,Sem.run_map,hm];simp only [Result.andThen_ok,Sem.run_pure]
 match vs with
 | []=>rfl
 | [v]=>rfl
 | v::u::vs=>simp [yu]
def qY:Nat->List AV->List (Nat×TV)
 | _,[]=>[]
 | k,a::r=>(k,.av a)::qY (k+1) r
theorem oE:∀ (xs9:List AV) (k n:Nat),get (jc (qY k xs9)) n=if k<=n then(match xs9[n-k]? with|some x=>.av x|none=>.none) else .none
 | [],k,n=>by simp [qY,jc,get]
 | a::xs9,k,n=>by
  simp only [qY,jc,get,aY];rw [oE xs9 (k+1) n];by_cases yx:k=n
  ·subst yx;simp [ahy]
  ·rw [au yx,cond_false];by_cases aA:k+1<=n
   ·rw [if_pos aA,if_pos ae,show n-k=(n-(k+1))+1 by omega,ahP];cases xs9[n-(k+1)]?<;>simp [TV.dep]
   ·rw [if_neg aA,if_neg ae];rfl
def Sys.vZ(S:Sys)(M:Nat->Bool)(v:Nat->Value):Sys:={ S with M:=M,v0:=v,D:=[],X:=fun _ _=>False }
def Sys.fixed(S:Sys)(m:Nat)(v:Nat->Value):Sys:=S.vZ (fun i=>Nat.blt i m) v
inductive AV.le:AV->AV->Prop
 | refl (x:AV):AV.le x x
 | nil {o:Bool} {c:Nat}:AV.le .nil (.sl o c [])
 | tup {xs ys:List AV} (hl:xs.length=ys.length) (h:∀ (i:Nat) x y,xs[i]?=some x->ys[i]?=some y->AV.le x y):AV.le (.tup xs) (.tup ys)
 | sl {o:Bool} {c:Nat} {xs ys:List AV} (hl:xs.length=ys.length) (hx:∀ x∈xs,x.cells=[x]) (hy:∀ y∈ys,y.cells=[y]) (h:∀ (i:Nat) x y,xs[i]?=some x->ys[i]?=some y->AV.le x y):AV.le (.sl o c xs) (.sl o c ys)
theorem cJ:∀ {xs:List AV},(∀ x∈xs,x.cells=[x])->flat xs=xs
 | [],_=>rfl
 | x::xs,h=>by
  have ih:=cJ (xs:=xs) fun y hy=>h y (ahW _ hy);simp only [flat,aiv] at ih ⊢;rw [ih,h x (ahU ..)];rfl
theorem Rep.le{x y:AV}(h:AV.le x y):∀ {L:Nat->aO} {w:World} {π:Option (List Nat)} {v:Value},Rep L w π x v->Rep L w π y v:=by
 induction h with
 | refl=>exact fun h=>h
 | nil=>intro L w π v h;cases h;exact .slE (fun _=>rfl)
 | @tup xs ys hl h ih =>
  intro L w π v h
  cases h with
  | tup Bo h' =>
   refine .tup (by rw [Bo,hl]) fun i y u hy hu=>?_;have hi:i<xs.length:=by rw [hl];exact(aho.1 hy).1
   exact ih i xs[i] y (ahn hi) hy (h' i xs[i] u (ahn hi) hu)
 | @sl o c xs ys hl hx hy h ih =>
  intro L w π v h;have back:∀ (i:Nat) y,ys[i]?=some y->∃ x,xs[i]?=some x:=fun i y hy=>by
   have hi:i<xs.length:=by rw [hl];exact(aho.1 hy).1
   exact⟨xs[i],ahn hi⟩
  have uK:(∀ x∈xs,x.cells.length=c)->∀ y∈ys,y.cells.length=c:=fun hc y hm=>by
   obtain⟨i,hi⟩:=List.getElem?_of_mem hm;obtain⟨x,eQ⟩:=back i y hi;have h1:=hc x (ahH eQ);rw [hx x (ahH eQ)] at h1;rw [hy y hm];exact h1
  cases h with
  | slE h0 =>
   have:ys=[]:=ah4 (by rw [<- hl];rfl);subst this;exact .slE h0
  | slS u bK hL hb hc aH hr =>
   rw [hl];refine .slS u ae hL hb (uK hc) (by rw [<- hl];exact aH) fun o y Ht=>?_;rw [cJ hy] at Ht;obtain⟨x,eQ⟩:=back o y Ht;exact ih o x y eQ Ht (hr o x (by rw [cJ hx];exact eQ))
  | slO u hL hb bK bc hc aH hr =>
   rw [hl];refine .slO u hL hb ae bc (uK hc) (by rw [<- hl];exact aH) fun o y Ht=>?_;rw [cJ hy] at Ht;obtain⟨x,eQ⟩:=back o y Ht;exact ih o x y eQ Ht (hr o x (by rw [cJ hx];exact eQ))
def isRet:Exit->Bool
 | .ret|.normal=>true
 | _=>false
def Ret(S:Sys)(eR:List ResultVar)(xs9 xs9':List AV)(r:AV)(e:Exit)(σ:St):Prop :=
 isRet e=true/\(∃ rs,yr S σ eR=some rs/\AV.le (pack rs) r)/\xs9'.length=xs9.length /\
 ∀ (i:Nat) (x y:AV),xs9[i]?=some x->xs9'[i]?=some y->(x.aW=false/\y=x)∨(S.M i=true/\(get σ i=.av y∨y=.dead))
structure jI(P:Program)(f:Nat)(xs9:List AV)(R:List AV->AV->Prop):Prop where
 ok:jd P f
 calls:∀ (w:World) (L:Nat->aO) (vs:List Value),vs.length=xs9.length->NO xs9.length L w->(∀ i x v,xs9[i]?=some x->vs[i]?=some v->Rep L w (some [i]) x v) ->
  Calls P f vs.toArray w fun e w'=>∃ v L' xs9' r,e=.returned v/\R xs9' r/\tW xs9.length xs9' r L w vs v w' L'
theorem jI.toFn{f:Nat}{xs9':List AV}{r:AV}{R:List AV->AV->Prop}(h:jI P f xs9 R)(hR:∀ x y,R x y->x=xs9'/\y=r):FnSpec P f xs9 xs9' r :=
 ⟨h.ok,fun w L vs h1 h2 h3=>(h.calls w L vs h1 h2 h3).mono fun e w' ⟨v,L',x,y,he,Hu,hB⟩=>by
  obtain⟨rfl,rfl⟩:=hR x y Hu
  exact⟨v,L',he,hB⟩⟩
theorem FnSpec.toE{f:Nat}{xs9':List AV}{r:AV}(h:FnSpec P f xs9 xs9' r):jI P f xs9 fun x y=>x=xs9'/\y=r :=
 ⟨h.ok,fun w L vs h1 h2 h3=>(h.calls w L vs h1 h2 h3).mono fun e w' ⟨v,L',he,hB⟩=>⟨v,L',_,_,he,⟨rfl,rfl⟩,hB⟩⟩
theorem jI.enter(M:Nat->Bool){f:Nat}{fn:Func}{c:Code}{eR:List ResultVar}{xs9:List AV}{R:List AV->AV->Prop}(hf:S.P.funcs[f]?=some fn)(hb:fn.body=some c)(j3:(fn.name == "runtime.NumGoroutine")=false)(hr:fn.results=eR.toArray)(hN:fn.ntmps=N)
  (hlen:Nat.ble xs9.length N=true) (Hv:uM (eR.map ResultVar.slot)=true) (hge:(eR.map ResultVar.slot).all (fun t=>Nat.ble xs9.length t)=true)
  (hm:∀ i,M i=true->i<xs9.length) (h:∀ v0,CW (S.vZ M v0) N c (fun e bx=>∃ xs9' r,R xs9' r/\Ret (S.vZ M v0) eR xs9 xs9' r e bx) (jc (qY 0 xs9))):jI S.P f xs9 R:=by
 have abe:xs9.length<=N:=ah3 hlen;refine⟨⟨fn,hf,j3,by rw [hb];rfl⟩,fun w L vs Fb b7 yy=>?_⟩;refine calls_of_wp hf hb ?_;rw [List.size_toArray,Fb,hN];have h:=h fun i=>vs.getD i undef;unfold CW at h;have Dx:(vs.toArray++Array.replicate (N-xs9.length) undef).size=N:=by simp [Fb];omega
 have qZ:∀ i v,vs[i]?=some v->(vs.toArray++Array.replicate (N-xs9.length) undef).getD i undef=v:=fun i v hv=>by
  have hi:i<vs.length:=(aho.1 hv).1;rw [ahA,Array.getElem?_append_left (by simpa using hi)];simp [hv]
 refine h w L _ _ w ⟨fun e bx a' w' oF hR=>?_,fun ch a' w' hd=>by obtain⟨_,_,hx,_⟩:=hd.dies;exact hx.elim⟩ ⟨L,rfl,Dx,⟨rfl,rfl,rfl,ahr _,fun _ _ _=>rfl⟩,⟨b7.lt,b7.inj,fun b p hb hp=>?_,fun b p _ hb=>⟨p,hb⟩,fun b _=>Iff.rfl,b7.new⟩,fun n hn=>?_,fun n hn=>?_,fun i hi=>?_,b7.glob⟩
 ·obtain⟨xs9',r,WO,WQ,⟨rs,Py,hle⟩,Bo,has⟩:=oF
  suffices NP:bodyPost S.P fn _ .ret a' w' by
   cases e with
   | ret=>exact NP
   | normal=>exact NP
   | _=>cases WQ
  clear WQ;obtain⟨L',hR⟩:=hR;obtain⟨Dy,XJ⟩:=qX Py
  obtain⟨us,SG,E9⟩:=vX (R:=fun k y v=>∃ rv,eR[k]?=some rv/\(mB a'.tmps rv).run S.P w'=.ok v w'/\Rep L' w' (some [ResultVar.slot rv]) y v) rs 0 (fun k y hy=>by
   have hk:k<eR.length:=by rw [<- Dy];exact(aho.1 hy).1
   obtain⟨v,h1,h2⟩:=Du hR (XJ k eR[k] y (ahn hk) hy)
   exact⟨v,eR[k],by rw [ahR];exact ahn hk,h1,h2⟩)
  have aD:(results fn a'.tmps).run S.P w'=.ok (yu us) w':=yw hr (by rw [SG,Dy]) fun k rv v hk hv=>by
   have hkr:k<rs.length:=by rw [Dy];exact(aho.1 hk).1
   obtain⟨rv',h1,h2,_⟩:=E9 k rs[k] v (ahn hkr) hv;rw [ahR,hk] at h1;injection h1 with h1
   subst h1;exact h2
  refine⟨hR.defers,yu us,aD,yu us,cG (Fa xs9.length (Nat.beq eR.length 1) (eR.map ResultVar.slot)) L',xs9',r,rfl,WO,hR.keep,hR.lok.cG Pw (Ll fun hs=>by simpa using ahz hs),fun b p hb=>?_,fun i x u hx hu=>?_,?_⟩
  ·obtain⟨t,q,p',h1,h2,rfl⟩:=je hb;unfold Fa at h2
   cases Fc:Nat.blt t xs9.length with
   | true =>
    rw [Fc,cond_true] at h2;injection h2 with h2;subst h2
    have:t<xs9.length:=by simp [Nat.blt] at Fc;omega
    exact⟨t,q,rfl,ae⟩
   | false =>
    rw [Fc,cond_false,ahs] at h2;obtain⟨k,_,rfl⟩:=h2
    cases Nat.beq eR.length 1 with
    | true=>exact⟨xs9.length,q,rfl,ahr _⟩
    | false=>exact⟨xs9.length,k::q,rfl,ahr _⟩
  ·have hi:i<xs9.length:=by rw [<- Bo];exact(aho.1 hx).1
   have XK:Fa xs9.length (Nat.beq eR.length 1) (eR.map ResultVar.slot) i=some [i]:=by
    unfold Fa;have:Nat.blt i xs9.length=true:=by simp [Nat.blt];omega
    rw [this,cond_true]
   rcases has i xs9[i] x (ahn hi) hx with⟨ho,rfl⟩|⟨him,hg|rfl⟩
   ·
    have h0:=(yy i xs9[i] u (ahn hi) hu).replace (mv:=none) ho;have h1:Rep (cG (Fa xs9.length (Nat.beq eR.length 1) (eR.map ResultVar.slot)) L') w' none xs9[i] u:=by
     refine Rep.frame hR.keep.size hR.keep.os hR.keep.tape hR.keep.output (fun b hb aA=>?_) h0 none (fun p hp=>by cases hp);refine⟨?_,hR.keep.block b aA (fun p hp=>by rw [hb] at hp;cases hp)⟩
     cases fS:L' b with
     | sh=>exact qW fS
     | fo=>have:=(hR.lok.fo b aA).1 fS;rw [hb] at this;cases this
     | my p=>obtain⟨q,hq⟩:=hR.lok.old b p aA fS;rw [hb] at hq;cases hq
    exact h1.any _
   ·have hiN:i<N:=ae;have hh:=hR.hold i hiN;rw [hg] at hh;simp only [Hold] at hh;have XL:=hR.fix i him;have hui:vs.getD i undef=u:=by simp [ahK,hu]
    have:a'.tmps.getD i undef=u:=XL.trans hui;rw [this] at hh;refine Rep.frame (ahr _) rfl rfl rfl (fun b hb _=>⟨qW hb,rfl⟩) hh _ fun p hp=>?_;cases hp;exact⟨[i],rfl,fun b q hb=>⟨yp hb XK,rfl⟩⟩
   ·exact .dead
  ·refine Rep.le hle ?_;have XM:=ahM.1 hge;have Fc:∀ k rv,eR[k]?=some rv->Fa xs9.length (Nat.beq eR.length 1) (eR.map ResultVar.slot) (ResultVar.slot rv)=some (bif Nat.beq eR.length 1 then [xs9.length] else [xs9.length,k]):=fun k rv hk=>by
    have hm:(eR.map ResultVar.slot)[k]?=some (ResultVar.slot rv):=by rw [ahE,hk];rfl
    have:=XM _ (ahH hm);unfold Fa;have hb:Nat.blt (ResultVar.slot rv) xs9.length=false:=by
     have:=ah3 this;rw [<- Bool.not_eq_true];intro hc;simp [Nat.blt] at hc;omega
    rw [hb,cond_false,Hp Hv hm];rfl
   have key:∀ k y v,rs[k]?=some y->us[k]?=some v->Rep (cG (Fa xs9.length (Nat.beq eR.length 1) (eR.map ResultVar.slot)) L') w' (some (bif Nat.beq eR.length 1 then [xs9.length] else [xs9.length,k])) y v:=fun k y v hy hv=>by
    obtain⟨rv,h1,_,h3⟩:=E9 k y v hy hv;rw [ahR] at h1;refine Rep.frame (ahr _) rfl rfl rfl (fun b hb _=>⟨qW hb,rfl⟩) h3 _ fun p hp=>?_;cases hp;exact⟨_,rfl,fun b q hb=>⟨yp hb (Fc k rv h1),rfl⟩⟩
   match adk:rs,us,SG with
   | [],[],_=>exact .tup rfl (fun i x v h=>by simp at h)
   | [y],[v],_ =>
    have h1:Nat.beq eR.length 1=true:=by rw [<- Dy];rfl
    have:=key 0 y v ag ag;rw [show(bif Nat.beq eR.length 1 then [xs9.length] else [xs9.length,0])=[xs9.length] from by rw [h1];rfl] at this;exact this
   | y::y'::ys,v::v'::us',SG =>
    have h1:Nat.beq eR.length 1=false:=by rw [<- Dy];exact au ag
    refine .tup SG fun k x u hx hu=>?_;have:=key k x u (by simpa using hx) (by simpa using hu);rw [show(bif Nat.beq eR.length 1 then [xs9.length] else [xs9.length,k])=[xs9.length,k] from by rw [h1];rfl] at this;exact this
 ·subst hp;obtain⟨i,q,h,_⟩:=b7.head b [] hb;cases h
 ·rw [oE xs9 0 n,if_pos (ahQ _),Nat.sub_zero]
  cases hx:xs9[n]? with
  | none=>trivial
  | some x =>
   have Bd:n<vs.length:=by rw [Fb];exact(aho.1 hx).1
   simp only [Hold];rw [qZ n vs[n] (ahn Bd)];exact yy n x _ hx (ahn Bd)
 ·rw [oE xs9 0 n,if_pos (ahQ _),Nat.sub_zero,List.getElem?_eq_none ae]
 ·have TL:i<xs9.length:=hm i hi;have ez:i<vs.length:=ae;rw [qZ i vs[i] (ahn ez)];show vs[i]=vs.getD i undef;simp [ahK,ez]
theorem FnSpec.enter (m:Nat) {f:Nat} {fn:Func} {c:Code} {eR:List ResultVar} {xs9 xs9':List AV} {r:AV} (hf:S.P.funcs[f]?=some fn) (hb:fn.body=some c) (j3:(fn.name == "runtime.NumGoroutine")=false) (hr:fn.results=eR.toArray) (hN:fn.ntmps=N)
  (hlen:Nat.ble xs9.length N=true) (Hv:uM (eR.map ResultVar.slot)=true) (hge:(eR.map ResultVar.slot).all (fun t=>Nat.ble xs9.length t)=true)
  (hm:Nat.ble m xs9.length=true) (h:∀ v0,CW (S.fixed m v0) N c (Ret (S.fixed m v0) eR xs9 xs9' r) (jc (qY 0 xs9))):FnSpec S.P f xs9 xs9' r :=
 (jI.enter (R:=fun x y=>x=xs9'/\y=r) (fun i=>Nat.blt i m) hf hb j3 hr hN hlen Hv hge (fun i hi=>by
  have:=ah3 hm
  simp [Nat.blt] at hi;omega) fun v0=>(h v0).mono fun e bx oF=>⟨_,_,⟨rfl,rfl⟩,oF⟩).toFn fun _ _ h=>h
end
end FM
