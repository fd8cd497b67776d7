/- An abstract machine over the kit's rules, part 4: lists of operations, code, loops, functions and calls. -/
import Derived.Test.YtkkcnppgcnmikaaGreatDoorAad
namespace FM
open Go Go.RowKit
def dstOk(S:Sys)(N:Nat)(l:List Oper):Bool:=l.all fun o=>match o.dst with
 | some d=>Nat.blt d N&&!S.M d
 | none=>true
theorem dstOk_cons{S:Sys}{N:Nat}{o:Oper}{l:List Oper}(h:dstOk S N (o::l)=true):(∀ d:Nat,o.dst=some d→DOk S N d)∧dstOk S N l=true:=by
 simp only [dstOk,List.all_cons,Bool.and_eq_true] at h
 refine⟨fun d hd=>?_,h.2⟩
 have:=h.1
 rw [hd] at this
 simp [Nat.blt] at this
 exact⟨by omega,by simpa using this.2⟩
def Jseq(S:Sys)(N:Nat)(ops:Array Oper)(l:List Oper)(K:St→Prop)(σ:St):Prop :=
 dstOk S N l=true→∀ (w0:World) (L0:Nat→Lab) (Q:Exit→Act→World→Prop) (a:Act) (w:World),
  OutJ S N w0 L0 K Q→Rel S w0 L0 N σ a w→wpList S.P ops Q l a w
def Jq(S:Sys)(N:Nat)(ops:Array Oper)(l:List Oper)(K:St→Prop)(σ:St):Prop :=
 dstOk S N l=true→∀ (w0:World) (L0:Nat→Lab) (Q:Act→Prop) (a:Act) (w:World),
  (∀ σ' a',K σ'→Rel S w0 L0 N σ' a' w→Q a')→Rel S w0 L0 N σ a w→wpQuiet S.P ops (Ext w) Q l a
@[irreducible] def J (q:Bool) (S:Sys) (N:Nat) (ops:Array Oper) (l:List Oper) (K:St→Prop) (σ:St):Prop :=
 match q with
 | true=>Jq S N ops l K σ
 | false=>Jseq S N ops l K σ
def live(ops:Array Oper)(g:Option (Nat×Bool))(σ:St):Option Bool :=
 match g with
 | none=>some true
 | some (j,b)=>match (ops[j]?).bind (·.dst) with
  | some t=>match get σ t with
   | .av (.bool c)=>some (match c,b with|true,true=>true|false,false=>true|_,_=>false)
   | _=>none
  | none=>none
section
variable {S:Sys} {N:Nat} {ops:Array Oper} {l:List Oper} {K:St→Prop} {σ σ':St} {o:Oper} {q:Bool}
theorem tmps_get{a:Act}{t:Nat}{b:Bool}(h:a.tmps.getD t undef=.bool b):a.tmps[t]?=some (.bool b):=by
 rw [Array.getD_eq_getD_getElem?] at h
 cases ht:a.tmps[t]? with
 | none=>rw [ht] at h;cases h
 | some v=>rw [ht] at h;simp at h;rw [h]
theorem live_wanted{b:Bool}(hg:live ops o.guard σ=some b){w0:World}{L0:Nat→Lab}{a:Act}{w:World}(h:Rel S w0 L0 N σ a w):Region.wanted o (yielded ops a.tmps)=b:=by
 obtain⟨L,h⟩:=h
 unfold live at hg
 unfold Region.wanted
 cases hgd:o.guard with
 | none=>rw [hgd] at hg;simp only [Option.some.injEq] at hg;exact hg
 | some jb =>
  obtain⟨j,c⟩:=jb
  rw [hgd] at hg
  simp only at hg ⊢
  cases ht:(ops[j]?).bind (·.dst) with
  | none=>rw [ht] at hg;cases hg
  | some t =>
   rw [ht] at hg
   simp only at hg
   have hbool:∀ e,get σ t=.av (.bool e)→yielded ops a.tmps j=some e:=fun e he=>by
    have hh:=h.hold t (own_lt h he (by simp))
    rw [he] at hh
    have:a.tmps.getD t undef=.bool e:=by generalize a.tmps.getD t undef=v at hh;cases hh;rfl
    simp only [yielded,ht,Option.bind_some,tmps_get this]
   split at hg
   ·rename_i e he
    rw [hbool e he]
    revert hg
    cases e<;>cases c<;>simp
   ·cases hg
theorem J.nil(h:K σ):J q S N ops [] K σ:=by
 unfold J
 cases q with
 | true=>exact fun _ w0 L0 Q a w hQ hR=>hQ σ a h hR
 | false=>exact fun _ w0 L0 Q a w hQ hR=>hQ σ a w h hR
theorem J.step(hg:live ops o.guard σ=some true)(hs:Step S o σ σ')(h:J q S N ops l K σ'):J q S N ops (o::l) K σ:=by
 unfold J at *
 cases q with
 | true =>
  intro hd w0 L0 Q a w hQ hR
  obtain⟨h1,h2⟩:=dstOk_cons hd
  obtain⟨v,hv,hR'⟩:=hs w0 L0 N a w h1 hR
  have:=h h2 w0 L0 Q (a.put o.dst v) w hQ hR'
  simp only [wpQuiet,live_wanted hg hR,if_true]
  refine⟨v,fun w' hw'=>?_,this⟩
  unfold Oper.quietAt
  rw [hv w' hw']
  exact⟨rfl,rfl⟩
 | false =>
  intro hd w0 L0 Q a w hQ hR
  obtain⟨h1,h2⟩:=dstOk_cons hd
  obtain⟨v,hv,hR'⟩:=hs w0 L0 N a w h1 hR
  have:=h h2 w0 L0 Q (a.put o.dst v) w hQ hR'
  simp only [wpList,live_wanted hg hR,if_true]
  refine .inl ?_
  unfold Oper.wp
  rw [hv w (Ext.refl w)]
  exact this
theorem J.skip{d:Nat}(hg:live ops o.guard σ=some false)(hd:o.dst=some d)(h:J q S N ops l K (σ.put d .none)):J q S N ops (o::l) K σ:=by
 unfold J at *
 have put:∀ {w0:World} {L0:Nat→Lab} {a:Act} {w:World},DOk S N d→Rel S w0 L0 N σ a w→Rel S w0 L0 N (σ.put d .none) (a.put o.dst undef) w:=fun hlt ⟨L,hR⟩=>⟨_,by rw [hd];exact hR.put hlt trivial⟩
 cases q with
 | true =>
  intro hdo w0 L0 Q a w hQ hR
  obtain⟨h1,h2⟩:=dstOk_cons hdo
  simp only [wpQuiet,live_wanted hg hR,Bool.false_eq_true,if_false]
  exact h h2 w0 L0 Q _ w hQ (put (h1 d hd) hR)
 | false =>
  intro hdo w0 L0 Q a w hQ hR
  obtain⟨h1,h2⟩:=dstOk_cons hdo
  simp only [wpList,live_wanted hg hR,Bool.false_eq_true,if_false]
  exact h h2 w0 L0 Q _ w hQ (put (h1 d hd) hR)
theorem J.split{t:Nat}{b:Bool}(ht:get σ t=.av (.bool b))(h1:b=true→∀ σ':St,σ'=σ.upd true t (.av (.bool true))→J q S N ops (o::l) K σ')(h2:b=false→∀ σ':St,σ'=σ.upd true t (.av (.bool false))→J q S N ops (o::l) K σ'):J q S N ops (o::l) K σ:=by
 have know:∀ {w0:World} {L0:Nat→Lab} {a:Act} {w:World} (c:Bool),b=c→Rel S w0 L0 N σ a w→Rel S w0 L0 N (σ.upd true t (.av (.bool c))) a w:=by
  intro w0 L0 a w c hc ⟨L,hR⟩
  refine⟨L,hR.defers,hR.size,hR.keep,hR.lok,fun n hn=>?_,fun n hn=>?_,hR.fix,hR.glob⟩
  ·simp only [get]
   by_cases htn:t=n
   ·subst htn
    rw [Nat.beq_refl,cond_true,←hc,←ht]
    exact hR.hold t hn
   ·rw [not_beq htn,cond_false]
    have hh:=hR.hold n hn
    generalize hg:get σ n=tv at hh
    cases tv<;>simp only [TV.stale]<;>first
     | exact hh
     | trivial
     | (rename_i s _;cases hs:Nat.beq s t with
       | true=>trivial
       | false=>exact hh)
     | (rename_i s _ _;cases hs:Nat.beq s t with
       | true =>
        first
         | (obtain⟨b',h1,h2,_⟩:=hh;exact⟨b',h1,h2,fun h=>absurd rfl h⟩)
       | false=>exact hh)
     | (rename_i s _ _ _;cases hs:Nat.beq s t with
       | true =>
        obtain⟨b',h1,h2,_⟩:=hh;exact⟨b',h1,h2,fun h=>absurd rfl h⟩
       | false=>exact hh)
  ·simp only [get]
   by_cases htn:t=n
   ·have:=own_lt hR ht (by simp);omega
   ·rw [not_beq htn,cond_false,hR.out n hn];rfl
 unfold J at *
 cases q with
 | true =>
  intro hd w0 L0 Q a w hQ hR
  cases hb:b with
  | true=>exact h1 hb _ rfl hd w0 L0 Q a w hQ (know true hb hR)
  | false=>exact h2 hb _ rfl hd w0 L0 Q a w hQ (know false hb hR)
 | false =>
  intro hd w0 L0 Q a w hQ hR
  cases hb:b with
  | true=>exact h1 hb _ rfl hd w0 L0 Q a w hQ (know true hb hR)
  | false=>exact h2 hb _ rfl hd w0 L0 Q a w hQ (know false hb hR)
end
/-! ### code -/
@[irreducible] def CW (S:Sys) (N:Nat) (c:Code) (Q:Exit→St→Prop) (σ:St):Prop :=
 ∀ (w0:World) (L0:Nat→Lab) (Q':Exit→Act→World→Prop) (a:Act) (w:World),
  OutC S N w0 L0 Q Q'→Rel S w0 L0 N σ a w→c.wp S.P Q' a w
def thenQ(K:St→Prop)(Q:Exit→St→Prop):Exit→St→Prop
 | .normal,σ=>K σ
 | e,σ=>Q e σ
def blockQ(id:Nat)(Q:Exit→St→Prop):Exit→St→Prop
 | .exit i,σ=>bif Nat.beq i id then Q .normal σ else Q (.exit i) σ
 | e,σ=>Q e σ
section
variable {S:Sys} {N:Nat} {Q:Exit→St→Prop} {σ:St}
theorem CW.seq{x y:Code}(h:CW S N x (thenQ (CW S N y Q) Q) σ):CW S N (.seq x y) Q σ:=by
 unfold CW at h ⊢
 intro w0 L0 Q' a w hQ hR
 refine wp_seq (h w0 L0 _ a w ⟨fun e σ' a' w' he hR'=>?_,fun ch a' w' hd=>hQ.die ch a' w' hd⟩ hR)
 cases e<;>simp only [thenQ] at he<;>simp only [Exit.then]
 case normal=>exact he w0 L0 Q' a' w' hQ hR'
 all_goals exact hQ _ σ' a' w' he hR'
theorem CW.skip(h:Q .normal σ):CW S N .skip Q σ:=by
 unfold CW
 exact fun w0 L0 Q' a w hQ hR=>wp_skip (hQ _ _ _ _ h hR)
theorem CW.ret(h:Q .ret σ):CW S N .ret Q σ:=by
 unfold CW
 exact fun w0 L0 Q' a w hQ hR=>wp_ret (hQ _ _ _ _ h hR)
theorem CW.exit{id:Nat}(h:Q (.exit id) σ):CW S N (.exit id) Q σ:=by
 unfold CW
 exact fun w0 L0 Q' a w hQ hR=>wp_exit (hQ _ _ _ _ h hR)
theorem CW.block{id:Nat}{c:Code}(h:CW S N c (blockQ id Q) σ):CW S N (.block id c) Q σ:=by
 unfold CW at *
 intro w0 L0 Q' a w hQ hR
 refine wp_block (h w0 L0 _ a w ⟨fun e σ' a' w' he hR'=>?_,fun ch a' w' hd=>hQ.die ch a' w' hd⟩ hR)
 cases e<;>simp only [blockQ] at he<;>simp only [Exit.inBlock]
 case exit i =>
  cases hi:Nat.beq i id with
  | true=>rw [hi,cond_true] at he;rw [if_pos (Nat.eq_of_beq_eq_true hi)];exact hQ _ _ _ _ he hR'
  | false=>rw [hi,cond_false] at he;rw [if_neg (of_not_beq hi)];exact hQ _ _ _ _ he hR'
 all_goals exact hQ _ _ _ _ he hR'
theorem eval_bool{t:Operand}{b:Bool}(ht:ov σ t=.av (.bool b)){w0:World}{L0:Nat→Lab}{a:Act}{w:World}(hR:Rel S w0 L0 N σ a w):a.eval t=.bool b:=by
 obtain⟨L,hR⟩:=hR
 exact ev_bool hR ht
theorem CW.condT{t:Operand}{x y:Code}(ht:ov σ t=.av (.bool true))(h:CW S N x Q σ):CW S N (.cond t x y) Q σ:=by
 unfold CW at *
 exact fun w0 L0 Q' a w hQ hR=>wp_cond_true (eval_bool ht hR) (h w0 L0 Q' a w hQ hR)
theorem CW.condF{t:Operand}{x y:Code}(ht:ov σ t=.av (.bool false))(h:CW S N y Q σ):CW S N (.cond t x y) Q σ:=by
 unfold CW at *
 exact fun w0 L0 Q' a w hQ hR=>wp_cond_false (eval_bool ht hR) (h w0 L0 Q' a w hQ hR)
theorem CW.cond{t:Operand}{x y:Code}{b:Bool}(ht:ov σ t=.av (.bool b))(h1:b=true→CW S N x Q σ)(h2:b=false→CW S N y Q σ):CW S N (.cond t x y) Q σ:=by
 cases b with
 | true=>exact .condT ht (h1 rfl)
 | false=>exact .condF ht (h2 rfl)
theorem CW.condD{t:Operand}{x y:Code}{p:Prop}{inst:Decidable p}(ht:ov σ t=.av (.bool (decide p)))(h1:p→CW S N x Q σ)(h2:¬ p→CW S N y Q σ):CW S N (.cond t x y) Q σ :=
 .cond ht (fun h=>h1 (of_decide_eq_true h)) (fun h=>h2 (of_decide_eq_false h))
theorem J.splitD{q:Bool}{ops:Array Oper}{l:List Oper}{K:St→Prop}{o:Oper}{t:Nat}{p:Prop}{inst:Decidable p}(ht:get σ t=.av (.bool (decide p)))(h1:p→∀ σ':St,σ'=σ.upd true t (.av (.bool true))→J q S N ops (o::l) K σ')
  (h2:¬ p→∀ σ':St,σ'=σ.upd true t (.av (.bool false))→J q S N ops (o::l) K σ'):J q S N ops (o::l) K σ :=
 .split ht (fun h=>h1 (of_decide_eq_true h)) (fun h=>h2 (of_decide_eq_false h))
theorem CW.reg{id:Nat}{l:List Oper}(hd:dstOk S N l=true)(h:J false S N l.toArray l (Q .normal) σ):CW S N (.region id l.toArray false) Q σ:=by
 unfold CW
 unfold J at h
 exact fun w0 L0 Q' a w hQ hR=>wp_region_lit (h hd w0 L0 Q' a w ⟨fun σ' a' w' hK hR'=>hQ _ _ _ _ hK hR',hQ.die⟩ hR)
theorem CW.regQ{id:Nat}{l:List Oper}(hB:Region.lexB .any l.toArray=true)(hd:dstOk S N l=true)(h:J true S N l.toArray l (Q .normal) σ):CW S N (.region id l.toArray true) Q σ:=by
 unfold CW
 unfold J at h
 intro w0 L0 Q' a w hQ hR
 refine wp_region_quiet (C:=Ext w) S.mixed hB ⟨rfl,rfl,rfl,Nat.le_refl _,fun _ _=>rfl⟩ ?_
 exact h hd w0 L0 _ a w (fun σ' a' hK hR' w' hw'=>hQ _ _ _ _ hK (hR'.ext hw')) hR
def Has(σ:St):List (Nat×TV)→Prop
 | []=>True
 | (n,tv)::r=>get σ n=tv∧Has σ r
def ofL:List (Nat×TV)→St
 | []=>.nil
 | (n,tv)::r=>.put n tv (ofL r)
theorem Rel.weaken{σ':St}(hw:∀ n,get σ' n=get σ n∨get σ' n=.none){w0:World}{L0:Nat→Lab}{a:Act}{w:World}(h:Rel S w0 L0 N σ a w):Rel S w0 L0 N σ' a w:=by
 obtain⟨L,hR⟩:=h
 refine⟨L,hR.defers,hR.size,hR.keep,hR.lok,fun n hn=>?_,fun n hn=>?_,hR.fix,hR.glob⟩
 ·rcases hw n with h|h
  ·rw [h];exact hR.hold n hn
  ·rw [h];trivial
 ·rcases hw n with h|h
  ·rw [h];exact hR.out n hn
  ·exact h
theorem CW.weaken{c:Code}{σ':St}(hw:∀ n,get σ' n=get σ n∨get σ' n=.none)(h:CW S N c Q σ'):CW S N c Q σ:=by
 unfold CW at *
 intro w0 L0 Q' a w hQ ⟨L,hR⟩
 refine h w0 L0 Q' a w hQ ⟨L,hR.defers,hR.size,hR.keep,hR.lok,fun n hn=>?_,fun n hn=>?_,hR.fix,hR.glob⟩
 ·rcases hw n with h|h
  ·rw [h];exact hR.hold n hn
  ·rw [h];trivial
 ·rcases hw n with h|h
  ·rw [h];exact hR.out n hn
  ·exact h
theorem has_weaken:∀ {I:List (Nat×TV)},Has σ I→∀ n,get (ofL I) n=get σ n∨get (ofL I) n=.none
 | [],_,n=>.inr rfl
 | (m,tv)::r,h,n=>by
  simp only [ofL,get,kill_eq]
  by_cases hmn:m=n
  ·subst hmn;rw [Nat.beq_refl,cond_true];exact .inl h.1.symm
  ·rw [not_beq hmn,cond_false]
   cases hd:(get (ofL r) n).dep m with
   | true=>exact .inr rfl
   | false=>rw [cond_false];exact has_weaken h.2 n
theorem CW.has{c:Code}(I:List (Nat×TV))(hI:Has σ I)(h:CW S N c Q (ofL I)):CW S N c Q σ:=.weaken (has_weaken hI) h
theorem CW.mono{c:Code}{Q':Exit→St→Prop}(h:CW S N c Q σ)(hq:∀ e σ',Q e σ'→Q' e σ'):CW S N c Q' σ:=by
 unfold CW at *
 exact fun w0 L0 Q'' a w hQ hR=>h w0 L0 Q'' a w ⟨fun e σ' a' w' he=>hQ e σ' a' w' (hq e σ' he),hQ.die⟩ hR
theorem CW.loop{ι:Type}(I:ι→List (Nat×TV))(pre:ι→Prop)(μ:ι→Nat){c:Code}(i0:ι)(hp:pre i0)(h0:Has σ (I i0))
  (round:∀ i,pre i→CW S N c (thenQ (fun σ'=>∃ j,pre j∧μ j<μ i∧Has σ' (I j)) Q) (ofL (I i))):CW S N (.loop c) Q σ:=by
 unfold CW at *
 intro w0 L0 Q' a w hQ hR
 have weak:∀ {σ:St} {J:List (Nat×TV)} {a:Act} {w:World},Has σ J→Rel S w0 L0 N σ a w→Rel S w0 L0 N (ofL J) a w:=fun{σ J a w} hJ ⟨L,hR⟩ =>
  ⟨L,hR.defers,hR.size,hR.keep,hR.lok,fun n hn=>by
   rcases has_weaken hJ n with h|h
   ·rw [h];exact hR.hold n hn
   ·rw [h];trivial,fun n hn=>by
   rcases has_weaken hJ n with h|h
   ·rw [h];exact hR.out n hn
   ·exact h,hR.fix,hR.glob⟩
 intro b k cs
 have key:∀ n i,μ i=n→pre i→∀ a w,Rel S w0 L0 N (ofL (I i)) a w →
   ∃ e a' w',Q' e a' w'∧Arrives S.P (lone (b.at a (.code c::.inLoop c::k)) cs w) b k cs e a' w':=by
  intro n
  induction n using Nat.strongRecOn with
  | _ n ih =>
   intro i hi hpre a w hR
   obtain⟨e,a',w',hq,harr⟩:=round i hpre w0 L0 (fun e a' w'=>match e with
    | .normal=>∃ j,pre j∧μ j<μ i∧Rel S w0 L0 N (ofL (I j)) a' w'
    | e=>Q' e a' w') a w ⟨fun e σ' a' w' he hR'=>by
    cases e<;>simp only [thenQ] at he
    case normal =>
     obtain⟨j,hj,hlt,hhas⟩:=he
     exact⟨j,hj,hlt,weak hhas hR'⟩
    all_goals exact hQ _ _ _ _ he hR',fun ch a' w' hd=>hQ.die ch a' w' hd⟩ hR b (.inLoop c::k) cs
   cases e with
   | normal =>
    obtain⟨j,hj,hlt,hR'⟩:=hq
    obtain⟨e2,a2,w2,hq2,harr2⟩:=ih (μ j) (hi▸hlt) j rfl hj a' w' hR'
    exact⟨e2,a2,w2,hq2,.of_steps (Steps.trans harr (.one step_inLoop)) harr2⟩
   | exit id=>exact⟨_,a',w',hq,.pass (x:=.inLoop c) rfl (fun _ _=>.inl (by simp)) harr⟩
   | goto l=>exact⟨_,a',w',hq,.pass (x:=.inLoop c) rfl (fun _ _=>.inl (by simp)) harr⟩
   | ret=>exact⟨_,a',w',hq,.pass (x:=.inLoop c) rfl (fun _ _=>.inl (by simp)) harr⟩
   | panic ch=>exact⟨_,a',w',hq,.pass (x:=.inLoop c) rfl (fun _ _=>.inl (by simp)) harr⟩
   | outgrown=>exact⟨_,a',w',hq,.pass (x:=.inLoop c) rfl (fun _ _=>.inl (by simp)) harr⟩
 obtain⟨e,a',w',hq,harr⟩:=key _ i0 rfl hp a w (weak h0 hR)
 exact⟨e,a',w',hq,.of_steps (.one step_loop) harr⟩
end
end FM
