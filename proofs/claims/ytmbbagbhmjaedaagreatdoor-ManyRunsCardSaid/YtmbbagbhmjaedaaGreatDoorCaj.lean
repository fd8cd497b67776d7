/- Part of the proof. -/
import Derived.Test.YtmbbagbhmjaedaaGreatDoorCai
set_option linter.all false
namespace FM
open Go Go.RowKit
variable {s i:Nat}
section
variable {S:Sys} {N:Nat} {σ:St}
def eX(s i t0:Nat)(p:List Nat):Option (List Nat) :=
 match strip [t0] p with
 | some q=>some (s::i::q)
 | none=>match strip [s,i] p with
  | some _=>none
  | none=>match p with
   | []=>none
   | a::q=>some (a::q)
theorem jL{s i t0:Nat}{p r:List Nat}(h:eX s i t0 p=some r):(∃ q,p=t0::q/\r=s::i::q)∨(p=r/\r≠[]/\strip [t0] p=none/\strip [s,i] p=none):=by
 unfold eX at h
 cases h1:strip [t0] p with
 | some q=>rw [h1] at h;injection h with h;exact .inl ⟨q,dq.1 h1,h.symm⟩
 | none =>
  rw [h1] at h;simp only at h
  cases h2:strip [s,i] p with
  | some q=>rw [h2] at h;cases h
  | none =>
   rw [h2] at h
   cases p with
   | nil=>cases h
   | cons a q=>injection h with h;subst h;exact .inr ⟨rfl,ag,rfl,rfl⟩
theorem rB{t0:Nat}:TM (eX s i t0):=by
 refine⟨fun p p' r h h'=>?_,fun p h=>?_⟩
 ·rcases jL h with⟨q,e1,e2⟩|⟨e1,e2,e3,e4⟩<;>rcases jL h' with⟨q',oD,Bt⟩|⟨oD,Bt,HD,G9⟩
  ·rw [e2] at Bt;cases Bt;rw [e1,oD]
  ·subst oD;rw [e2] at G9;have:strip [s,i] (s::i::q)=some q:=dq.2 rfl;rw [this] at G9;cases G9
  ·subst e1;rw [Bt] at e4;have:strip [s,i] (s::i::q')=some q':=dq.2 rfl;rw [this] at e4;cases e4
  ·rw [e1,oD]
 ·rcases jL h with⟨q,e1,e2⟩|⟨e1,e2,_⟩
  ·cases e2
  ·exact e2 rfl
theorem dS{t0 a:Nat}{q:List Nat}(h1:t0≠a)(h2:strip [s,i] (a::q)=none):eX s i t0 (a::q)=some (a::q):=by
 unfold eX;have:strip [t0] (a::q)=none:=by simp only [strip,au h1,cond_false]
 rw [this,h2]
theorem tU.eC{L0 L:Nat->aO}{w0 w:World}(h:tU L0 w0 L w){φ:List Nat->Option (List Nat)}(Ff:TM φ):tU L0 w0 (FM.eC φ L) w where
 lt b p hb:=by obtain⟨p',h1,_⟩:=da hb;exact h.lt b _ h1
 inj b b' p hb bI:=by
  obtain⟨p1,h1,h2⟩:=da hb;obtain⟨p2,nj,kh⟩:=da bI;have:=Ff.inj _ _ _ h2 kh;subst this;exact h.inj _ _ _ h1 nj
 head b p hb:=by obtain⟨p',_,h2⟩:=da hb;intro e;subst e;exact Ff.ne _ h2
 old b p aA hb:=by obtain⟨p',h1,_⟩:=da hb;exact h.old b _ aA h1
 fo b hb:=nn.trans (h.fo b hb)
 new b hb hf:=h.new b hb (nn.1 hf)
theorem RelL.adB{w0:World}{L0:Nat->aO}{a:Act}{w:World}{L:Nat->aO}(hR:RelL S w0 L0 N σ a w L){t0:Nat}{r:AV}{xs:List AV}(hs:get σ s=.av (.sl true 1 xs))(DK:get σ t0=.av r)(NV:r.cells=[r])(cH:t0≠s)(hi:i<xs.length)
  (aH:∀ b,L b=.my [s]->w.cell? ⟨b,i,none⟩=some (a.tmps.getD t0 undef)):RelL S w0 L0 N ((σ.put t0 .none).upd false s (.av (.sl true 1 (xs.set i r)))) a w (eC (eX s i t0) L):=by
 have ja:=aJ hR hs ag;have HT:=aJ hR DK ag;have BB:∀ b,L b=.my [s]->eC (eX s i t0) L b=.my [s]:=fun b hb=>dG hb (dS cH (by simp [strip]));refine⟨hR.defers,hR.size,hR.keep,hR.lok.eC rB,fun n hn=>?_,fun n hn=>?_,hR.fix,hR.glob⟩
 ·simp only [get,aY];by_cases qy:s=n
  ·subst qy;rw [ahy,cond_true];have hh:=hR.hold s hn;rw [hs] at hh;have ht:=hR.hold t0 HT;rw [DK] at ht;simp only [Hold] at hh ht ⊢;generalize a.tmps.getD s undef=sv at hh
   cases hh with
   | slE h=>simp at hi
   | @slO p c xs b cap arr e u hL hb bK bc jF fW hr =>
    have hlen:(xs.set i r).length=xs.length:=ag;have NW:=aH b hL;rw [cell_of_row w b i arr e (0,0) hb] at NW;rw [<- hlen];refine .slO (fun o=>if o=i then a.tmps.getD t0 undef else u o) (BB b hL) hb (by rw [hlen];exact bK) bc (fun y hy=>?_) (fun o ho=>?_) (fun o y hy=>?_)
    ·rcases aiF hy with h|h
     ·exact jF y h
     ·rw [h,NV];rfl
    ·split
     ·rename_i e;subst e;exact NW
     ·rw [hlen] at ho;exact fW o ho
    ·rcases nt jF (by rw [NV];rfl) o y hy with⟨h1,h2,h3,h4⟩|⟨h1,h2⟩
     ·have ho:o=i:=ae;subst ho;rw [NV] at h4;simp only [Nat.mul_one,Nat.sub_self,ahq,ahp] at h4;subst h4;simp only [if_pos];refine Rep.frame (ahr _) rfl rfl rfl (fun k h1 _=>⟨eD h1,rfl⟩) ht _ fun p hp=>?_;cases hp;refine⟨_,rfl,fun k q hk=>⟨dG hk ?_,rfl⟩⟩;unfold eX;rw [dq.2 rfl];rfl
     ·have cr:o≠i:=ae;simp only [if_neg cr];refine Rep.frame (ahr _) rfl rfl rfl (fun k h1 _=>⟨eD h1,rfl⟩) (hr o y h2) _ fun p hp=>?_;cases hp;refine⟨_,rfl,fun k q hk=>⟨dG hk ?_,rfl⟩⟩;refine dS cH ?_;simp [strip,au (Ne.symm cr),ahy]
  ·rw [au qy,cond_false];by_cases Dr:t0=n
   ·subst Dr;rw [ahy,cond_true];trivial
   ·rw [au Dr,cond_false]
    cases hd:(get σ n).dep t0 with
    | true=>trivial
    | false =>
     rw [cond_false];have hh:=hR.hold n hn;have key:∀ tv:TV,tv.dep s=false->tv.dep t0=false->Hold L w a.tmps n tv (a.tmps.getD n undef)->Hold (eC (eX s i t0) L) w a.tmps n tv (a.tmps.getD n undef):=fun tv P0 P1 hh =>
      Hold.cG (good:=fun m=>m≠s/\m≠t0) (ahr _) rfl rfl rfl (fun k h1 _=>⟨eD h1,rfl⟩) (fun k m q h1 h2=>⟨dG h1 (dS (fun e=>h2.2 e.symm) (by simp only [strip,au (fun e=>h2.1 e.symm:s≠m),cond_false])),rfl⟩)
       (fun _ _=>rfl) ⟨fun e=>qy e.symm,fun e=>Dr e.symm⟩ (fun m hm=>⟨fun e=>(by subst e;rw [P0] at hm;cases hm),fun e=>(by subst e;rw [P1] at hm;cases hm)⟩) hh
     generalize get σ n=tv at hh hd
     cases tv with
     | none=>trivial
     | av x=>exact key _ rfl rfl hh
     | ref s'=>exact hh
     | rref s' q y =>
      simp only [TV.bk]
      cases bI:Nat.beq s' s with
      | false=>exact key _ bI hd hh
      | true=>trivial
     | ptr s' q c y =>
      simp only [TV.bk]
      cases bI:Nat.beq s' s with
      | false=>exact key _ bI hd hh
      | true =>
       have:=ahz bI;subst this;obtain⟨k,h1,h2,_⟩:=hh;exact⟨k,BB k h1,h2,fun h=>absurd rfl h⟩
     | fpt s' o y =>
      simp only [TV.bk]
      cases bI:Nat.beq s' s with
      | false=>exact key _ bI hd hh
      | true =>
       have:=ahz bI;subst this;obtain⟨k,h1,h2,_⟩:=hh;exact⟨k,BB k h1,h2,fun h=>absurd rfl h⟩
     | rptr s' q j y =>
      simp only [TV.bk]
      cases bI:Nat.beq s' s with
      | false=>exact key _ bI hd hh
      | true=>trivial
     | dptr x=>exact key _ rfl rfl hh
     | bdp s' x =>
      simp only [TV.bk]
      cases bI:Nat.beq s' s with
      | false=>exact key _ bI hd hh
      | true=>trivial
     | bor s' x =>
      simp only [TV.bk]
      cases bI:Nat.beq s' s with
      | false=>exact key _ bI hd hh
      | true=>trivial
     | clo f caps=>exact hh
 ·simp only [get,aY];rw [au (show s≠n by omega),cond_false,au (show t0≠n by omega),cond_false,hR.out n hn];rfl
theorem RelL.lD{w0:World}{L0:Nat->aO}{a:Act}{w:World}{L:Nat->aO}(hR:RelL S w0 L0 N σ a w L){d:Nat}{y:AV}{xs:List AV}(hs:get σ s=.av (.sl true 1 xs))(hd:get σ d=.rref s i y)(hy:y≠.dead)(c8:s≠d)(hi:i<xs.length):
  RelL S w0 L0 N ((σ.upd false s (.av (.sl true 1 (xs.set i .dead)))).put d (.av y)) a w (lZ [s,i] d L):=by
 have ja:=aJ hR hs ag;have Pr:=aJ hR hd ag;have BB:∀ b,L b=.my [s]->lZ [s,i] d L b=.my [s]:=fun b hb=>cC hb c8 (by simp [strip]);refine⟨hR.defers,hR.size,hR.keep,hR.lok.lZ _ _,fun n hn=>?_,fun n hn=>?_,hR.fix,hR.glob⟩
 ·simp only [get,aY];by_cases gP:d=n
  ·subst gP;rw [ahy,cond_true];have:=hR.hold d Pr;rw [hd] at this;obtain⟨b,h1,h2,h3⟩:=this;refine Rep.frame (ahr _) rfl rfl rfl (fun b h1 _=>⟨ew h1,rfl⟩) (h3 hy) _ fun p hp=>?_;cases hp;exact⟨[d],rfl,fun b q hb=>⟨qQ hb,rfl⟩⟩
  ·rw [au gP,cond_false];by_cases pv:s=n
   ·subst pv;rw [ahy,cond_true];simp only [TV.dep,cond_false];have hh:=hR.hold s hn;rw [hs] at hh;simp only [Hold] at hh ⊢;generalize a.tmps.getD s undef=sv at hh
    cases hh with
    | slE h=>simp at hi
    | @slO p c xs b cap arr e u hL hb bK bc jF fW hr =>
     have hlen:(xs.set i .dead).length=xs.length:=ag;rw [<- hlen];refine .slO u (BB b hL) hb (by rw [hlen];exact bK) bc (fun z hz=>?_) (fun o ho=>by rw [hlen] at ho;exact fW o ho) (fun o z hz=>?_)
     ·rcases aiF hz with h|h
      ·exact jF z h
      ·rw [h];rfl
     ·rcases nt (z:=.dead) jF rfl o z hz with⟨h1,h2,h3,h4⟩|⟨h1,h2⟩
      ·have ho:o-i*1=0:=ae;rw [ho] at h4;simp only [AV.cells,ahq,ahp] at h4;subst h4;exact .dead
      ·have cr:o≠i:=ae;refine Rep.frame (ahr _) rfl rfl rfl (fun k h1 _=>⟨ew h1,rfl⟩) (hr o z h2) _ fun p hp=>?_;cases hp;refine⟨_,rfl,fun k q hk=>⟨?_,rfl⟩⟩;exact cC (t:=s) (q:=o::q) hk c8 (by simp [strip,au (Ne.symm cr),ahy])
   ·rw [au pv,cond_false];have hh:=hR.hold n hn;have key:∀ tv:TV,tv.dep s=false->tv.dep d=false->Hold L w a.tmps n tv (a.tmps.getD n undef)->Hold (lZ [s,i] d L) w a.tmps n tv (a.tmps.getD n undef):=fun tv P0 P1 hh =>
     Hold.cG (good:=fun m=>m≠s/\m≠d) (ahr _) rfl rfl rfl (fun k h1 _=>⟨ew h1,rfl⟩) (fun k m q h1 h2=>⟨cC h1 h2.2 (by simp only [strip,au (fun e=>h2.1 e.symm:s≠m),cond_false]),rfl⟩)
      (fun _ _=>rfl) ⟨fun e=>pv e.symm,fun e=>gP e.symm⟩ (fun m hm=>⟨fun e=>(by subst e;rw [P0] at hm;cases hm),fun e=>(by subst e;rw [P1] at hm;cases hm)⟩) hh
    generalize get σ n=tv at hh
    cases tv with
    | none=>trivial
    | av x=>exact key _ rfl rfl hh
    | ref s' =>
     simp only [TV.bk,TV.dep];cases Nat.beq s' d<;>first|exact hh|trivial
    | rref s' q y =>
     simp only [TV.bk]
     cases bI:Nat.beq s' s with
     | true=>trivial
     | false =>
      simp only [cond_false,TV.dep]
      cases gT:Nat.beq s' d with
      | true=>trivial
      | false=>exact key _ bI gT hh
    | ptr s' q c y =>
     simp only [TV.bk]
     cases bI:Nat.beq s' s with
     | true =>
      have:=ahz bI;subst this;simp only [cond_true,TV.dep,au c8,cond_false];obtain⟨k,h1,h2,_⟩:=hh;exact⟨k,BB k h1,h2,fun h=>absurd rfl h⟩
     | false =>
      simp only [cond_false,TV.dep]
      cases gT:Nat.beq s' d with
      | true=>trivial
      | false=>exact key _ bI gT hh
    | fpt s' o y =>
     simp only [TV.bk]
     cases bI:Nat.beq s' s with
     | true =>
      have:=ahz bI;subst this;simp only [cond_true,TV.dep,au c8,cond_false];obtain⟨k,h1,h2,_⟩:=hh;exact⟨k,BB k h1,h2,fun h=>absurd rfl h⟩
     | false =>
      simp only [cond_false,TV.dep]
      cases gT:Nat.beq s' d with
      | true=>trivial
      | false=>exact key _ bI gT hh
    | rptr s' q j y =>
     simp only [TV.bk]
     cases bI:Nat.beq s' s with
     | true=>trivial
     | false =>
      simp only [cond_false,TV.dep]
      cases gT:Nat.beq s' d with
      | true=>trivial
      | false=>exact key _ bI gT hh
    | dptr x=>exact key _ rfl rfl hh
    | bdp s' x =>
     simp only [TV.bk]
     cases bI:Nat.beq s' s with
     | true=>trivial
     | false =>
      simp only [cond_false,TV.dep]
      cases gT:Nat.beq s' d with
      | true=>trivial
      | false=>exact key _ bI gT hh
    | bor s' x =>
     simp only [TV.bk]
     cases bI:Nat.beq s' s with
     | true=>trivial
     | false =>
      simp only [cond_false,TV.dep]
      cases gT:Nat.beq s' d with
      | true=>trivial
      | false=>exact key _ bI gT hh
    | clo f caps =>
     simp only [TV.bk,TV.dep];cases caps.any fun s=>Nat.beq s d<;>first|exact hh|trivial
 ·simp only [get,aY];rw [au (show d≠n by omega),cond_false,au (show s≠n by omega),cond_false,hR.out n hn];rfl
theorem J.lD{q:Bool}{ops:Array Oper}{l:List Oper}{K:St->Prop}{dd t s i:Nat}{y:AV}{xs:List AV}{x2:Operand}{ts:Array Nat}{ty:Nat}{pos:String}{aft:Array Edge}{g:Option (Nat×Bool)}(ht:get σ t=.rref s i y)(hs:get σ s=.av (.sl true 1 xs))(hy:y≠.dead)(cH:Nat.beq s t=false)(hi:i<xs.length)
  (h:J q S N ops (⟨some dd,.call ⟨.builtin .append,#[.tmp t,x2],ts⟩,ty,pos,aft,g⟩::l) K ((σ.upd false s (.av (.sl true 1 (xs.set i .dead)))).put t (.av y))):J q S N ops (⟨some dd,.call ⟨.builtin .append,#[.tmp t,x2],ts⟩,ty,pos,aft,g⟩::l) K σ:=by
 unfold J at *
 cases q with
 | true=>exact fun hd w0 L0 Q a w hQ ⟨L,hR⟩=>h hd w0 L0 Q a w hQ ⟨_,hR.lD hs ht hy (aC cH) hi⟩
 | false=>exact fun hd w0 L0 Q a w hQ ⟨L,hR⟩=>h hd w0 L0 Q a w hQ ⟨_,hR.lD hs ht hy (aC cH) hi⟩
theorem CW.NX{c:Code}{Q:Exit->St->Prop}(s:Nat){x y:AV}(hs:get σ s=.av x)(hle:AV.le x y)(h:CW S N c Q (σ.upd false s (.av y))):CW S N c Q σ:=by
 unfold CW at *;refine fun w0 L0 Q' a w hQ ⟨L,hR⟩=>h w0 L0 Q' a w hQ ⟨L,hR.defers,hR.size,hR.keep,hR.lok,fun n hn=>?_,fun n hn=>?_,hR.fix,hR.glob⟩
 ·simp only [get];by_cases qy:s=n
  ·subst qy;rw [ahy,cond_true];have:=hR.hold s hn;rw [hs] at this;exact Rep.le hle this
  ·rw [au qy,cond_false];have hh:=hR.hold n hn;generalize get σ n=tv at hh
   cases tv with
   | rref s' q y=>simp only [TV.bk];cases Nat.beq s' s<;>first|exact hh|trivial
   | ptr s' q c y=>simp only [TV.bk];cases Nat.beq s' s<;>first|exact hh|(obtain⟨k,h1,h2,_⟩:=hh;exact⟨k,h1,h2,fun h=>absurd rfl h⟩)
   | fpt s' q y=>simp only [TV.bk];cases Nat.beq s' s<;>first|exact hh|(obtain⟨k,h1,h2,_⟩:=hh;exact⟨k,h1,h2,fun h=>absurd rfl h⟩)
   | rptr s' q j y=>simp only [TV.bk];cases Nat.beq s' s<;>first|exact hh|trivial
   | bdp s' x=>simp only [TV.bk];cases Nat.beq s' s<;>first|exact hh|trivial
   | bor s' x=>simp only [TV.bk];cases Nat.beq s' s<;>first|exact hh|trivial
   | _=>exact hh
 ·simp only [get];have:=aJ hR hs ag;rw [au (show s≠n by omega),cond_false,hR.out n hn];rfl
end
section
variable {S:Sys} {N:Nat} {σ:St} {q:Bool} {ops:Array Oper} {l:List Oper} {K:St->Prop} {o:Oper}
theorem J.yI{d:Nat}(hg:live ops o.guard σ=some false)(hd:o.dst=some d)(h:J q S N ops l K (σ.put d (.av (.val undef)))):J q S N ops (o::l) K σ:=by
 unfold J at *;have put:∀ {w0:World} {L0:Nat->aO} {a:Act} {w:World},oC S N d->Rel S w0 L0 N σ a w->Rel S w0 L0 N (σ.put d (.av (.val undef))) (a.put o.dst undef) w:=fun aA ⟨L,hR⟩=>⟨_,by rw [hd];exact hR.put aA .val⟩
 cases q with
 | true =>
  intro dI w0 L0 Q a w hQ hR;obtain⟨h1,h2⟩:=aU dI;simp only [wpQuiet,ba hg hR,ahD,if_false];exact h h2 w0 L0 Q _ w hQ (put (h1 d hd) hR)
 | false =>
  intro dI w0 L0 Q a w hQ hR;obtain⟨h1,h2⟩:=aU dI;simp only [wpList,ba hg hR,ahD,if_false];exact h h2 w0 L0 Q _ w hQ (put (h1 d hd) hR)
def gsl(ops:Array Oper):Option (Nat×Bool)->Option Nat
 | none=>none
 | some (j,_)=>(ops[j]?).bind (·.dst)
theorem J.HU{d t:Nat}(hg:gsl ops o.guard=some t)(ht:get σ t=.av (.val undef))(hd:o.dst=some d)(h:J q S N ops l K (σ.put d (.av (.val undef)))):J q S N ops (o::l) K σ:=by
 have hw:∀ {w0:World} {L0:Nat->aO} {a:Act} {w:World},Rel S w0 L0 N σ a w->Region.wanted o (yielded ops a.tmps)=false:=fun{w0 L0 a w} ⟨L,hR⟩=>by
  have hh:=hR.hold t (aJ hR ht ag);rw [ht] at hh;unfold Region.wanted
  cases Pu:o.guard with
  | none=>rw [Pu] at hg;cases hg
  | some jb =>
   obtain⟨j,c⟩:=jb;rw [Pu] at hg;simp only [gsl] at hg;have hv:a.tmps.getD t undef=undef:=by generalize a.tmps.getD t undef=v at hh;cases hh;rfl
   simp only [yielded,hg,aiJ];rw [ahA] at hv
   cases Pe:a.tmps[t]? with
   | none=>rfl
   | some v=>rw [Pe] at hv;simp only [ah8] at hv;subst hv;rfl
 unfold J at *;have put:∀ {w0:World} {L0:Nat->aO} {a:Act} {w:World},oC S N d->Rel S w0 L0 N σ a w->Rel S w0 L0 N (σ.put d (.av (.val undef))) (a.put o.dst undef) w:=fun aA ⟨L,hR⟩=>⟨_,by rw [hd];exact hR.put aA .val⟩
 cases q with
 | true =>
  intro dI w0 L0 Q a w hQ hR;obtain⟨h1,h2⟩:=aU dI;simp only [wpQuiet,hw hR,ahD,if_false];exact h h2 w0 L0 Q _ w hQ (put (h1 d hd) hR)
 | false =>
  intro dI w0 L0 Q a w hQ hR;obtain⟨h1,h2⟩:=aU dI;simp only [wpList,hw hR,ahD,if_false];exact h h2 w0 L0 Q _ w hQ (put (h1 d hd) hR)
end
theorem Fs{a b:AV}(ha:NoSh a)(hb:NoSh b):NoSh (.tup [a,b]):=.tup fun x hx=>by
 rcases ah1.1 hx with rfl|hx
 ·exact ha
 ·rw [ahL.1 hx];exact hb
def P2(P:Program)(D:Int->Prop)(p:Int->Bool):AV:=.fn (wv P (fun xs9=>∃ x,xs9=[.int x]/\D x) (fun xs9=>match xs9 with|[.int n]=>.bool (p n)|_=>.bool false))
theorem aX.X0{S:Sys}{N:Nat}{σ:St}{f:Nat}{D:Int->Prop}{p:Int->Bool}(hf:jd S.P f)(hs:∀ x,D x->FnSpec S.P f [.int x] [.int x] (.bool (p x))):aX S N σ (.func f) true (P2 S.P D p) :=
 .func rfl hf (fun xs9 hd=>by obtain⟨x,rfl,hx⟩:=hd;exact hs x hx) (fun xs9 hd=>by obtain⟨x,rfl,hx⟩:=hd;rfl)
end FM
namespace FM
open Go Go.RowKit
variable {t s off i sz cA gn:Nat}{ti jG:TI}{cs zz:List AV}{y:AV}{x v:Operand}{fs:List (Nat×Nat)}{P:Program}
section
variable {S:Sys} {N:Nat} {σ:St} {d:Nat} {ty:Nat} {pos:String} {aft:Array Edge} {g:Option (Nat×Bool)}
theorem LD(hT:S.T t=some ti):EStep S ⟨some d,.alloc t,ty,pos,aft,g⟩ σ (σ.put d (.av (.pt true ti.zero))):=by
 intro w0 L0 N a w hN ⟨L,hR⟩;obtain⟨f,zv,lC,j4,uO,yz,wa,DC,Bg⟩:=(S.ok t ti hT).info;refine⟨.pointer (some ⟨w.heap.size,0,none⟩),w.alloc (.cells zv.cells t),.inl ?_,hR.alloc (hN d rfl) ?_⟩
 ·simp [execOp,Instr.alloc,zeroValue,typeInfo,lC,yz,newVar,newRow]
 have hlen:zv.cells.size=ti.zero.length:=by rw [<- aiA,wa,ahu]
 refine .ptO (fun o=>(zv.cells[o]?).getD undef) (by simp [fw]) (heap_alloc_new w _) hlen (fun o ho=>?_) (fun o y hy=>?_)
 ·have:o<zv.cells.size:=ae;simp [this]
 ·have e1:zv.cells.toList[o]?=some y.toV:=by rw [wa,ahE,hy];rfl
  rw [air] at e1;rw [e1];exact toV_rep ((ahM.1 DC) y (ahH hy))
theorem NY{z:AV}(hv:ov σ v=.av z)(hz:z.aW=false)(hok:z.fV=true):EStep S ⟨some d,.box t v,ty,pos,aft,g⟩ σ (σ.put d (.av (.pt true z.cells))):=by
 intro w0 L0 N a w hN ⟨L,hR⟩;obtain⟨v1,v2,v3⟩:=eW hR hv hz hok;refine⟨.pointer (some ⟨w.heap.size,0,none⟩),w.alloc (.cells (a.eval v).cells t),.inl ?_,hR.alloc (hN d rfl) ?_⟩
 ·simp [execOp,Instr.box,newVar,newRow]
 refine .ptO (fun o=>((a.eval v).cells[o]?).getD undef) (by simp [fw]) (heap_alloc_new w _) v1 (fun o ho=>?_) (fun o y hy=>?_)
 ·have:o<(a.eval v).cells.size:=ae;simp [this]
 ·obtain⟨u,h1,h2⟩:=v3 o y hy;rw [h1];exact(Rep.NR hR h2).any _
theorem nw(hT:S.T t=some ti){L:Nat->aO}{w:World}{p:List Nat}{b off:Nat}{cs' zs cs:List AV}{v zv:Value}(hL:L b=.my p)(X4:∀ b b' p,L b=.my p->L b'=.my p->b=b')
  (hh:Rep L w (some p) (.pt true cs) v) (lQ:off+zs.length<=cs.length) (hz:zs.length=ti.size) (v1:zv.cells.size=zs.length) (v2:∀ u∈zv.cells.toList,u.oneCell'=true) (v3:∀ (j:Nat) y,zs[j]?=some y->∃ u,zv.cells[j]?=some u/\Rep L w none y u)
  (hl:cs'.length=cs.length) (bt:∀ (j:Nat) y,cs'[j]?=some y->(off<=j/\j<off+zs.length/\zs[j-off]?=some y)∨(¬ (off<=j/\j<off+zs.length)/\cs[j]?=some y)) :
  ∃ W:World,(Instr.storeAt t (.pointer (some ⟨b,off,none⟩)) zv).run S.P w=.ok () W/\W.heap.size=w.heap.size/\W.os=w.os/\W.tape=w.tape/\W.output=w.output/\(∀ k,k≠b->W.heap[k]?=w.heap[k]?)/\Rep L W (some p) (.pt true cs') v:=by
 cases hh with
 | @ptO p cs b' arr e u fS hb bc aH hr =>
  have:=X4 _ _ _ hL fS;subst this;obtain⟨A,aD,Fj,kl⟩:∃ A:Array Value,(Instr.storeAt t (.pointer (some ⟨b,off,none⟩)) zv).run S.P w=.ok () (w.setRow b A)/\A.size=arr.size/\∀ j,A[j]?=if off<=j/\j<off+zv.cells.size then zv.cells[j-off]? else arr[j]? :=
   ⟨_,jK (S:=S) hT (off:=off) (v:=zv) hb ae v2 ae,by simp;omega,fun j=>by
    have:=fK arr.toList zv.cells.toList off j (by simp;omega)
    simpa using this⟩
  have cw:∀ k,k≠b->(w.setRow b A).heap[k]?=w.heap[k]?:=fun k hk=>setRow_other w b k A hk;have oG:=setRow_heap w b arr A e (0,0) hb;have jh:(w.setRow b A).heap.size=w.heap.size:=ag;have ho:(w.setRow b A).os=w.os:=rfl;have ht:(w.setRow b A).tape=w.tape:=rfl;have hu:(w.setRow b A).output=w.output:=rfl;generalize w.setRow b A=W at aD cw oG jh ho ht hu;refine⟨W,aD,jh,ho,ht,hu,cw,?_⟩;have kL:∀ π (y:AV) (u:Value),Rep L w π y u->(∀ p',π=some p'->∃ o q,p'=p++o::q)->Rep L W π y u:=fun π y u h TY =>
   h.frame ae ho ht hu (fun k hk _=>⟨hk,cw k (fun e=>by subst e;rw [hL] at hk;cases hk)⟩) π fun p' vU=>⟨p',vU,fun k q hk=>⟨hk,cw k (fun e=>by
    subst e
    obtain⟨o,q',rfl⟩:=TY p' vU
    rw [hL] at hk;injection hk with hk
    have:=congrArg List.length hk
    simp at this)⟩⟩
  refine .ptO (fun o=>(A[o]?).getD undef) hL oG ae (fun o ho=>?_) (fun o y hy=>?_)
  ·have:o<A.size:=ae;simp [this]
  ·rw [kl];rcases bt o y hy with⟨h1,h2,h3⟩|⟨h1,h2⟩
   ·rw [if_pos ae];obtain⟨u',qO,ng⟩:=v3 _ y h3;rw [qO];exact(kL none y u' ng (fun p hp=>by cases hp)).any _
   ·rw [if_neg ae];have ho:o<cs.length:=(aho.1 h2).1;rw [aH o ho];exact kL _ y _ (hr o y h2) (fun p hp=>by cases hp;exact⟨o,[],rfl⟩)
theorem fy{L:Nat->aO}{w:World}{p:List Nat}{cs:List AV}{v:Value}(h:Rep L w (some p) (.pt true cs) v):∃ b,L b=.my p/\v=.pointer (some ⟨b,0,none⟩)/\b<w.heap.size/\∀ (j:Nat) z,cs[j]?=some z->∃ u,w.cell? ⟨b,j,none⟩=some u/\Rep L w (some (p++[j])) z u:=by
 cases h with
 | @ptO p cs b arr e u hL hb bc aH hr =>
  exact⟨b,hL,rfl,(ahx.1 hb).1,fun j z hz=>⟨u j,by rw [cell_of_row w b j arr e (0,0) hb];exact aH j (aho.1 hz).1,hr j z hz⟩⟩
theorem P3{z:AV}(hs:get σ s=.av (.pt true cs))(hT:S.T t=some ti)(hv:ov σ v=.av z)(hz:z.aW=false)(hok:z.fV=true)(hc:Nat.beq z.cells.length ti.size=true)(kK:Nat.beq cs.length ti.size=true):
  EStep S ⟨none,.store t (.tmp s) v,ty,pos,aft,g⟩ σ (σ.upd false s (.av (.pt true z.cells))):=by
 intro w0 L0 N a w _ ⟨L,hR⟩;have PM:=ahz hc;have KL:=ahz kK;have ja:=aJ hR hs ag;have hh:=hR.hold s ja;rw [hs] at hh;simp only [Hold] at hh;obtain⟨v1,v2,v3⟩:=eW hR hv hz hok;obtain⟨b,hL,hp,_,_⟩:=fy hh;obtain⟨W,aD,bc,ho,ht,hu,cw,bE⟩:=nw hT (off:=0) (zs:=z.cells) (cs':=z.cells) hL hR.lok.inj hh ae PM v1 v2 v3 ae (fun j y hy=>.inl ⟨ahQ _,by have:=(aho.1 hy).1;omega,by simpa using hy⟩);have cn:a.eval (.tmp s)=.pointer (some ⟨b,0,none⟩):=hp;exact⟨undef,W,.inr ⟨by simp only [execOp,cn,Sem.run_bind,aD];rfl,rfl⟩,L,hR.write (b:=b) (q0:=[]) ja hL bc ho ht hu cw bE false (fun h=>by cases h)⟩
theorem NZ{o:Nat}{y0 z:AV}(hx:ov σ x=.fpt s o y0)(hs:get σ s=.av (.pt true cs))(hT:S.T t=some ti)(hv:ov σ v=.av z)(hz:z.aW=false)(hok:z.fV=true)(h1:z.cells=[z])(kK:Nat.beq ti.size 1=true)(ho:o<cs.length):
  EStep S ⟨none,.store t x v,ty,pos,aft,g⟩ σ (σ.upd false s (.av (.pt true (cs.set o z)))):=by
 intro w0 L0 N a w _ ⟨L,hR⟩;have KL:=ahz kK;obtain⟨_,⟨b,hL,hp,_⟩,_⟩:=aM hR hx ag;have ja:=aJ hR hs ag;have hh:=hR.hold s ja;rw [hs] at hh;simp only [Hold] at hh;obtain⟨v1,v2,v3⟩:=eW hR hv hz hok
 obtain⟨W,aD,bc,ho',ht,hu,cw,bE⟩:=nw hT (off:=o) (zs:=z.cells) (cs':=cs.set o z) hL hR.lok.inj hh (by rw [h1];simp;omega) (by rw [h1,KL];rfl) v1 v2 v3 ag (fun j y hy=>by
  rw [aio] at hy
  rw [h1]
  by_cases By:o=j
  ·subst By
   rw [if_pos rfl,if_pos ho] at hy
   exact .inl ⟨ahr _,ag,by simpa using hy⟩
  ·rw [if_neg By] at hy
   exact .inr ⟨by simp;omega,hy⟩)
 exact⟨undef,W,.inr ⟨by simp only [execOp,hp,Sem.run_bind,aD];rfl,rfl⟩,L,hR.write (b:=b) (q0:=[]) ja hL bc ho' ht hu cw bE false (fun h=>by cases h)⟩
theorem P4{α:Type}{f:α->AV}{l:List α}{n:α}{o:Nat}{y0:AV}(hx:ov σ x=.fpt s o y0)(hs:get σ s=.av (.pt true (l.map f)))(hT:S.T t=some ti)(hv:ov σ v=.av (f n))(hz:(f n).aW=false)(hok:(f n).fV=true)(h1:(f n).cells=[f n])(kK:Nat.beq ti.size 1=true)(ho:o<l.length):
  EStep S ⟨none,.store t x v,ty,pos,aft,g⟩ σ (σ.upd false s (.av (.pt true ((l.set o n).map f)))):=by
 rw [List.map_set];exact NZ hx hs hT hv hz hok h1 kK (by simpa using ho)
theorem bR{c:Nat}{fields:Array Field}{f:Field}(hu:P.underlying t=some (.struct fields))(hf:fields[i]?=some f)(hs:∃ fi,P.info? f.type=some fi/\fi.size=c)(hc:c≠0)(b off:Nat)(w:World):
  (Instr.fieldAt t (.pointer (some ⟨b,off,none⟩)) i).run P w=.ok (.pointer (some ⟨b,off+f.offset,none⟩)) w:=by
 obtain⟨fi,h1,h2⟩:=hs;subst h2;simp [Instr.fieldAt,run_underlying hu,hf,Instr.sureAddr,fieldPlace,Go.sizeOf,typeInfo,h1,hc,addr_add]
theorem tT.fld{z:List AV}(h:tT P t ⟨.struct fs,sz,cA,z⟩)(hf:fs[i]?=some (off,gn)):∃ fields f,P.underlying t=some (.struct fields)/\fields[i]?=some f/\f.offset=off/\f.type=gn:=by
 obtain⟨d,hd,fields,he,hl⟩:=h.desc;subst he;rw [<- hl,ahE,ahs] at hf;obtain⟨f,h1,h2⟩:=hf;injection h2 with h3 h4
 exact⟨fields,f,hd,by simpa using h1,h3,h4⟩
theorem P5(hs:get σ s=.av (.pt true cs))(hT:S.T t=some ⟨.struct fs,sz,cA,zz⟩)(hf:fs[i]?=some (off,gn))(hF:S.T gn=some jG)(hc:Nat.beq jG.size 0=false)(hy:cs[off]?=some y)(h1:y.cells=[y])(c8:Nat.beq s d=false):
  Step S ⟨some d,.fieldAddr t (.tmp s) i,ty,pos,aft,g⟩ σ (σ.put d (.fpt s off y)):=by
 intro w0 L0 N a w hN ⟨L,hR⟩;have hh:=hR.hold s (aJ hR hs ag);rw [hs] at hh;simp only [Hold] at hh;obtain⟨b,hL,hp,_,bt⟩:=fy hh;obtain⟨fields,f,hu,qa,h2,h3⟩:=(S.ok t _ hT).fld hf;have cn:a.eval (.tmp s)=.pointer (some ⟨b,0,none⟩):=hp;have bc:=(S.ok gn _ hF).size;rw [<- h3] at bc;refine⟨.pointer (some ⟨b,0+f.offset,none⟩),fun w' _=>?_,Rel.aT (n:=d) hR (hN d rfl) rfl c8 ⟨b,hL,by rw [h2];simp,fun _ j z hz=>?_⟩⟩
 ·simp only [execOp,cn,Sem.run_bind,bR hu qa bc (aC hc)];rfl
 ·rw [h1] at hz
  cases j with
  | zero=>simp only [ahq,ahp] at hz;subst hz;simpa using bt off _ hy
  | succ j=>simp at hz
theorem P6{q:Nat}(hq:get σ q=.ref s)(hs:get σ s=.av (.pt true cs))(hT:S.T t=some ⟨.struct fs,sz,cA,zz⟩)(hf:fs[i]?=some (off,gn))(hF:S.T gn=some jG)(hc:Nat.beq jG.size 0=false)(hy:cs[off]?=some y)(h1:y.cells=[y])(c8:Nat.beq s d=false):
  Step S ⟨some d,.fieldAddr t (.tmp q) i,ty,pos,aft,g⟩ σ (σ.put d (.fpt s off y)):=by
 intro w0 L0 N a w hN ⟨L,hR⟩;have hh:=hR.hold s (aJ hR hs ag);have P7:=hR.hold q (aJ hR hq ag);rw [hs] at hh;rw [hq] at P7;simp only [Hold] at hh P7;obtain⟨b,hL,hp,_,bt⟩:=fy hh;obtain⟨fields,f,hu,qa,h2,h3⟩:=(S.ok t _ hT).fld hf;have cn:a.eval (.tmp q)=.pointer (some ⟨b,0,none⟩):=P7.trans hp;have bc:=(S.ok gn _ hF).size;rw [<- h3] at bc;refine⟨.pointer (some ⟨b,0+f.offset,none⟩),fun w' _=>?_,Rel.aT (n:=d) hR (hN d rfl) rfl c8 ⟨b,hL,by rw [h2];simp,fun _ j z hz=>?_⟩⟩
 ·simp only [execOp,cn,Sem.run_bind,bR hu qa bc (aC hc)];rfl
 ·rw [h1] at hz
  cases j with
  | zero=>simp only [ahq,ahp] at hz;subst hz;simpa using bt off _ hy
  | succ j=>simp at hz
theorem P8(hx:ov σ x=.dptr (.agg cs))(hT:S.T t=some ⟨.struct fs,sz,cA,zz⟩)(hf:fs[i]?=some (off,gn))(hF:S.T gn=some jG)(hc:Nat.beq jG.size 0=false)(hy:cs[off]?=some y)(h1:y.cells=[y]):
  Step S ⟨some d,.fieldAddr t x i,ty,pos,aft,g⟩ σ (σ.put d (.dptr y)):=by
 intro w0 L0 N a w hN ⟨L,hR⟩;obtain⟨_,⟨b,o,hv,hb,aA,bt⟩,_⟩:=aM hR hx ag;obtain⟨fields,f,hu,qa,h2,h3⟩:=(S.ok t _ hT).fld hf;have bc:=(S.ok gn _ hF).size;rw [<- h3] at bc;refine⟨.pointer (some ⟨b,o+f.offset,none⟩),fun w' _=>?_,Rel.aT (n:=d) hR (hN d rfl) rfl rfl ⟨b,o+f.offset,rfl,hb,aA,fun j z hz=>?_⟩⟩
 ·simp only [execOp,hv,Sem.run_bind,bR hu qa bc (aC hc)];rfl
 ·rw [h1] at hz
  cases j with
  | zero=>simp only [ahq,ahp] at hz;subst hz;rw [h2];exact bt off _ hy
  | succ j=>simp at hz
theorem P9(hx:ov σ x=.av (.pt false cs))(hT:S.T t=some ⟨.struct fs,sz,cA,zz⟩)(hf:fs[i]?=some (off,gn))(hF:S.T gn=some jG)(hc:Nat.beq jG.size 0=false)(hy:cs[off]?=some y)(h1:y.cells=[y]):
  Step S ⟨some d,.fieldAddr t x i,ty,pos,aft,g⟩ σ (σ.put d (.dptr y)):=by
 intro w0 L0 N a w hN ⟨L,hR⟩;obtain⟨n,hn⟩:=cU hR hx;generalize cn:a.eval x=v at hn
 cases hn with
 | @ptS _ _ b o u hb aA aH hr =>
  obtain⟨fields,f,hu,qa,h2,h3⟩:=(S.ok t _ hT).fld hf;have bc:=(S.ok gn _ hF).size;rw [<- h3] at bc;refine⟨.pointer (some ⟨b,o+f.offset,none⟩),fun w' _=>?_,Rel.aT (n:=d) hR (hN d rfl) rfl rfl ⟨b,o+f.offset,rfl,hb,aA,fun j z hz=>?_⟩⟩
  ·simp only [execOp,cn,Sem.run_bind,bR hu qa bc (aC hc)];rfl
  ·rw [h1] at hz
   cases j with
   | zero=>simp only [ahq,ahp] at hz;subst hz;rw [h2];exact⟨_,aH off (aho.1 hy).1,hr off _ hy⟩
   | succ j=>simp at hz
theorem Qa{e c:Nat}(hx:ov σ x=.ptr s e c (.agg cs))(hT:S.T t=some ⟨.struct fs,sz,cA,zz⟩)(hf:fs[i]?=some (off,gn))(hF:S.T gn=some jG)(hc:Nat.beq jG.size 0=false)(hy:cs[off]?=some y)(h1:y.cells=[y])(c8:Nat.beq s d=false):
  Step S ⟨some d,.fieldAddr t x i,ty,pos,aft,g⟩ σ (σ.put d (.fpt s (e*c+off) y)):=by
 intro w0 L0 N a w hN ⟨L,hR⟩;obtain⟨_,⟨b,hL,hv,bt⟩,_⟩:=aM hR hx ag;obtain⟨fields,f,hu,qa,h2,h3⟩:=(S.ok t _ hT).fld hf;have bc:=(S.ok gn _ hF).size;rw [<- h3] at bc;refine⟨.pointer (some ⟨b,e*c+f.offset,none⟩),fun w' _=>?_,Rel.aT (n:=d) hR (hN d rfl) rfl c8 ⟨b,hL,by rw [h2],fun _ j z hz=>?_⟩⟩
 ·simp only [execOp,hv,Sem.run_bind,bR hu qa bc (aC hc)];rfl
 ·rw [h1] at hz
  cases j with
  | zero=>simp only [ahq,ahp] at hz;subst hz;simpa using bt AV.noConfusion off _ hy
  | succ j=>simp at hz
theorem N0(hs:get σ s=.av (.pt true cs))(hT:S.T t=some ti)(hy:y.cells=cs)(hf:y.fits ti=true)(hp:y.aW=false)(hn:y.fv=true):Step S ⟨some d,.load t (.tmp s),ty,pos,aft,g⟩ σ (σ.put d (.av y)) :=
 step_val hp fun w0 L0 N a w L hR=>by
  have hh:=hR.hold s (aJ hR hs ag);rw [hs] at hh;simp only [Hold] at hh;obtain⟨b,hL,Ft,aA,bt⟩:=fy hh;obtain⟨v,h1,h2,_⟩:=dA (S.ok t ti hT) hf (off:=0) aA (cY hn) (π:=fun j=>some ([s]++[j])) (fun j z hz=>by rw [hy] at hz;rw [ahR];exact bt j z hz);have cn:a.eval (.tmp s)=.pointer (some ⟨b,0,none⟩):=Ft;exact⟨v,fun w' e=>by simp only [execOp,cn,Instr.loadAt,Instr.sureAddr];simp [h1 w' e],Rep.replace h2 hp⟩
theorem N1(hx:ov σ x=.av (.pt false cs))(hT:S.T t=some ti)(hy:y.cells=cs)(hf:y.fits ti=true)(hp:y.aW=false)(hn:y.fv=true):Step S ⟨some d,.load t x,ty,pos,aft,g⟩ σ (σ.put d (.av y)) :=
 step_val hp fun w0 L0 N a w L hR=>by
  obtain⟨n,Bd⟩:=cU hR hx;generalize cn:a.eval x=v at Bd
  cases Bd with
  | @ptS _ _ b o u hb aA aH hr =>
   obtain⟨v,h1,h2,_⟩:=dA (S.ok t ti hT) hf (off:=o) aA (cY hn) (π:=fun _=>none) (fun j z hz=>by rw [hy] at hz;exact⟨u j,aH j (aho.1 hz).1,hr j z hz⟩);exact⟨v,fun w' e=>by simp only [execOp,cn,Instr.loadAt,Instr.sureAddr];simp [h1 w' e],h2⟩
theorem Qb(hs:get σ s=.av (.pt true [y]))(hT:S.T t=some ti)(hy:y.cells=[y])(hf:y.fits ti=true)(hp:y.aW=false)(hn:y.fv=true):Step S ⟨some d,.load t (.tmp s),ty,pos,aft,g⟩ σ (σ.put d (.av y)):=N0 hs hT hy hf hp hn
theorem Qc(hx:ov σ x=.av (.pt false [y]))(hT:S.T t=some ti)(hy:y.cells=[y])(hf:y.fits ti=true)(hp:y.aW=false)(hn:y.fv=true):Step S ⟨some d,.load t x,ty,pos,aft,g⟩ σ (σ.put d (.av y)):=N1 hx hT hy hf hp hn
theorem Qd(hs:get σ s=.av (.pt true cs))(hT:S.T t=some ti)(hf:(AV.agg cs).fits ti=true)(hn:(AV.agg cs).fv=true):Step S ⟨some d,.load t (.tmp s),ty,pos,aft,g⟩ σ (σ.put d (.av (.agg cs))):=N0 hs hT rfl hf rfl hn
theorem wx{e c m:Nat}{b off:Nat}{i:Int}(ht:P.underlying t=some (.array m e))(hs:∃ f,P.info? e=some f/\f.size=c)(h0:0<=i)(h1:i.toNat<m)(w:World):
  (Instr.indexAt t (.pointer (some ⟨b,off,none⟩)) (.int .i64 i)).run P w=.ok (.pointer (some ⟨b,off+i.toNat*c,none⟩)) w:=by
 obtain⟨f,hf,hc⟩:=hs;have:i<(m:Int):=ae;simp [Instr.indexAt,asIntOf,run_underlying ht,h0,this,Go.sizeOf,typeInfo,hf,hc,addr_add,Instr.sureAddr]
theorem tT.arr{P:Program}{t n e sz cA:Nat}{z:List AV}(h:tT P t ⟨.arr n e,sz,cA,z⟩):P.underlying t=some (.array n e):=by
 obtain⟨d,hd,he⟩:=h.desc;simp only [TK.er] at he;rw [hd,he]
theorem Qe{α:Type}{f:α->AV}{l:List α}{r:α}{e m:Nat}{z:List AV}{i:Operand}{n:Int}(hs:get σ s=.av (.pt true (l.map f)))(hi:ov σ i=.av (.int n))(hT:S.T t=some ⟨.arr m e,sz,cA,z⟩)(hE:S.T e=some ti)(hc:Nat.beq ti.size 1=true)(h0:0<=n)(hr:l[n.toNat]?=some r)(h1:(f r).cells=[f r])(hm:n.toNat<m)(c8:Nat.beq s d=false):
  Step S ⟨some d,.indexAddr t (.tmp s) i,ty,pos,aft,g⟩ σ (σ.put d (.fpt s n.toNat (f r))):=by
 intro w0 L0 N a w hN ⟨L,hR⟩;have hh:=hR.hold s (aJ hR hs ag);rw [hs] at hh;simp only [Hold] at hh;obtain⟨b,hL,hp,_,bt⟩:=fy hh;have cn:a.eval (.tmp s)=.pointer (some ⟨b,0,none⟩):=hp;have bc:=(S.ok e _ hE).size;rw [ahz hc] at bc;refine⟨.pointer (some ⟨b,0+n.toNat*1,none⟩),fun w' _=>?_,Rel.aT (n:=d) hR (hN d rfl) rfl c8 ⟨b,hL,ag,fun _ j z hz=>?_⟩⟩
 ·simp only [execOp,cn,eu hR hi,Sem.run_bind,wx (S.ok t _ hT).arr bc h0 hm];rfl
 ·rw [h1] at hz
  cases j with
  | zero =>
   simp only [ahq,ahp] at hz;subst hz;simpa using bt n.toNat (f r) (by rw [ahE,hr];rfl)
  | succ j=>simp at hz
end
end FM
namespace FM
open Go Go.RowKit
section
variable {S:Sys} {N:Nat} {σ:St} {d:Nat} {ty:Nat} {pos:String} {aft:Array Edge} {g:Option (Nat×Bool)}
theorem yJ{L:Nat->aO}{w:World}{π:Option (List Nat)}{a b:Int}{v:Value}(h:Rep L w π (.agg [.int a,.int b]) v):v=.agg #[.int .i64 a,.int .i64 b]:=by
 cases h with
 | @agg _ _ vs hl h =>
  match vs,hl with
  | [x,y],_ =>
   have h1:=h 0 (.int a) x rfl rfl;have h2:=h 1 (.int b) y rfl rfl;cases h1;cases h2;rfl
theorem Fu{P:Program}{e:Nat}{k:IntKind}(he:P.underlying e=some (.int k))(w:World):(isAgg e).run P w=.ok false w:=by
 unfold isAgg;rw [Sem.run_bind,run_underlying he,Result.andThen_ok];rfl
theorem yK{P:Program}{op:BinOp}{t:Nat}{x y:Operand}(hg:P.eqGuardType P.depth t=false)(u v:Array Value)(w:World):(eqGuard op t x y (.agg u) (.agg v)).run P w=.ok () w:=by
 unfold eqGuard;cases op<;>simp [Sem.run_bind,run_program,hg]
end
end FM
