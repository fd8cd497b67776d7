/- Stores of rows, stores in rows, rows taken out of a table. No program in sight. -/
import Derived.Test.YtkkcnppgcnmikaaGreatDoorAba
namespace FM
open Go Go.RowKit
set_option linter.unusedVariables false
section
variable {S:Sys} {N:Nat} {σ:St}
/-! ### what slot t0 owns becomes element i of slot s -/
def φinto(s i t0:Nat)(p:List Nat):Option (List Nat) :=
 match strip [t0] p with
 | some q=>some (s::i::q)
 | none=>match strip [s,i] p with
  | some _=>none
  | none=>match p with
   | []=>none
   | a::q=>some (a::q)
theorem φinto_cases{s i t0:Nat}{p r:List Nat}(h:φinto s i t0 p=some r):(∃ q,p=t0::q∧r=s::i::q)∨(p=r∧r≠[]∧strip [t0] p=none∧strip [s,i] p=none):=by
 unfold φinto at h
 cases h1:strip [t0] p with
 | some q=>rw [h1] at h;injection h with h;exact .inl ⟨q,strip_spec.1 h1,h.symm⟩
 | none =>
  rw [h1] at h
  simp only at h
  cases h2:strip [s,i] p with
  | some q=>rw [h2] at h;cases h
  | none =>
   rw [h2] at h
   cases p with
   | nil=>cases h
   | cons a q=>injection h with h;subst h;exact .inr ⟨rfl,by simp,rfl,rfl⟩
theorem φinto_inj{s i t0:Nat}:Inj (φinto s i t0):=by
 refine⟨fun p p' r h h'=>?_,fun p h=>?_⟩
 ·rcases φinto_cases h with⟨q,e1,e2⟩|⟨e1,e2,e3,e4⟩<;>rcases φinto_cases h' with⟨q',e1',e2'⟩|⟨e1',e2',e3',e4'⟩
  ·rw [e2] at e2';cases e2';rw [e1,e1']
  ·subst e1';rw [e2] at e4'
   have:strip [s,i] (s::i::q)=some q:=strip_spec.2 rfl
   rw [this] at e4';cases e4'
  ·subst e1;rw [e2'] at e4
   have:strip [s,i] (s::i::q')=some q':=strip_spec.2 rfl
   rw [this] at e4;cases e4
  ·rw [e1,e1']
 ·rcases φinto_cases h with⟨q,e1,e2⟩|⟨e1,e2,_⟩
  ·cases e2
  ·exact e2 rfl
theorem φinto_keep{s i t0 a:Nat}{q:List Nat}(h1:t0≠a)(h2:strip [s,i] (a::q)=none):φinto s i t0 (a::q)=some (a::q):=by
 unfold φinto
 have:strip [t0] (a::q)=none:=by simp only [strip,not_beq h1,cond_false]
 rw [this,h2]
theorem LOk.remap{L0 L:Nat→Lab}{w0 w:World}(h:LOk L0 w0 L w){φ:List Nat→Option (List Nat)}(hφ:Inj φ):LOk L0 w0 (FM.remap φ L) w where
 lt b p hb:=by obtain⟨p',h1,_⟩:=remap_my hb;exact h.lt b _ h1
 inj b b' p hb hb':=by
  obtain⟨p1,h1,h2⟩:=remap_my hb
  obtain⟨p2,h1',h2'⟩:=remap_my hb'
  have:=hφ.inj _ _ _ h2 h2'
  subst this
  exact h.inj _ _ _ h1 h1'
 head b p hb:=by obtain⟨p',_,h2⟩:=remap_my hb;intro e;subst e;exact hφ.ne _ h2
 old b p hlt hb:=by obtain⟨p',h1,_⟩:=remap_my hb;exact h.old b _ hlt h1
 fo b hb:=remap_fo.trans (h.fo b hb)
 new b hb hf:=h.new b hb (remap_fo.1 hf)
theorem RelL.into{w0:World}{L0:Nat→Lab}{a:Act}{w:World}{L:Nat→Lab}(hR:RelL S w0 L0 N σ a w L){s i t0:Nat}{r:AV}{xs:List AV}(hs:get σ s=.av (.sl true 1 xs))(ht0:get σ t0=.av r)(hr1:r.cells=[r])(hst:t0≠s)(hi:i<xs.length)
  (hcell:∀ b,L b=.my [s]→w.cell? ⟨b,i,none⟩=some (a.tmps.getD t0 undef)):RelL S w0 L0 N ((σ.put t0 .none).upd false s (.av (.sl true 1 (xs.set i r)))) a w (remap (φinto s i t0) L):=by
 have hsN:=own_lt hR hs (by simp)
 have htN:=own_lt hR ht0 (by simp)
 have hks:∀ b,L b=.my [s]→remap (φinto s i t0) L b=.my [s]:=fun b hb=>remap_to hb (φinto_keep hst (by simp [strip]))
 refine⟨hR.defers,hR.size,hR.keep,hR.lok.remap φinto_inj,fun n hn=>?_,fun n hn=>?_,hR.fix,hR.glob⟩
 ·simp only [get,kill_eq]
  by_cases hsn:s=n
  ·subst hsn
   rw [Nat.beq_refl,cond_true]
   have hh:=hR.hold s hn
   rw [hs] at hh
   have ht:=hR.hold t0 htN
   rw [ht0] at ht
   simp only [Hold] at hh ht ⊢
   generalize a.tmps.getD s undef=sv at hh
   cases hh with
   | slE h=>simp at hi
   | @slO p c xs b cap arr e u hL hb hcap hsz hcx hcl hr =>
    have hlen:(xs.set i r).length=xs.length:=by simp
    have hci:=hcell b hL
    rw [cell_of_row w b i arr e (0,0) hb] at hci
    rw [← hlen]
    refine .slO (fun o=>if o=i then a.tmps.getD t0 undef else u o) (hks b hL) hb (by rw [hlen];exact hcap) hsz (fun y hy=>?_) (fun o ho=>?_) (fun o y hy=>?_)
    ·rcases List.mem_or_eq_of_mem_set hy with h|h
     ·exact hcx y h
     ·rw [h,hr1];rfl
    ·split
     ·rename_i e;subst e;exact hci
     ·rw [hlen] at ho;exact hcl o ho
    ·rcases flat_set hcx (by rw [hr1];rfl) o y hy with⟨h1,h2,h3,h4⟩|⟨h1,h2⟩
     ·have ho:o=i:=by omega
      subst ho
      rw [hr1] at h4
      simp only [Nat.mul_one,Nat.sub_self,List.getElem?_cons_zero,Option.some.injEq] at h4
      subst h4
      simp only [if_pos]
      refine Rep.frame (Nat.le_refl _) rfl rfl rfl (fun k h1 _=>⟨remap_sh h1,rfl⟩) ht _ fun p hp=>?_
      cases hp
      refine⟨_,rfl,fun k q hk=>⟨remap_to hk ?_,rfl⟩⟩
      unfold φinto
      rw [strip_spec.2 rfl];rfl
     ·have hne:o≠i:=by omega
      simp only [if_neg hne]
      refine Rep.frame (Nat.le_refl _) rfl rfl rfl (fun k h1 _=>⟨remap_sh h1,rfl⟩) (hr o y h2) _ fun p hp=>?_
      cases hp
      refine⟨_,rfl,fun k q hk=>⟨remap_to hk ?_,rfl⟩⟩
      refine φinto_keep hst ?_
      simp [strip,not_beq (Ne.symm hne),Nat.beq_refl]
  ·rw [not_beq hsn,cond_false]
   by_cases htn:t0=n
   ·subst htn;rw [Nat.beq_refl,cond_true];trivial
   ·rw [not_beq htn,cond_false]
    cases hd:(get σ n).dep t0 with
    | true=>trivial
    | false =>
     rw [cond_false]
     have hh:=hR.hold n hn
     have key:∀ tv:TV,tv.dep s=false→tv.dep t0=false→Hold L w a.tmps n tv (a.tmps.getD n undef)→Hold (remap (φinto s i t0) L) w a.tmps n tv (a.tmps.getD n undef):=fun tv hds hdt hh =>
      Hold.relab (good:=fun m=>m≠s∧m≠t0) (Nat.le_refl _) rfl rfl rfl (fun k h1 _=>⟨remap_sh h1,rfl⟩) (fun k m q h1 h2=>⟨remap_to h1 (φinto_keep (fun e=>h2.2 e.symm) (by simp only [strip,not_beq (fun e=>h2.1 e.symm:s≠m),cond_false])),rfl⟩)
       (fun _ _=>rfl) ⟨fun e=>hsn e.symm,fun e=>htn e.symm⟩ (fun m hm=>⟨fun e=>(by subst e;rw [hds] at hm;cases hm),fun e=>(by subst e;rw [hdt] at hm;cases hm)⟩) hh
     generalize get σ n=tv at hh hd
     cases tv with
     | none=>trivial
     | av x=>exact key _ rfl rfl hh
     | ref s'=>exact hh
     | rref s' q y =>
      simp only [TV.stale]
      cases hb':Nat.beq s' s with
      | false=>exact key _ hb' hd hh
      | true=>trivial
     | ptr s' q c y =>
      simp only [TV.stale]
      cases hb':Nat.beq s' s with
      | false=>exact key _ hb' hd hh
      | true =>
       have:=Nat.eq_of_beq_eq_true hb';subst this
       obtain⟨k,h1,h2,_⟩:=hh;exact⟨k,hks k h1,h2,fun h=>absurd rfl h⟩
     | fpt s' o y =>
      simp only [TV.stale]
      cases hb':Nat.beq s' s with
      | false=>exact key _ hb' hd hh
      | true =>
       have:=Nat.eq_of_beq_eq_true hb';subst this
       obtain⟨k,h1,h2,_⟩:=hh;exact⟨k,hks k h1,h2,fun h=>absurd rfl h⟩
     | rptr s' q j y =>
      simp only [TV.stale]
      cases hb':Nat.beq s' s with
      | false=>exact key _ hb' hd hh
      | true=>trivial
     | dptr x=>exact key _ rfl rfl hh
     | bdp s' x =>
      simp only [TV.stale]
      cases hb':Nat.beq s' s with
      | false=>exact key _ hb' hd hh
      | true=>trivial
     | bor s' x =>
      simp only [TV.stale]
      cases hb':Nat.beq s' s with
      | false=>exact key _ hb' hd hh
      | true=>trivial
     | clo f caps=>exact hh
 ·simp only [get,kill_eq]
  rw [not_beq (show s≠n by omega),cond_false,not_beq (show t0≠n by omega),cond_false,hR.out n hn];rfl
/-! ### a row taken out of a table -/
theorem RelL.takeRow{w0:World}{L0:Nat→Lab}{a:Act}{w:World}{L:Nat→Lab}(hR:RelL S w0 L0 N σ a w L){s i d:Nat}{y:AV}{xs:List AV}(hs:get σ s=.av (.sl true 1 xs))(hd:get σ d=.rref s i y)(hy:y≠.dead)(hsd:s≠d)(hi:i<xs.length) :
  RelL S w0 L0 N ((σ.upd false s (.av (.sl true 1 (xs.set i .dead)))).put d (.av y)) a w (mvl [s,i] d L):=by
 have hsN:=own_lt hR hs (by simp)
 have hdN:=own_lt hR hd (by simp)
 have hks:∀ b,L b=.my [s]→mvl [s,i] d L b=.my [s]:=fun b hb=>mvl_keep hb hsd (by simp [strip])
 refine⟨hR.defers,hR.size,hR.keep,hR.lok.mvl _ _,fun n hn=>?_,fun n hn=>?_,hR.fix,hR.glob⟩
 ·simp only [get,kill_eq]
  by_cases hnd:d=n
  ·subst hnd
   rw [Nat.beq_refl,cond_true]
   have:=hR.hold d hdN
   rw [hd] at this
   obtain⟨b,h1,h2,h3⟩:=this
   refine Rep.frame (Nat.le_refl _) rfl rfl rfl (fun b h1 _=>⟨mvl_sh h1,rfl⟩) (h3 hy) _ fun p hp=>?_
   cases hp
   exact⟨[d],rfl,fun b q hb=>⟨mvl_to hb,rfl⟩⟩
  ·rw [not_beq hnd,cond_false]
   by_cases hns:s=n
   ·subst hns
    rw [Nat.beq_refl,cond_true]
    simp only [TV.dep,cond_false]
    have hh:=hR.hold s hn
    rw [hs] at hh
    simp only [Hold] at hh ⊢
    generalize a.tmps.getD s undef=sv at hh
    cases hh with
    | slE h=>simp at hi
    | @slO p c xs b cap arr e u hL hb hcap hsz hcx hcl hr =>
     have hlen:(xs.set i .dead).length=xs.length:=by simp
     rw [← hlen]
     refine .slO u (hks b hL) hb (by rw [hlen];exact hcap) hsz (fun z hz=>?_) (fun o ho=>by rw [hlen] at ho;exact hcl o ho) (fun o z hz=>?_)
     ·rcases List.mem_or_eq_of_mem_set hz with h|h
      ·exact hcx z h
      ·rw [h];rfl
     ·rcases flat_set (z:=.dead) hcx rfl o z hz with⟨h1,h2,h3,h4⟩|⟨h1,h2⟩
      ·have ho:o-i*1=0:=by omega
       rw [ho] at h4
       simp only [AV.cells,List.getElem?_cons_zero,Option.some.injEq] at h4
       subst h4;exact .dead
      ·have hne:o≠i:=by omega
       refine Rep.frame (Nat.le_refl _) rfl rfl rfl (fun k h1 _=>⟨mvl_sh h1,rfl⟩) (hr o z h2) _ fun p hp=>?_
       cases hp
       refine⟨_,rfl,fun k q hk=>⟨?_,rfl⟩⟩
       exact mvl_keep (t:=s) (q:=o::q) hk hsd (by simp [strip,not_beq (Ne.symm hne),Nat.beq_refl])
   ·rw [not_beq hns,cond_false]
    have hh:=hR.hold n hn
    have key:∀ tv:TV,tv.dep s=false→tv.dep d=false→Hold L w a.tmps n tv (a.tmps.getD n undef)→Hold (mvl [s,i] d L) w a.tmps n tv (a.tmps.getD n undef):=fun tv hds hdt hh =>
     Hold.relab (good:=fun m=>m≠s∧m≠d) (Nat.le_refl _) rfl rfl rfl (fun k h1 _=>⟨mvl_sh h1,rfl⟩) (fun k m q h1 h2=>⟨mvl_keep h1 h2.2 (by simp only [strip,not_beq (fun e=>h2.1 e.symm:s≠m),cond_false]),rfl⟩)
      (fun _ _=>rfl) ⟨fun e=>hns e.symm,fun e=>hnd e.symm⟩ (fun m hm=>⟨fun e=>(by subst e;rw [hds] at hm;cases hm),fun e=>(by subst e;rw [hdt] at hm;cases hm)⟩) hh
    generalize get σ n=tv at hh
    cases tv with
    | none=>trivial
    | av x=>exact key _ rfl rfl hh
    | ref s' =>
     simp only [TV.stale,TV.dep]
     cases Nat.beq s' d<;>first|exact hh|trivial
    | rref s' q y =>
     simp only [TV.stale]
     cases hb':Nat.beq s' s with
     | true=>trivial
     | false =>
      simp only [cond_false,TV.dep]
      cases hd':Nat.beq s' d with
      | true=>trivial
      | false=>exact key _ hb' hd' hh
    | ptr s' q c y =>
     simp only [TV.stale]
     cases hb':Nat.beq s' s with
     | true =>
      have:=Nat.eq_of_beq_eq_true hb';subst this
      simp only [cond_true,TV.dep,not_beq hsd,cond_false]
      obtain⟨k,h1,h2,_⟩:=hh;exact⟨k,hks k h1,h2,fun h=>absurd rfl h⟩
     | false =>
      simp only [cond_false,TV.dep]
      cases hd':Nat.beq s' d with
      | true=>trivial
      | false=>exact key _ hb' hd' hh
    | fpt s' o y =>
     simp only [TV.stale]
     cases hb':Nat.beq s' s with
     | true =>
      have:=Nat.eq_of_beq_eq_true hb';subst this
      simp only [cond_true,TV.dep,not_beq hsd,cond_false]
      obtain⟨k,h1,h2,_⟩:=hh;exact⟨k,hks k h1,h2,fun h=>absurd rfl h⟩
     | false =>
      simp only [cond_false,TV.dep]
      cases hd':Nat.beq s' d with
      | true=>trivial
      | false=>exact key _ hb' hd' hh
    | rptr s' q j y =>
     simp only [TV.stale]
     cases hb':Nat.beq s' s with
     | true=>trivial
     | false =>
      simp only [cond_false,TV.dep]
      cases hd':Nat.beq s' d with
      | true=>trivial
      | false=>exact key _ hb' hd' hh
    | dptr x=>exact key _ rfl rfl hh
    | bdp s' x =>
     simp only [TV.stale]
     cases hb':Nat.beq s' s with
     | true=>trivial
     | false =>
      simp only [cond_false,TV.dep]
      cases hd':Nat.beq s' d with
      | true=>trivial
      | false=>exact key _ hb' hd' hh
    | bor s' x =>
     simp only [TV.stale]
     cases hb':Nat.beq s' s with
     | true=>trivial
     | false =>
      simp only [cond_false,TV.dep]
      cases hd':Nat.beq s' d with
      | true=>trivial
      | false=>exact key _ hb' hd' hh
    | clo f caps =>
     simp only [TV.stale,TV.dep]
     cases caps.any fun s=>Nat.beq s d<;>first|exact hh|trivial
 ·simp only [get,kill_eq]
  rw [not_beq (show d≠n by omega),cond_false,not_beq (show s≠n by omega),cond_false,hR.out n hn];rfl
theorem J.takeRow{q:Bool}{ops:Array Oper}{l:List Oper}{K:St→Prop}{dd t s i:Nat}{y:AV}{xs:List AV}{x2:Operand}{ts:Array Nat}{ty:Nat}{pos:String}{aft:Array Edge}{g:Option (Nat×Bool)}(ht:get σ t=.rref s i y)(hs:get σ s=.av (.sl true 1 xs))(hy:y≠.dead)(hst:Nat.beq s t=false)(hi:i<xs.length)
  (h:J q S N ops (⟨some dd,.call ⟨.builtin .append,#[.tmp t,x2],ts⟩,ty,pos,aft,g⟩::l) K ((σ.upd false s (.av (.sl true 1 (xs.set i .dead)))).put t (.av y))):J q S N ops (⟨some dd,.call ⟨.builtin .append,#[.tmp t,x2],ts⟩,ty,pos,aft,g⟩::l) K σ:=by
 unfold J at *
 cases q with
 | true=>exact fun hd w0 L0 Q a w hQ ⟨L,hR⟩=>h hd w0 L0 Q a w hQ ⟨_,hR.takeRow hs ht hy (of_not_beq hst) hi⟩
 | false=>exact fun hd w0 L0 Q a w hQ ⟨L,hR⟩=>h hd w0 L0 Q a w hQ ⟨_,hR.takeRow hs ht hy (of_not_beq hst) hi⟩
theorem CW.leS{c:Code}{Q:Exit→St→Prop}(s:Nat){x y:AV}(hs:get σ s=.av x)(hle:AV.le x y)(h:CW S N c Q (σ.upd false s (.av y))):CW S N c Q σ:=by
 unfold CW at *
 refine fun w0 L0 Q' a w hQ ⟨L,hR⟩=>h w0 L0 Q' a w hQ ⟨L,hR.defers,hR.size,hR.keep,hR.lok,fun n hn=>?_,fun n hn=>?_,hR.fix,hR.glob⟩
 ·simp only [get]
  by_cases hsn:s=n
  ·subst hsn
   rw [Nat.beq_refl,cond_true]
   have:=hR.hold s hn
   rw [hs] at this
   exact Rep.le hle this
  ·rw [not_beq hsn,cond_false]
   have hh:=hR.hold n hn
   generalize get σ n=tv at hh
   cases tv with
   | rref s' q y=>simp only [TV.stale];cases Nat.beq s' s<;>first|exact hh|trivial
   | ptr s' q c y=>simp only [TV.stale];cases Nat.beq s' s<;>first|exact hh|(obtain⟨k,h1,h2,_⟩:=hh;exact⟨k,h1,h2,fun h=>absurd rfl h⟩)
   | fpt s' q y=>simp only [TV.stale];cases Nat.beq s' s<;>first|exact hh|(obtain⟨k,h1,h2,_⟩:=hh;exact⟨k,h1,h2,fun h=>absurd rfl h⟩)
   | rptr s' q j y=>simp only [TV.stale];cases Nat.beq s' s<;>first|exact hh|trivial
   | bdp s' x=>simp only [TV.stale];cases Nat.beq s' s<;>first|exact hh|trivial
   | bor s' x=>simp only [TV.stale];cases Nat.beq s' s<;>first|exact hh|trivial
   | _=>exact hh
 ·simp only [get]
  have:=own_lt hR hs (by simp)
  rw [not_beq (show s≠n by omega),cond_false,hR.out n hn];rfl
end
section
variable {S:Sys} {N:Nat} {σ:St} {q:Bool} {ops:Array Oper} {l:List Oper} {K:St→Prop} {o:Oper}
theorem J.skipU{d:Nat}(hg:live ops o.guard σ=some false)(hd:o.dst=some d)(h:J q S N ops l K (σ.put d (.av (.val undef)))):J q S N ops (o::l) K σ:=by
 unfold J at *
 have put:∀ {w0:World} {L0:Nat→Lab} {a:Act} {w:World},DOk S N d→Rel S w0 L0 N σ a w→Rel S w0 L0 N (σ.put d (.av (.val undef))) (a.put o.dst undef) w:=fun hlt ⟨L,hR⟩=>⟨_,by rw [hd];exact hR.put hlt .val⟩
 cases q with
 | true =>
  intro hdo w0 L0 Q a w hQ hR
  obtain⟨h1,h2⟩:=dstOk_cons hdo
  simp only [wpQuiet,live_wanted hg hR,Bool.false_eq_true,if_false]
  exact h h2 w0 L0 Q _ w hQ (put (h1 d hd) hR)
 | false =>
  intro hdo w0 L0 Q a w hQ hR
  obtain⟨h1,h2⟩:=dstOk_cons hdo
  simp only [wpList,live_wanted hg hR,Bool.false_eq_true,if_false]
  exact h h2 w0 L0 Q _ w hQ (put (h1 d hd) hR)
def gsl(ops:Array Oper):Option (Nat×Bool)→Option Nat
 | none=>none
 | some (j,_)=>(ops[j]?).bind (·.dst)
theorem J.skipV{d t:Nat}(hg:gsl ops o.guard=some t)(ht:get σ t=.av (.val undef))(hd:o.dst=some d)(h:J q S N ops l K (σ.put d (.av (.val undef)))):J q S N ops (o::l) K σ:=by
 have hw:∀ {w0:World} {L0:Nat→Lab} {a:Act} {w:World},Rel S w0 L0 N σ a w→Region.wanted o (yielded ops a.tmps)=false:=fun{w0 L0 a w} ⟨L,hR⟩=>by
  have hh:=hR.hold t (own_lt hR ht (by simp))
  rw [ht] at hh
  unfold Region.wanted
  cases hgd:o.guard with
  | none=>rw [hgd] at hg;cases hg
  | some jb =>
   obtain⟨j,c⟩:=jb
   rw [hgd] at hg
   simp only [gsl] at hg
   have hv:a.tmps.getD t undef=undef:=by generalize a.tmps.getD t undef=v at hh;cases hh;rfl
   simp only [yielded,hg,Option.bind_some]
   rw [Array.getD_eq_getD_getElem?] at hv
   cases ht':a.tmps[t]? with
   | none=>rfl
   | some v=>rw [ht'] at hv;simp only [Option.getD_some] at hv;subst hv;rfl
 unfold J at *
 have put:∀ {w0:World} {L0:Nat→Lab} {a:Act} {w:World},DOk S N d→Rel S w0 L0 N σ a w→Rel S w0 L0 N (σ.put d (.av (.val undef))) (a.put o.dst undef) w:=fun hlt ⟨L,hR⟩=>⟨_,by rw [hd];exact hR.put hlt .val⟩
 cases q with
 | true =>
  intro hdo w0 L0 Q a w hQ hR
  obtain⟨h1,h2⟩:=dstOk_cons hdo
  simp only [wpQuiet,hw hR,Bool.false_eq_true,if_false]
  exact h h2 w0 L0 Q _ w hQ (put (h1 d hd) hR)
 | false =>
  intro hdo w0 L0 Q a w hQ hR
  obtain⟨h1,h2⟩:=dstOk_cons hdo
  simp only [wpList,hw hR,Bool.false_eq_true,if_false]
  exact h h2 w0 L0 Q _ w hQ (put (h1 d hd) hR)
end
/-! ### rows and tables -/
theorem noSh_tup2{a b:AV}(ha:NoSh a)(hb:NoSh b):NoSh (.tup [a,b]):=.tup fun x hx=>by
 rcases List.mem_cons.1 hx with rfl|hx
 ·exact ha
 ·rw [List.mem_singleton.1 hx];exact hb
def fnI(P:Program)(D:Int→Prop)(p:Int→Bool):AV:=.fn (BehA P (fun xs9=>∃ x,xs9=[.int x]∧D x) (fun xs9=>match xs9 with|[.int n]=>.bool (p n)|_=>.bool false))
theorem ArgOk.funI{S:Sys}{N:Nat}{σ:St}{f:Nat}{D:Int→Prop}{p:Int→Bool}(hf:FnOk S.P f)(hs:∀ x,D x→FnSpec S.P f [.int x] [.int x] (.bool (p x))):ArgOk S N σ (.func f) true (fnI S.P D p) :=
 .func rfl hf (fun xs9 hd=>by obtain⟨x,rfl,hx⟩:=hd;exact hs x hx) (fun xs9 hd=>by obtain⟨x,rfl,hx⟩:=hd;rfl)
section
variable {S:Sys} {N:Nat} {σ:St} {d:Nat} {ty:Nat} {pos:String} {aft:Array Edge} {g:Option (Nat×Bool)}
theorem e_alloc{t:Nat}{ti:TI}(hT:S.T t=some ti):EStep S ⟨some d,.alloc t,ty,pos,aft,g⟩ σ (σ.put d (.av (.pt true ti.zero))):=by
 intro w0 L0 N a w hN ⟨L,hR⟩
 obtain⟨f,zv,hf1,hf2,hf3,hf4,hf5,hf6,hf7⟩:=(S.ok t ti hT).info
 refine⟨.pointer (some ⟨w.heap.size,0,none⟩),w.alloc (.cells zv.cells t),.inl ?_,hR.alloc (hN d rfl) ?_⟩
 ·simp [execOp,Instr.alloc,zeroValue,typeInfo,hf1,hf4,newVar,newRow]
 have hlen:zv.cells.size=ti.zero.length:=by rw [← Array.length_toList,hf5,List.length_map]
 refine .ptO (fun o=>(zv.cells[o]?).getD undef) (by simp [setL]) (heap_alloc_new w _) hlen (fun o ho=>?_) (fun o y hy=>?_)
 ·have:o<zv.cells.size:=by omega
  simp [this]
 ·have e1:zv.cells.toList[o]?=some y.toV:=by rw [hf5,List.getElem?_map,hy];rfl
  rw [Array.getElem?_toList] at e1
  rw [e1]
  exact toV_rep ((List.all_eq_true.1 hf6) y (List.mem_of_getElem? hy))
theorem e_box{t:Nat}{v:Operand}{z:AV}(hv:ov σ v=.av z)(hz:z.isOwn=false)(hok:z.varOk=true):EStep S ⟨some d,.box t v,ty,pos,aft,g⟩ σ (σ.put d (.av (.pt true z.cells))):=by
 intro w0 L0 N a w hN ⟨L,hR⟩
 obtain⟨v1,v2,v3⟩:=val_cells hR hv hz hok
 refine⟨.pointer (some ⟨w.heap.size,0,none⟩),w.alloc (.cells (a.eval v).cells t),.inl ?_,hR.alloc (hN d rfl) ?_⟩
 ·simp [execOp,Instr.box,newVar,newRow]
 refine .ptO (fun o=>((a.eval v).cells[o]?).getD undef) (by simp [setL]) (heap_alloc_new w _) v1 (fun o ho=>?_) (fun o y hy=>?_)
 ·have:o<(a.eval v).cells.size:=by omega
  simp [this]
 ·obtain⟨u,h1,h2⟩:=v3 o y hy
  rw [h1]
  exact(Rep.inNew hR h2).any _
theorem pt_core{t:Nat}{ti:TI}(hT:S.T t=some ti){L:Nat→Lab}{w:World}{p:List Nat}{off b:Nat}{cs cs' zs:List AV}{v zv:Value}(hL:L b=.my p)(hinj:∀ b b' p,L b=.my p→L b'=.my p→b=b')
  (hh:Rep L w (some p) (.pt true cs) v) (hfit:off+zs.length≤cs.length) (hz:zs.length=ti.size) (v1:zv.cells.size=zs.length) (v2:∀ u∈zv.cells.toList,u.oneCell'=true) (v3:∀ (j:Nat) y,zs[j]?=some y→∃ u,zv.cells[j]?=some u∧Rep L w none y u)
  (hl:cs'.length=cs.length) (hcs:∀ (j:Nat) y,cs'[j]?=some y→(off≤j∧j<off+zs.length∧zs[j-off]?=some y)∨(¬ (off≤j∧j<off+zs.length)∧cs[j]?=some y)) :
  ∃ W:World,(Instr.storeAt t (.pointer (some ⟨b,off,none⟩)) zv).run S.P w=.ok () W∧W.heap.size=w.heap.size∧W.os=w.os∧W.tape=w.tape∧W.output=w.output∧(∀ k,k≠b→W.heap[k]?=w.heap[k]?)∧Rep L W (some p) (.pt true cs') v:=by
 cases hh with
 | @ptO p cs b' arr e u hL' hb hsz hcell hr =>
  have:=hinj _ _ _ hL hL'
  subst this
  obtain⟨A,hrun,hAsz,harr⟩:∃ A:Array Value,(Instr.storeAt t (.pointer (some ⟨b,off,none⟩)) zv).run S.P w=.ok () (w.setRow b A)∧A.size=arr.size∧∀ j,A[j]?=if off≤j∧j<off+zv.cells.size then zv.cells[j-off]? else arr[j]? :=
   ⟨_,run_store_at (S:=S) hT (off:=off) (v:=zv) hb (by omega) v2 (by omega),by simp;omega,fun j=>by
    have:=getElem?_splice arr.toList zv.cells.toList off j (by simp;omega)
    simpa using this⟩
  have hother:∀ k,k≠b→(w.setRow b A).heap[k]?=w.heap[k]?:=fun k hk=>setRow_other w b k A hk
  have hnew:=setRow_heap w b arr A e (0,0) hb
  have hsz':(w.setRow b A).heap.size=w.heap.size:=by simp
  have ho:(w.setRow b A).os=w.os:=rfl
  have ht:(w.setRow b A).tape=w.tape:=rfl
  have hu:(w.setRow b A).output=w.output:=rfl
  generalize w.setRow b A=W at hrun hother hnew hsz' ho ht hu
  refine⟨W,hrun,hsz',ho,ht,hu,hother,?_⟩
  have hslots:∀ π (y:AV) (u:Value),Rep L w π y u→(∀ p',π=some p'→∃ o q,p'=p++o::q)→Rep L W π y u:=fun π y u h hπ =>
   h.frame (by omega) ho ht hu (fun k hk _=>⟨hk,hother k (fun e=>by subst e;rw [hL] at hk;cases hk)⟩) π fun p' hp'=>⟨p',hp',fun k q hk=>⟨hk,hother k (fun e=>by
    subst e
    obtain⟨o,q',rfl⟩:=hπ p' hp'
    rw [hL] at hk;injection hk with hk
    have:=congrArg List.length hk
    simp at this)⟩⟩
  refine .ptO (fun o=>(A[o]?).getD undef) hL hnew (by omega) (fun o ho=>?_) (fun o y hy=>?_)
  ·have:o<A.size:=by omega
   simp [this]
  ·rw [harr]
   rcases hcs o y hy with⟨h1,h2,h3⟩|⟨h1,h2⟩
   ·rw [if_pos (by omega)]
    obtain⟨u',hu',hr'⟩:=v3 _ y h3
    rw [hu']
    exact(hslots none y u' hr' (fun p hp=>by cases hp)).any _
   ·rw [if_neg (by omega)]
    have ho:o<cs.length:=(List.getElem?_eq_some_iff.1 h2).1
    rw [hcell o ho]
    exact hslots _ y _ (hr o y h2) (fun p hp=>by cases hp;exact⟨o,[],rfl⟩)
theorem pt_at{L:Nat→Lab}{w:World}{p:List Nat}{cs:List AV}{v:Value}(h:Rep L w (some p) (.pt true cs) v):∃ b,L b=.my p∧v=.pointer (some ⟨b,0,none⟩)∧b<w.heap.size∧∀ (j:Nat) z,cs[j]?=some z→∃ u,w.cell? ⟨b,j,none⟩=some u∧Rep L w (some (p++[j])) z u:=by
 cases h with
 | @ptO p cs b arr e u hL hb hsz hcell hr =>
  exact⟨b,hL,rfl,(Array.getElem?_eq_some_iff.1 hb).1,fun j z hz=>⟨u j,by rw [cell_of_row w b j arr e (0,0) hb];exact hcell j (List.getElem?_eq_some_iff.1 hz).1,hr j z hz⟩⟩
theorem e_stPt{t s:Nat}{ti:TI}{v:Operand}{cs:List AV}{z:AV}(hs:get σ s=.av (.pt true cs))(hT:S.T t=some ti)(hv:ov σ v=.av z)(hz:z.isOwn=false)(hok:z.varOk=true)(hc:Nat.beq z.cells.length ti.size=true)(hc2:Nat.beq cs.length ti.size=true) :
  EStep S ⟨none,.store t (.tmp s) v,ty,pos,aft,g⟩ σ (σ.upd false s (.av (.pt true z.cells))):=by
 intro w0 L0 N a w _ ⟨L,hR⟩
 have hc1:=Nat.eq_of_beq_eq_true hc
 have hc3:=Nat.eq_of_beq_eq_true hc2
 have hsN:=own_lt hR hs (by simp)
 have hh:=hR.hold s hsN
 rw [hs] at hh
 simp only [Hold] at hh
 obtain⟨v1,v2,v3⟩:=val_cells hR hv hz hok
 obtain⟨b,hL,hp,_,_⟩:=pt_at hh
 obtain⟨W,hrun,hsz,ho,ht,hu,hother,hrep⟩:=pt_core hT (off:=0) (zs:=z.cells) (cs':=z.cells) hL hR.lok.inj hh (by omega) hc1 v1 v2 v3 (by omega) (fun j y hy=>.inl ⟨Nat.zero_le _,by have:=(List.getElem?_eq_some_iff.1 hy).1;omega,by simpa using hy⟩)
 have hev:a.eval (.tmp s)=.pointer (some ⟨b,0,none⟩):=hp
 exact⟨undef,W,.inr ⟨by simp only [execOp,hev,Sem.run_bind,hrun];rfl,rfl⟩,L,hR.write (b:=b) (q0:=[]) hsN hL hsz ho ht hu hother hrep false (fun h=>by cases h)⟩
theorem e_stF{t s o:Nat}{ti:TI}{x v:Operand}{cs:List AV}{y0 z:AV}(hx:ov σ x=.fpt s o y0)(hs:get σ s=.av (.pt true cs))(hT:S.T t=some ti)(hv:ov σ v=.av z)(hz:z.isOwn=false)(hok:z.varOk=true)(h1:z.cells=[z])(hc2:Nat.beq ti.size 1=true)(ho:o<cs.length) :
  EStep S ⟨none,.store t x v,ty,pos,aft,g⟩ σ (σ.upd false s (.av (.pt true (cs.set o z)))):=by
 intro w0 L0 N a w _ ⟨L,hR⟩
 have hc3:=Nat.eq_of_beq_eq_true hc2
 obtain⟨_,⟨b,hL,hp,_⟩,_⟩:=hold_plain hR hx (by simp)
 have hsN:=own_lt hR hs (by simp)
 have hh:=hR.hold s hsN
 rw [hs] at hh
 simp only [Hold] at hh
 obtain⟨v1,v2,v3⟩:=val_cells hR hv hz hok
 obtain⟨W,hrun,hsz,ho',ht,hu,hother,hrep⟩:=pt_core hT (off:=o) (zs:=z.cells) (cs':=cs.set o z) hL hR.lok.inj hh (by rw [h1];simp;omega) (by rw [h1,hc3];rfl) v1 v2 v3 (by simp) (fun j y hy=>by
  rw [List.getElem?_set] at hy
  rw [h1]
  by_cases hoj:o=j
  ·subst hoj
   rw [if_pos rfl,if_pos ho] at hy
   exact .inl ⟨Nat.le_refl _,by simp,by simpa using hy⟩
  ·rw [if_neg hoj] at hy
   exact .inr ⟨by simp;omega,hy⟩)
 exact⟨undef,W,.inr ⟨by simp only [execOp,hp,Sem.run_bind,hrun];rfl,rfl⟩,L,hR.write (b:=b) (q0:=[]) hsN hL hsz ho' ht hu hother hrep false (fun h=>by cases h)⟩
theorem e_stFM{α:Type}{f:α→AV}{l:List α}{n:α}{t s o:Nat}{ti:TI}{x v:Operand}{y0:AV}(hx:ov σ x=.fpt s o y0)(hs:get σ s=.av (.pt true (l.map f)))(hT:S.T t=some ti)(hv:ov σ v=.av (f n))(hz:(f n).isOwn=false)(hok:(f n).varOk=true)(h1:(f n).cells=[f n])(hc2:Nat.beq ti.size 1=true)(ho:o<l.length) :
  EStep S ⟨none,.store t x v,ty,pos,aft,g⟩ σ (σ.upd false s (.av (.pt true ((l.set o n).map f)))):=by
 rw [List.map_set]
 exact e_stF hx hs hT hv hz hok h1 hc2 (by simpa using ho)
theorem run_fieldAt{P:Program}{t i c:Nat}{fields:Array Field}{f:Field}(hu:P.underlying t=some (.struct fields))(hf:fields[i]?=some f)(hs:∃ fi,P.info? f.type=some fi∧fi.size=c)(hc:c≠0)(b off:Nat)(w:World) :
  (Instr.fieldAt t (.pointer (some ⟨b,off,none⟩)) i).run P w=.ok (.pointer (some ⟨b,off+f.offset,none⟩)) w:=by
 obtain⟨fi,h1,h2⟩:=hs
 subst h2
 simp [Instr.fieldAt,run_underlying hu,hf,Instr.sureAddr,fieldPlace,Go.sizeOf,typeInfo,h1,hc,addr_add]
theorem TOk.fld{P:Program}{t sz by_ i off fty:Nat}{fs:List (Nat×Nat)}{z:List AV}(h:TOk P t ⟨.struct fs,sz,by_,z⟩)(hf:fs[i]?=some (off,fty)):∃ fields f,P.underlying t=some (.struct fields)∧fields[i]?=some f∧f.offset=off∧f.type=fty:=by
 obtain⟨d,hd,fields,he,hl⟩:=h.desc
 subst he
 rw [← hl,List.getElem?_map,Option.map_eq_some_iff] at hf
 obtain⟨f,h1,h2⟩:=hf
 injection h2 with h3 h4
 exact⟨fields,f,hd,by simpa using h1,h3,h4⟩
theorem s_fadO{t sz by_ i off fty s:Nat}{fs:List (Nat×Nat)}{zz cs:List AV}{tif:TI}{y:AV}(hs:get σ s=.av (.pt true cs))(hT:S.T t=some ⟨.struct fs,sz,by_,zz⟩)(hf:fs[i]?=some (off,fty))(hF:S.T fty=some tif)(hc:Nat.beq tif.size 0=false)(hy:cs[off]?=some y)(h1:y.cells=[y])(hsd:Nat.beq s d=false) :
  Step S ⟨some d,.fieldAddr t (.tmp s) i,ty,pos,aft,g⟩ σ (σ.put d (.fpt s off y)):=by
 intro w0 L0 N a w hN ⟨L,hR⟩
 have hh:=hR.hold s (own_lt hR hs (by simp))
 rw [hs] at hh
 simp only [Hold] at hh
 obtain⟨b,hL,hp,_,hcs⟩:=pt_at hh
 obtain⟨fields,f,hu,hfi,h2,h3⟩:=(S.ok t _ hT).fld hf
 have hev:a.eval (.tmp s)=.pointer (some ⟨b,0,none⟩):=hp
 have hsz:=(S.ok fty _ hF).size
 rw [← h3] at hsz
 refine⟨.pointer (some ⟨b,0+f.offset,none⟩),fun w' _=>?_,Rel.putPlain (n:=d) hR (hN d rfl) rfl hsd ⟨b,hL,by rw [h2];simp,fun _ j z hz=>?_⟩⟩
 ·simp only [execOp,hev,Sem.run_bind,run_fieldAt hu hfi hsz (of_not_beq hc)];rfl
 ·rw [h1] at hz
  cases j with
  | zero=>simp only [List.getElem?_cons_zero,Option.some.injEq] at hz;subst hz;simpa using hcs off _ hy
  | succ j=>simp at hz
theorem s_fadR{t sz by_ i off fty s q:Nat}{fs:List (Nat×Nat)}{zz cs:List AV}{tif:TI}{y:AV}(hq:get σ q=.ref s)(hs:get σ s=.av (.pt true cs))(hT:S.T t=some ⟨.struct fs,sz,by_,zz⟩)(hf:fs[i]?=some (off,fty))(hF:S.T fty=some tif)(hc:Nat.beq tif.size 0=false)(hy:cs[off]?=some y)(h1:y.cells=[y])(hsd:Nat.beq s d=false) :
  Step S ⟨some d,.fieldAddr t (.tmp q) i,ty,pos,aft,g⟩ σ (σ.put d (.fpt s off y)):=by
 intro w0 L0 N a w hN ⟨L,hR⟩
 have hh:=hR.hold s (own_lt hR hs (by simp))
 have hh2:=hR.hold q (own_lt hR hq (by simp))
 rw [hs] at hh
 rw [hq] at hh2
 simp only [Hold] at hh hh2
 obtain⟨b,hL,hp,_,hcs⟩:=pt_at hh
 obtain⟨fields,f,hu,hfi,h2,h3⟩:=(S.ok t _ hT).fld hf
 have hev:a.eval (.tmp q)=.pointer (some ⟨b,0,none⟩):=hh2.trans hp
 have hsz:=(S.ok fty _ hF).size
 rw [← h3] at hsz
 refine⟨.pointer (some ⟨b,0+f.offset,none⟩),fun w' _=>?_,Rel.putPlain (n:=d) hR (hN d rfl) rfl hsd ⟨b,hL,by rw [h2];simp,fun _ j z hz=>?_⟩⟩
 ·simp only [execOp,hev,Sem.run_bind,run_fieldAt hu hfi hsz (of_not_beq hc)];rfl
 ·rw [h1] at hz
  cases j with
  | zero=>simp only [List.getElem?_cons_zero,Option.some.injEq] at hz;subst hz;simpa using hcs off _ hy
  | succ j=>simp at hz
theorem s_fadD{t sz by_ i off fty:Nat}{fs:List (Nat×Nat)}{zz cs:List AV}{tif:TI}{y:AV}{x:Operand}(hx:ov σ x=.dptr (.agg cs))(hT:S.T t=some ⟨.struct fs,sz,by_,zz⟩)(hf:fs[i]?=some (off,fty))(hF:S.T fty=some tif)(hc:Nat.beq tif.size 0=false)(hy:cs[off]?=some y)(h1:y.cells=[y]) :
  Step S ⟨some d,.fieldAddr t x i,ty,pos,aft,g⟩ σ (σ.put d (.dptr y)):=by
 intro w0 L0 N a w hN ⟨L,hR⟩
 obtain⟨_,⟨b,o,hv,hb,hlt,hcs⟩,_⟩:=hold_plain hR hx (by simp)
 obtain⟨fields,f,hu,hfi,h2,h3⟩:=(S.ok t _ hT).fld hf
 have hsz:=(S.ok fty _ hF).size
 rw [← h3] at hsz
 refine⟨.pointer (some ⟨b,o+f.offset,none⟩),fun w' _=>?_,Rel.putPlain (n:=d) hR (hN d rfl) rfl rfl ⟨b,o+f.offset,rfl,hb,hlt,fun j z hz=>?_⟩⟩
 ·simp only [execOp,hv,Sem.run_bind,run_fieldAt hu hfi hsz (of_not_beq hc)];rfl
 ·rw [h1] at hz
  cases j with
  | zero=>simp only [List.getElem?_cons_zero,Option.some.injEq] at hz;subst hz;rw [h2];exact hcs off _ hy
  | succ j=>simp at hz
theorem s_fadS{t sz by_ i off fty:Nat}{fs:List (Nat×Nat)}{zz cs:List AV}{tif:TI}{y:AV}{x:Operand}(hx:ov σ x=.av (.pt false cs))(hT:S.T t=some ⟨.struct fs,sz,by_,zz⟩)(hf:fs[i]?=some (off,fty))(hF:S.T fty=some tif)(hc:Nat.beq tif.size 0=false)(hy:cs[off]?=some y)(h1:y.cells=[y]) :
  Step S ⟨some d,.fieldAddr t x i,ty,pos,aft,g⟩ σ (σ.put d (.dptr y)):=by
 intro w0 L0 N a w hN ⟨L,hR⟩
 obtain⟨n,hn⟩:=ev_av hR hx
 generalize hev:a.eval x=v at hn
 cases hn with
 | @ptS _ _ b o u hb hlt hcell hr =>
  obtain⟨fields,f,hu,hfi,h2,h3⟩:=(S.ok t _ hT).fld hf
  have hsz:=(S.ok fty _ hF).size
  rw [← h3] at hsz
  refine⟨.pointer (some ⟨b,o+f.offset,none⟩),fun w' _=>?_,Rel.putPlain (n:=d) hR (hN d rfl) rfl rfl ⟨b,o+f.offset,rfl,hb,hlt,fun j z hz=>?_⟩⟩
  ·simp only [execOp,hev,Sem.run_bind,run_fieldAt hu hfi hsz (of_not_beq hc)];rfl
  ·rw [h1] at hz
   cases j with
   | zero=>simp only [List.getElem?_cons_zero,Option.some.injEq] at hz;subst hz;rw [h2];exact⟨_,hcell off (List.getElem?_eq_some_iff.1 hy).1,hr off _ hy⟩
   | succ j=>simp at hz
theorem s_fadP{t sz by_ i off fty s e c:Nat}{fs:List (Nat×Nat)}{zz cs:List AV}{tif:TI}{y:AV}{x:Operand}(hx:ov σ x=.ptr s e c (.agg cs))(hT:S.T t=some ⟨.struct fs,sz,by_,zz⟩)(hf:fs[i]?=some (off,fty))(hF:S.T fty=some tif)(hc:Nat.beq tif.size 0=false)(hy:cs[off]?=some y)(h1:y.cells=[y])(hsd:Nat.beq s d=false) :
  Step S ⟨some d,.fieldAddr t x i,ty,pos,aft,g⟩ σ (σ.put d (.fpt s (e*c+off) y)):=by
 intro w0 L0 N a w hN ⟨L,hR⟩
 obtain⟨_,⟨b,hL,hv,hcs⟩,_⟩:=hold_plain hR hx (by simp)
 obtain⟨fields,f,hu,hfi,h2,h3⟩:=(S.ok t _ hT).fld hf
 have hsz:=(S.ok fty _ hF).size
 rw [← h3] at hsz
 refine⟨.pointer (some ⟨b,e*c+f.offset,none⟩),fun w' _=>?_,Rel.putPlain (n:=d) hR (hN d rfl) rfl hsd ⟨b,hL,by rw [h2],fun _ j z hz=>?_⟩⟩
 ·simp only [execOp,hv,Sem.run_bind,run_fieldAt hu hfi hsz (of_not_beq hc)];rfl
 ·rw [h1] at hz
  cases j with
  | zero=>simp only [List.getElem?_cons_zero,Option.some.injEq] at hz;subst hz;simpa using hcs AV.noConfusion off _ hy
  | succ j=>simp at hz
theorem s_ldO{t s:Nat}{ti:TI}{cs:List AV}{y:AV}(hs:get σ s=.av (.pt true cs))(hT:S.T t=some ti)(hy:y.cells=cs)(hf:y.fits ti=true)(hp:y.isOwn=false)(hn:y.noOwn=true):Step S ⟨some d,.load t (.tmp s),ty,pos,aft,g⟩ σ (σ.put d (.av y)) :=
 step_val hp fun w0 L0 N a w L hR=>by
  have hh:=hR.hold s (own_lt hR hs (by simp))
  rw [hs] at hh
  simp only [Hold] at hh
  obtain⟨b,hL,hpv,hlt,hcs⟩:=pt_at hh
  obtain⟨v,h1,h2,_⟩:=load_core (S.ok t ti hT) hf (off:=0) hlt (noOwn_spec hn) (π:=fun j=>some ([s]++[j])) (fun j z hz=>by rw [hy] at hz;rw [Nat.zero_add];exact hcs j z hz)
  have hev:a.eval (.tmp s)=.pointer (some ⟨b,0,none⟩):=hpv
  exact⟨v,fun w' e=>by simp only [execOp,hev,Instr.loadAt,Instr.sureAddr];simp [h1 w' e],Rep.replace h2 hp⟩
theorem s_ldS{t:Nat}{ti:TI}{cs:List AV}{y:AV}{x:Operand}(hx:ov σ x=.av (.pt false cs))(hT:S.T t=some ti)(hy:y.cells=cs)(hf:y.fits ti=true)(hp:y.isOwn=false)(hn:y.noOwn=true):Step S ⟨some d,.load t x,ty,pos,aft,g⟩ σ (σ.put d (.av y)) :=
 step_val hp fun w0 L0 N a w L hR=>by
  obtain⟨n,hn'⟩:=ev_av hR hx
  generalize hev:a.eval x=v at hn'
  cases hn' with
  | @ptS _ _ b o u hb hlt hcell hr =>
   obtain⟨v,h1,h2,_⟩:=load_core (S.ok t ti hT) hf (off:=o) hlt (noOwn_spec hn) (π:=fun _=>none) (fun j z hz=>by rw [hy] at hz;exact⟨u j,hcell j (List.getElem?_eq_some_iff.1 hz).1,hr j z hz⟩)
   exact⟨v,fun w' e=>by simp only [execOp,hev,Instr.loadAt,Instr.sureAddr];simp [h1 w' e],h2⟩
theorem s_ldO1{t s:Nat}{ti:TI}{y:AV}(hs:get σ s=.av (.pt true [y]))(hT:S.T t=some ti)(hy:y.cells=[y])(hf:y.fits ti=true)(hp:y.isOwn=false)(hn:y.noOwn=true):Step S ⟨some d,.load t (.tmp s),ty,pos,aft,g⟩ σ (σ.put d (.av y)):=s_ldO hs hT hy hf hp hn
theorem s_ldS1{t:Nat}{ti:TI}{y:AV}{x:Operand}(hx:ov σ x=.av (.pt false [y]))(hT:S.T t=some ti)(hy:y.cells=[y])(hf:y.fits ti=true)(hp:y.isOwn=false)(hn:y.noOwn=true):Step S ⟨some d,.load t x,ty,pos,aft,g⟩ σ (σ.put d (.av y)):=s_ldS hx hT hy hf hp hn
theorem s_ldOA{t s:Nat}{ti:TI}{cs:List AV}(hs:get σ s=.av (.pt true cs))(hT:S.T t=some ti)(hf:(AV.agg cs).fits ti=true)(hn:(AV.agg cs).noOwn=true):Step S ⟨some d,.load t (.tmp s),ty,pos,aft,g⟩ σ (σ.put d (.av (.agg cs))):=s_ldO hs hT rfl hf rfl hn
theorem run_indexArr{P:Program}{t e c m:Nat}{b off:Nat}{i:Int}(ht:P.underlying t=some (.array m e))(hs:∃ f,P.info? e=some f∧f.size=c)(h0:0≤i)(h1:i.toNat<m)(w:World) :
  (Instr.indexAt t (.pointer (some ⟨b,off,none⟩)) (.int .i64 i)).run P w=.ok (.pointer (some ⟨b,off+i.toNat*c,none⟩)) w:=by
 obtain⟨f,hf,hc⟩:=hs
 have:i<(m:Int):=by omega
 simp [Instr.indexAt,asIntOf,run_underlying ht,h0,this,Go.sizeOf,typeInfo,hf,hc,addr_add,Instr.sureAddr]
theorem TOk.arr{P:Program}{t n e sz by_:Nat}{z:List AV}(h:TOk P t ⟨.arr n e,sz,by_,z⟩):P.underlying t=some (.array n e):=by
 obtain⟨d,hd,he⟩:=h.desc
 simp only [TK.ofDesc] at he
 rw [hd,he]
theorem s_ixaA{α:Type}{f:α→AV}{l:List α}{r:α}{t e m sz by_ s:Nat}{z:List AV}{ti:TI}{i:Operand}{n:Int}(hs:get σ s=.av (.pt true (l.map f)))(hi:ov σ i=.av (.int n))(hT:S.T t=some ⟨.arr m e,sz,by_,z⟩)(hE:S.T e=some ti)(hc:Nat.beq ti.size 1=true)(h0:0≤n)(hr:l[n.toNat]?=some r)(h1:(f r).cells=[f r])(hm:n.toNat<m)(hsd:Nat.beq s d=false) :
  Step S ⟨some d,.indexAddr t (.tmp s) i,ty,pos,aft,g⟩ σ (σ.put d (.fpt s n.toNat (f r))):=by
 intro w0 L0 N a w hN ⟨L,hR⟩
 have hh:=hR.hold s (own_lt hR hs (by simp))
 rw [hs] at hh
 simp only [Hold] at hh
 obtain⟨b,hL,hp,_,hcs⟩:=pt_at hh
 have hev:a.eval (.tmp s)=.pointer (some ⟨b,0,none⟩):=hp
 have hsz:=(S.ok e _ hE).size
 rw [Nat.eq_of_beq_eq_true hc] at hsz
 refine⟨.pointer (some ⟨b,0+n.toNat*1,none⟩),fun w' _=>?_,Rel.putPlain (n:=d) hR (hN d rfl) rfl hsd ⟨b,hL,by simp,fun _ j z hz=>?_⟩⟩
 ·simp only [execOp,hev,ev_int hR hi,Sem.run_bind,run_indexArr (S.ok t _ hT).arr hsz h0 hm];rfl
 ·rw [h1] at hz
  cases j with
  | zero =>
   simp only [List.getElem?_cons_zero,Option.some.injEq] at hz;subst hz
   simpa using hcs n.toNat (f r) (by rw [List.getElem?_map,hr];rfl)
  | succ j=>simp at hz
end
end FM
