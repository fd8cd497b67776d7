/- Calls that turn what the caller owns. No program in sight. -/
import Derived.Test.YtkkcnppgcnmikaaGreatDoorAbd
namespace FM
open Go Go.RowKit
set_option linter.all false
/-! ### which slots are handed over, as which arguments -/
def idxM:List (Nat×Nat)→Nat→Option Nat
 | [],_=>none
 | (s,i)::r,t=>bif Nat.beq s t then some i else idxM r t
def slotM:List (Nat×Nat)→Nat→Option Nat
 | [],_=>none
 | (s,i)::r,k=>bif Nat.beq i k then some s else slotM r k
structure MOk(d n:Nat)(ms:List (Nat×Nat)):Prop where
 inv:∀ s i,idxM ms s=some i→slotM ms i=some s
 inv':∀ i s,slotM ms i=some s→idxM ms s=some i
 lt:∀ s i,idxM ms s=some i→i<n
 nd:idxM ms d=none
theorem MOk.one{d n s i:Nat}(h1:Nat.beq s d=false)(h2:Nat.blt i n=true):MOk d n [(s,i)]:=by
 have e1:∀ t j,idxM [(s,i)] t=some j→t=s∧j=i:=fun t j h=>by
  simp only [idxM] at h
  cases hb:Nat.beq s t with
  | true=>rw [hb,cond_true] at h;exact⟨(Nat.eq_of_beq_eq_true hb).symm,(Option.some.inj h).symm⟩
  | false=>rw [hb,cond_false] at h;cases h
 have e2:∀ j t,slotM [(s,i)] j=some t→t=s∧j=i:=fun j t h=>by
  simp only [slotM] at h
  cases hb:Nat.beq i j with
  | true=>rw [hb,cond_true] at h;exact⟨(Option.some.inj h).symm,(Nat.eq_of_beq_eq_true hb).symm⟩
  | false=>rw [hb,cond_false] at h;cases h
 refine⟨fun t j h=>?_,fun j t h=>?_,fun t j h=>?_,?_⟩
 ·obtain⟨rfl,rfl⟩:=e1 t j h;simp [slotM,Nat.beq_refl]
 ·obtain⟨rfl,rfl⟩:=e2 j t h;simp [idxM,Nat.beq_refl]
 ·obtain⟨rfl,rfl⟩:=e1 t j h;simp [Nat.blt] at h2;omega
 ·simp only [idxM,h1,cond_false]
def inM(ms:List (Nat×Nat))(L:Nat→Lab):Nat→Lab:=fun b=>match L b with
 | .my (t::q)=>match idxM ms t with
  | some i=>.my (i::q)
  | none=>.sh
 | .my []=>.sh
 | l=>l
theorem inM_my{ms:List (Nat×Nat)}{L:Nat→Lab}{b:Nat}{p:List Nat}(h:inM ms L b=.my p):∃ t i q,L b=.my (t::q)∧idxM ms t=some i∧p=i::q:=by
 unfold inM at h
 cases hL:L b with
 | my p' =>
  rw [hL] at h
  cases p' with
  | nil=>cases h
  | cons t q =>
   simp only at h
   cases hi:idxM ms t with
   | some i=>rw [hi] at h;injection h with h;exact⟨t,i,q,rfl,hi,h.symm⟩
   | none=>rw [hi] at h;cases h
 | sh=>rw [hL] at h;cases h
 | fo=>rw [hL] at h;cases h
theorem inM_to{ms:List (Nat×Nat)}{L:Nat→Lab}{b t i:Nat}{q:List Nat}(h:L b=.my (t::q))(hi:idxM ms t=some i):inM ms L b=.my (i::q):=by simp only [inM,h,hi]
theorem inM_no{ms:List (Nat×Nat)}{L:Nat→Lab}{b t:Nat}{q:List Nat}(h:L b=.my (t::q))(hi:idxM ms t=none):inM ms L b=.sh:=by simp only [inM,h,hi]
theorem inM_sh{ms:List (Nat×Nat)}{L:Nat→Lab}{b:Nat}(h:L b=.sh):inM ms L b=.sh:=by simp only [inM,h]
theorem inM_fo{ms:List (Nat×Nat)}{L:Nat→Lab}{b:Nat}:inM ms L b=.fo↔L b=.fo:=by
 unfold inM
 cases hL:L b with
 | my p=>cases p with
  | nil=>simp
  | cons t q=>simp only;cases idxM ms t<;>simp
 | _=>simp
def outM(n d:Nat)(ms:List (Nat×Nat))(sz:Nat)(L L':Nat→Lab):Nat→Lab:=fun b=>match L' b with
 | .my (k::q)=>bif Nat.beq k n then .my (d::q) else match slotM ms k with
  | some s=>.my (s::q)
  | none=>.sh
 | .my []=>.sh
 | _=>if b<sz then match L b with
  | .my (t::q)=>bif Nat.beq t d||(idxM ms t).isSome then .sh else .my (t::q)
  | .my []=>.sh
  | l=>l
  else .sh
theorem outM_my{n d:Nat}{ms:List (Nat×Nat)}{sz:Nat}{L L':Nat→Lab}{b:Nat}{p:List Nat}(h:outM n d ms sz L L' b=.my p) :
  (∃ q,L' b=.my (n::q)∧p=d::q)∨(∃ k s q,L' b=.my (k::q)∧k≠n∧slotM ms k=some s∧p=s::q)∨(b<sz∧(∀ q,L' b≠.my q)∧∃ t q,L b=.my (t::q)∧t≠d∧idxM ms t=none∧p=t::q):=by
 unfold outM at h
 have tail:(∀ q,L' b≠.my q)→(if b<sz then(match L b with
  | .my (t::q)=>bif Nat.beq t d||(idxM ms t).isSome then Lab.sh else .my (t::q)
  | .my []=>.sh
  | l=>l) else .sh)=.my p→(b<sz∧(∀ q,L' b≠.my q)∧∃ t q,L b=.my (t::q)∧t≠d∧idxM ms t=none∧p=t::q):=fun hno h=>by
  split at h
  ·rename_i hlt
   split at h
   ·rename_i t q hL
    cases hc:(Nat.beq t d||(idxM ms t).isSome) with
    | true=>rw [hc] at h;cases h
    | false =>
     rw [hc,cond_false] at h
     injection h with h
     simp only [Bool.or_eq_false_iff] at hc
     refine⟨hlt,hno,t,q,hL,of_not_beq hc.1,?_,h.symm⟩
     cases hi:idxM ms t with
     | none=>rfl
     | some i=>rw [hi] at hc;cases hc.2
   ·cases h
   ·rename_i hL1 hL2
    cases hp:p with
    | nil=>subst hp;exact absurd h hL2
    | cons t q=>subst hp;exact absurd h (hL1 t q)
  ·cases h
 cases hL':L' b with
 | my p' =>
  rw [hL'] at h
  cases p' with
  | nil=>cases h
  | cons k q =>
   simp only at h
   cases hk:Nat.beq k n with
   | true=>rw [hk,cond_true] at h;injection h with h;have:=Nat.eq_of_beq_eq_true hk;subst this;exact .inl ⟨q,rfl,h.symm⟩
   | false =>
    rw [hk,cond_false] at h
    cases hs:slotM ms k with
    | some s=>rw [hs] at h;injection h with h;exact .inr (.inl ⟨k,s,q,rfl,of_not_beq hk,hs,h.symm⟩)
    | none=>rw [hs] at h;cases h
 | sh=>rw [hL'] at h;rw [hL'] at tail;exact .inr (.inr (tail (fun q e=>by cases e) h))
 | fo=>rw [hL'] at h;rw [hL'] at tail;exact .inr (.inr (tail (fun q e=>by cases e) h))
theorem outM_res{n d:Nat}{ms:List (Nat×Nat)}{sz:Nat}{L L':Nat→Lab}{b:Nat}{q:List Nat}(h:L' b=.my (n::q)):outM n d ms sz L L' b=.my (d::q):=by simp [outM,h,Nat.beq_refl]
theorem outM_arg{n d:Nat}{ms:List (Nat×Nat)}{sz:Nat}{L L':Nat→Lab}{b k s:Nat}{q:List Nat}(h:L' b=.my (k::q))(hk:k≠n)(hs:slotM ms k=some s):outM n d ms sz L L' b=.my (s::q):=by simp [outM,h,not_beq hk,hs]
theorem outM_old{n d:Nat}{ms:List (Nat×Nat)}{sz:Nat}{L L':Nat→Lab}{b t:Nat}{q:List Nat}(h:L b=.my (t::q))(hb:b<sz)(hno:∀ q,L' b≠.my q)(htd:t≠d)(ht:idxM ms t=none):outM n d ms sz L L' b=.my (t::q):=by
 unfold outM
 cases hL':L' b with
 | my p=>exact absurd hL' (hno p)
 | _=>simp only [if_pos hb,h,not_beq htd,ht];rfl
theorem outM_sh{n d:Nat}{ms:List (Nat×Nat)}{sz:Nat}{L L':Nat→Lab}{b:Nat}(h:L b=.sh)(hno:∀ q,L' b≠.my q):outM n d ms sz L L' b=.sh:=by
 unfold outM
 cases hL':L' b with
 | my p=>exact absurd hL' (hno p)
 | _=>simp only [h];split<;>rfl
theorem outM_fo{n d:Nat}{ms:List (Nat×Nat)}{sz:Nat}{L L':Nat→Lab}{b:Nat}(h:outM n d ms sz L L' b=.fo):b<sz∧L b=.fo:=by
 unfold outM at h
 have tail:(if b<sz then(match L b with
  | .my (t::q)=>bif Nat.beq t d||(idxM ms t).isSome then Lab.sh else .my (t::q)
  | .my []=>.sh
  | l=>l) else .sh)=.fo→b<sz∧L b=.fo:=fun h=>by
  split at h
  ·rename_i hlt
   split at h
   ·rename_i t q hL
    cases hc:(Nat.beq t d||(idxM ms t).isSome)<;>rw [hc] at h<;>cases h
   ·cases h
   ·exact⟨hlt,h⟩
  ·cases h
 cases hL':L' b with
 | my p' =>
  rw [hL'] at h
  cases p' with
  | nil=>cases h
  | cons k q =>
   simp only at h
   cases hk:Nat.beq k n with
   | true=>rw [hk,cond_true] at h;cases h
   | false =>
    rw [hk,cond_false] at h
    cases hs:slotM ms k<;>rw [hs] at h<;>cases h
 | sh=>rw [hL'] at h;exact tail h
 | fo=>rw [hL'] at h;exact tail h
theorem outM_fo'{n d:Nat}{ms:List (Nat×Nat)}{sz:Nat}{L L':Nat→Lab}{b:Nat}(h:L b=.fo)(hb:b<sz)(hno:∀ q,L' b≠.my q):outM n d ms sz L L' b=.fo:=by
 unfold outM
 cases hL':L' b with
 | my p=>exact absurd hL' (hno p)
 | _=>simp only [h,if_pos hb]
/-! ### the frame behind such a call -/
def putM:List (Nat×Nat)→List AV→St→St
 | [],_,σ=>σ
 | (s,i)::r,xs9,σ=>(putM r xs9 σ).put s (.av (xs9.getD i .dead))
theorem getM{xs9:List AV}{σ:St}{n:Nat}:∀ {ms:List (Nat×Nat)},(∃ i,idxM ms n=some i∧get (putM ms xs9 σ) n=.av (xs9.getD i .dead))∨(idxM ms n=none∧(get (putM ms xs9 σ) n=.none∨(get (putM ms xs9 σ) n=get σ n∧∀ s,(idxM ms s).isSome=true→(get σ n).dep s=false)))
 | []=>.inr ⟨rfl,.inr ⟨rfl,fun s h=>by cases h⟩⟩
 | (s,i)::r=>by
  simp only [idxM,putM,get,kill_eq]
  cases hs:Nat.beq s n with
  | true=>exact .inl ⟨i,rfl,rfl⟩
  | false =>
   simp only [cond_false]
   rcases getM (xs9:=xs9) (σ:=σ) (n:=n) (ms:=r) with⟨j,h1,h2⟩|⟨h1,h2⟩
   ·exact .inl ⟨j,h1,by rw [h2];rfl⟩
   ·refine .inr ⟨h1,?_⟩
    rcases h2 with h2|⟨h2,h3⟩
    ·left;rw [h2];rfl
    ·rw [h2]
     cases hd:(get σ n).dep s with
     | true=>exact .inl rfl
     | false =>
      refine .inr ⟨rfl,fun s' hs'=>?_⟩
      by_cases e:s=s'
      ·subst e;exact hd
      ·rw [not_beq e,cond_false] at hs';exact h3 s' hs'
def slotAt(σ:St):Operand→Option Nat
 | .tmp t=>match get σ t with
  | .av _=>some t
  | .ref s=>some s
  | _=>none
 | _=>none
inductive ArgM(S:Sys)(N:Nat)(σ:St)(ms:List (Nat×Nat))(i:Nat)(x:Operand):AV→Prop
 | pl {y} (h:ov σ x=.av y) (ho:y.isOwn=false):ArgM S N σ ms i x y
 | br {t y z} (h:slotAt σ x=some t) (ht:get σ t=.av y) (hm:idxM ms t=none) (hz:y.sh=z):ArgM S N σ ms i x z
 | mu {s y} (h:slotAt σ x=some s) (hs:get σ s=.av y) (hm:idxM ms s=some i):ArgM S N σ ms i x y
 | fn {B:Beh} (h:∀ w0 L0 a w L,RelL S w0 L0 N σ a w L→B.holds w (fun b=>inM ms L b=.sh) (a.eval x)):ArgM S N σ ms i x (.fn B)
inductive ArgsM(S:Sys)(N:Nat)(σ:St)(ms:List (Nat×Nat)):Nat→List Operand→List AV→Prop
 | nil {i}:ArgsM S N σ ms i [] []
 | cons {i x xs y ys} (h:ArgM S N σ ms i x y) (r:ArgsM S N σ ms (i+1) xs ys):ArgsM S N σ ms i (x::xs) (y::ys)
section
variable {S:Sys} {N:Nat} {σ:St}
theorem ArgsM.length{ms:List (Nat×Nat)}{i:Nat}{xs:List Operand}{ys:List AV}(h:ArgsM S N σ ms i xs ys):xs.length=ys.length:=by
 induction h with
 | nil=>rfl
 | cons _ _ ih=>simp [ih]
theorem ArgsM.get{ms:List (Nat×Nat)}{i:Nat}{xs:List Operand}{ys:List AV}(h:ArgsM S N σ ms i xs ys):∀ (k:Nat) (x:Operand) (y:AV),xs[k]?=some x→ys[k]?=some y→ArgM S N σ ms (i+k) x y:=by
 induction h with
 | nil=>intro k x y h;simp at h
 | @cons i x xs y ys h r ih =>
  intro k x' y' hx hy
  cases k with
  | zero=>simp only [List.getElem?_cons_zero,Option.some.injEq] at hx hy;subst hx;subst hy;exact h
  | succ k =>
   simp only [List.getElem?_cons_succ] at hx hy
   have:=ih k x' y' hx hy
   rwa [Nat.add_assoc,Nat.add_comm 1 k] at this
theorem slotAt_ev{x:Operand}{t:Nat}{y:AV}(h:slotAt σ x=some t)(ht:get σ t=.av y){w0:World}{L0:Nat→Lab}{a:Act}{w:World}{L:Nat→Lab}(hR:RelL S w0 L0 N σ a w L):t<N∧a.eval x=a.tmps.getD t undef∧Rep L w (some [t]) y (a.eval x):=by
 have htN:=own_lt hR ht (by simp)
 have hh:=hR.hold t htN
 rw [ht] at hh
 have hev:a.eval x=a.tmps.getD t undef:=by
  unfold slotAt at h
  split at h
  ·rename_i u
   split at h
   ·injection h with h;subst h;rfl
   ·rename_i s hs
    injection h with h;subst h
    have h2:=hR.hold u (own_lt hR hs (by simp))
    rw [hs] at h2
    exact h2
   ·cases h
  ·cases h
 exact⟨htN,hev,by rw [hev];exact hh⟩
theorem ArgM.rep{ms:List (Nat×Nat)}{i:Nat}{x:Operand}{y:AV}(h:ArgM S N σ ms i x y){w0:World}{L0:Nat→Lab}{a:Act}{w:World}{L:Nat→Lab}(hR:RelL S w0 L0 N σ a w L):Rep (inM ms L) w (some [i]) y (a.eval x):=by
 cases h with
 | pl h ho =>
  obtain⟨n,hn⟩:=ev_av hR h
  exact(Rep.frame (Nat.le_refl _) rfl rfl rfl (fun b hb _=>⟨inM_sh hb,rfl⟩) (hn.replace (π':=none) ho) none (fun p hp=>by cases hp)).any _
 | br h ht hm hz =>
  obtain⟨_,_,hr⟩:=slotAt_ev h ht hR
  subst hz
  exact(Rep.toSh (fun b _ hb=>inM_sh hb) hr (fun p hp b q hb=>by cases hp;exact inM_no hb hm)).any _
 | mu h hs hm =>
  obtain⟨_,_,hr⟩:=slotAt_ev h hs hR
  exact hr.frame (Nat.le_refl _) rfl rfl rfl (fun b hb _=>⟨inM_sh hb,rfl⟩) _ fun p hp=>by
   cases hp
   exact⟨[i],rfl,fun b q hb=>⟨inM_to hb hm,rfl⟩⟩
 | fn h=>exact .fn (wE:=w) (B:=fun b=>inM ms L b=.sh) (h w0 L0 a w L hR) (Nat.le_refl _) rfl rfl rfl fun b _ hb=>⟨hb,rfl⟩
theorem after_callM{w0:World}{L0:Nat→Lab}{a:Act}{w:World}{L:Nat→Lab}(hR:RelL S w0 L0 N σ a w L){d:Nat}(hd:DOk S N d){n:Nat}{ms:List (Nat×Nat)}(hms:MOk d n ms){xs9':List AV}{r:AV}{vs:List Value}{v:Value}{w':World}{L':Nat→Lab}(hB:Back n xs9' r (inM ms L) w vs v w' L')
  (hr:NoSh r) (hm:∀ s i,idxM ms s=some i→s<N∧vs[i]?=some (a.tmps.getD s undef)∧∃ y,xs9'[i]?=some y∧NoSh y):Rel S w0 L0 N (putM ms xs9' (σ.put d (.av r))) (a.put (some d) v) w':=by
 have hin:∀ b p,b<w.heap.size→L' b=.my p→∃ q,inM ms L b=.my q:=hB.lok.old
 have hnmy:∀ b,b<w.heap.size→(∀ q,inM ms L b≠.my q)→(∀ q,L' b≠.my q)∧w'.heap[b]?=w.heap[b]?:=fun b hb hno=>⟨fun q hq=>by obtain⟨q',hq'⟩:=hin b q hb hq;exact hno q' hq',hB.keep.block b hb hno⟩
 have hsh:∀ b,L b=.sh→b<w.heap.size→outM n d ms w.heap.size L L' b=.sh∧w'.heap[b]?=w.heap[b]?:=fun b hb hlt=>by
  obtain⟨h1,h2⟩:=hnmy b hlt (fun q hq=>by rw [inM_sh hb] at hq;cases hq)
  exact⟨outM_sh hb h1,h2⟩
 have hold:∀ b t q,L b=.my (t::q)→(t≠d∧idxM ms t=none)→outM n d ms w.heap.size L L' b=.my (t::q)∧w'.heap[b]?=w.heap[b]?:=fun b t q hb ⟨h1,h2⟩=>by
  have hlt:=hR.lok.lt b _ hb
  obtain⟨h3,h4⟩:=hnmy b hlt (fun q hq=>by rw [inM_no hb h2] at hq;cases hq)
  exact⟨outM_old hb hlt h3 h1 h2,h4⟩
 have htm:∀ t,t≠d→(a.put (some d) v).tmps.getD t undef=a.tmps.getD t undef:=fun t ht=>getD_set_other (fun e=>ht e.symm)
 refine⟨outM n d ms w.heap.size L L',hR.defers,by simp [Act.put,hR.size],⟨hB.keep.os.trans hR.keep.os,hB.keep.tape.trans hR.keep.tape,hB.keep.output.trans hR.keep.output,Nat.le_trans hR.keep.size hB.keep.size,fun b hb hno=>?_⟩,
  ⟨fun b p hb=>?_,fun b b' p hb hb'=>?_,fun b p hb=>?_,fun b p hlt hb=>?_,fun b hlt=>?_,fun b hge hf=>?_⟩,fun m hm'=>?_,fun m hm'=>?_,fun i hi=>(getD_set_other (hd.ne hi)).trans (hR.fix i hi),hR.glob⟩
 ·have hlt:=Nat.lt_of_lt_of_le hb hR.keep.size
  refine(hB.keep.block b hlt fun p hp=>?_).trans (hR.keep.block b hb hno)
  obtain⟨t,i,q,h1,_,_⟩:=inM_my hp
  obtain⟨q',h2⟩:=hR.lok.old b _ hb h1
  exact hno q' h2
 ·rcases outM_my hb with⟨q,h1,_⟩|⟨k,s,q,h1,_⟩|⟨h1,_⟩
  ·exact hB.lok.lt b _ h1
  ·exact hB.lok.lt b _ h1
  ·exact Nat.lt_of_lt_of_le h1 hB.keep.size
 ·rcases outM_my hb with⟨q,h1,h2⟩|⟨k,s,q,h1,h2,h3,h4⟩|⟨h1,h2,t,q,h3,h4,h5,h6⟩<;>rcases outM_my hb' with⟨q',h1',h2'⟩|⟨k',s',q',h1',h2',h3',h4'⟩|⟨h1',h2',t',q',h3',h4',h5',h6'⟩
  ·rw [h2] at h2';cases h2';exact hB.lok.inj _ _ _ h1 h1'
  ·rw [h2] at h4';cases h4';have:=hms.inv' _ _ h3';rw [hms.nd] at this;cases this
  ·rw [h2] at h6';cases h6';exact absurd rfl h4'
  ·rw [h4] at h2';cases h2';have:=hms.inv' _ _ h3;rw [hms.nd] at this;cases this
  ·rw [h4] at h4';cases h4'
   have e1:=hms.inv' _ _ h3
   have e2:=hms.inv' _ _ h3'
   rw [e1] at e2;cases e2
   exact hB.lok.inj _ _ _ h1 h1'
  ·rw [h4] at h6';cases h6';have:=hms.inv' _ _ h3;rw [h5'] at this;cases this
  ·rw [h6] at h2';cases h2';exact absurd rfl h4
  ·rw [h6] at h4';cases h4';have:=hms.inv' _ _ h3';rw [h5] at this;cases this
  ·rw [h6] at h6';cases h6';exact hR.lok.inj _ _ _ h3 h3'
 ·rcases outM_my hb with⟨q,_,h2⟩|⟨k,s,q,_,_,_,h2⟩|⟨_,_,t,q,_,_,_,h2⟩<;>(subst h2;simp)
 ·have hlt':=Nat.lt_of_lt_of_le hlt hR.keep.size
  have up:∀ p',L' b=.my p'→∃ q,L0 b=.my q:=fun p' hp'=>by
   obtain⟨q,hq⟩:=hin b _ hlt' hp'
   obtain⟨t,i,q2,h1,_,_⟩:=inM_my hq
   exact hR.lok.old b _ hlt h1
  rcases outM_my hb with⟨q,h1,_⟩|⟨k,s,q,h1,_⟩|⟨_,_,t,q,h1,_⟩
  ·exact up _ h1
  ·exact up _ h1
  ·exact hR.lok.old b _ hlt h1
 ·have hlt':=Nat.lt_of_lt_of_le hlt hR.keep.size
  refine⟨fun h=>(hR.lok.fo b hlt).1 (outM_fo h).2,fun h=>?_⟩
  have h1:=(hR.lok.fo b hlt).2 h
  have h2:=(hB.lok.fo b hlt').2 (inM_fo.2 h1)
  exact outM_fo' h1 hlt' (fun q hq=>by rw [h2] at hq;cases hq)
 ·obtain⟨_,h2⟩:=outM_fo hf
  exact hR.lok.new b hge h2
 ·rcases getM (xs9:=xs9') (σ:=σ.put d (.av r)) (n:=m) (ms:=ms) with⟨i,h1,h2⟩|⟨h1,h2|⟨h2,h3⟩⟩
  ·obtain⟨hsN,hvi,y,hy,hny⟩:=hm m i h1
   rw [h2,List.getD_eq_getElem?_getD,hy]
   have hmd:m≠d:=fun e=>by subst e;rw [hms.nd] at h1;cases h1
   rw [htm m hmd]
   have h0:=hB.args i y _ hy hvi
   have hin':=hms.lt m i h1
   exact h0.frameN hny _ fun p hp=>by
    cases hp
    exact⟨[m],rfl,fun b q hb=>⟨outM_arg hb (by omega) (hms.inv _ _ h1),rfl⟩⟩
  ·rw [h2];trivial
  ·rw [h2]
   simp only [FM.get,kill_eq] at h3 ⊢
   by_cases hmd:d=m
   ·subst hmd
    rw [Nat.beq_refl,cond_true]
    have:(a.put (some d) v).tmps.getD d undef=v:=getD_set_same (by rw [hR.size];exact hd.lt)
    rw [this]
    exact hB.res.frameN hr _ fun p hp=>by
     cases hp
     exact⟨[d],rfl,fun b q hb=>⟨outM_res hb,rfl⟩⟩
   ·rw [not_beq hmd,cond_false] at h3 ⊢
    cases hdep:(FM.get σ m).dep d with
    | true=>trivial
    | false =>
     rw [hdep,cond_false] at h3
     rw [cond_false,htm m (fun e=>hmd e.symm)]
     have hg:∀ t,(FM.get σ m).dep t=true→t≠d∧idxM ms t=none:=fun t ht=>by
      refine⟨fun e=>?_,?_⟩
      ·subst e;rw [hdep] at ht;cases ht
      ·cases hi:idxM ms t with
       | none=>rfl
       | some i=>have:=h3 t (by rw [hi];rfl);rw [this] at ht;cases ht
     exact Hold.relab (good:=fun t=>t≠d∧idxM ms t=none) hB.keep.size hB.keep.os hB.keep.tape hB.keep.output hsh hold (fun t ht=>htm t ht.1) ⟨fun e=>hmd e.symm,h1⟩ hg (hR.hold m hm')
 ·rcases getM (xs9:=xs9') (σ:=σ.put d (.av r)) (n:=m) (ms:=ms) with⟨i,h1,h2⟩|⟨h1,h2|⟨h2,h3⟩⟩
  ·have:=(hm m i h1).1;omega
  ·exact h2
  ·rw [h2]
   simp only [FM.get,kill_eq]
   rw [not_beq (show d≠m by have:=hd.lt;omega),cond_false,hR.out m hm'];rfl
theorem J.callM{P:Program}{f:Nat}{xs9:List AV}{R:List AV→AV→Prop}{xs:List Operand}{ops:Array Oper}{l:List Oper}{K:St→Prop}{d ty:Nat}{ts:Array Nat}{pos:String}{aft:Array Edge}{g:Option (Nat×Bool)}(ms:List (Nat×Nat))(hs:FnSpecE P f xs9 R)(hP:P=S.P)(hg:live ops g σ=some true)(hms:MOk d xs9.length ms)(ha:ArgsM S N σ ms 0 xs xs9)
  (hc:ms.all (fun e=>match xs[e.2]? with|some x=>(match slotAt σ x,FM.get σ e.1 with|some s,.av _=>Nat.beq s e.1|_,_=>false)|none=>false)=true)
  (hn:∀ xs9' r,R xs9' r→NoSh r∧∀ e∈ms,∃ y,xs9'[e.2]?=some y∧NoSh y) (h:∀ xs9' r,R xs9' r→J false S N ops l K (putM ms xs9' (σ.put d (.av r)))) :
  J false S N ops (⟨some d,.call ⟨.value (.func f),xs.toArray,ts⟩,ty,pos,aft,g⟩::l) K σ:=by
 subst hP
 unfold J at *
 intro hdo w0 L0 Q a w hQ hR
 obtain⟨h1,h2⟩:=dstOk_cons hdo
 have hd:=h1 d rfl
 have hw:=live_wanted (o:=⟨some d,.call ⟨.value (.func f),xs.toArray,ts⟩,ty,pos,aft,g⟩) hg hR
 simp only [wpList,hw,if_true]
 refine .inl ?_
 unfold Oper.wp
 rw [run_call hs.ok rfl rfl w,Oper.upon_enter]
 obtain⟨L,hR⟩:=hR
 have mem:∀ {ms:List (Nat×Nat)} {s i:Nat},idxM ms s=some i→(s,i)∈ms:=fun{ms s i} hi=>by
  induction ms with
  | nil=>cases hi
  | cons e r ih =>
   obtain⟨s',i'⟩:=e
   simp only [idxM] at hi
   cases hb:Nat.beq s' s with
   | true=>rw [hb,cond_true] at hi;injection hi with hi;subst hi;have:=Nat.eq_of_beq_eq_true hb;subst this;exact List.mem_cons_self ..
   | false=>rw [hb,cond_false] at hi;exact List.mem_cons_of_mem _ (ih hi)
 have hlen:=ha.length
 refine(hs.calls w (inM ms L) (xs.map a.eval) (by rw [List.length_map,hlen]) ⟨fun b p hb=>?_,fun b p hb=>?_,fun b b' p hb hb'=>?_,fun b hge hf=>?_,hR.globNow.move (Nat.le_refl _) fun b _ h=>⟨inM_sh h,rfl⟩⟩ (fun i x v hx hv=>?_)).mono fun e w' ⟨v,L',xs9',r,he,hRR,hB⟩=>?_
 ·obtain⟨t,i,q,h3,_,_⟩:=inM_my hb;exact hR.lok.lt b _ h3
 ·obtain⟨t,i,q,_,h3,h4⟩:=inM_my hb;exact⟨i,q,h4,hms.lt _ _ h3⟩
 ·obtain⟨t,i,q,h3,h4,h5⟩:=inM_my hb
  obtain⟨t',i',q',h3',h4',h5'⟩:=inM_my hb'
  rw [h5] at h5';cases h5'
  have e1:=hms.inv _ _ h4
  have e2:=hms.inv _ _ h4'
  rw [e1] at e2;cases e2
  exact hR.lok.inj _ _ _ h3 h3'
 ·have:=inM_fo.1 hf
  exact hR.lok.new b (Nat.le_trans hR.keep.size hge) this
 ·simp only [List.getElem?_map,Option.map_eq_some_iff] at hv
  obtain⟨y,hy,rfl⟩:=hv
  have:=(ha.get i y x hy hx).rep hR
  rwa [Nat.zero_add] at this
 ·subst he
  obtain⟨hnr,hny⟩:=hn xs9' r hRR
  refine h xs9' r hRR h2 w0 L0 Q _ w' hQ (after_callM hR hd hms hB hnr fun s i hi=>?_)
  have hmem:=mem hi
  have hcc:=List.all_eq_true.1 hc _ hmem
  simp only at hcc
  split at hcc
  ·rename_i x hx
   split at hcc
   ·rename_i s' y' hs' hy'
    have:=Nat.eq_of_beq_eq_true hcc
    subst this
    obtain⟨e1,e2,_⟩:=slotAt_ev hs' hy' hR
    exact⟨e1,by rw [List.getElem?_map,hx,Option.map_some,e2],hny _ hmem⟩
   ·cases hcc
  ·cases hcc
theorem J.callM1{P:Program}{f:Nat}{x x':AV}{rest:List AV}{r:AV}{op:Operand}{xs:List Operand}{ops:Array Oper}{l:List Oper}{K:St→Prop}{d s ty:Nat}{ts:Array Nat}{pos:String}{aft:Array Edge}{g:Option (Nat×Bool)}(hs:FnSpec P f (x::rest) (x'::rest) r)(hP:P=S.P)(hg:live ops g σ=some true)
  (h1:slotAt σ op=some s) (h2:FM.get σ s=.av x) (h3:Nat.beq s d=false) (ha:ArgsM S N σ [(s,0)] 1 xs rest) (hr:NoSh r) (hx:NoSh x') (h:J false S N ops l K ((σ.put d (.av r)).put s (.av x'))) :
  J false S N ops (⟨some d,.call ⟨.value (.func f),(op::xs).toArray,ts⟩,ty,pos,aft,g⟩::l) K σ:=by
 refine J.callM [(s,0)] hs.toE hP hg (.one h3 (by simp [Nat.blt])) (.cons (.mu h1 h2 (by simp [idxM,Nat.beq_refl])) ha) ?_ ?_ ?_
 ·simp [h1,h2,Nat.beq_refl]
 ·rintro xs9' r' ⟨rfl,rfl⟩
  exact⟨hr,fun e he=>by rw [List.mem_singleton.1 he];exact⟨_,rfl,hx⟩⟩
 ·rintro xs9' r' ⟨rfl,rfl⟩
  exact h
theorem noSh_unit:NoSh (.tup []):=.tup fun x hx=>by cases hx
end
/-! ### operations whose answer hangs on the frame alone may be taken first -/
def StepW(S:Sys)(o:Oper)(σ σ':St):Prop :=
 ∀ (w0:World) (L0:Nat→Lab) (N:Nat) (a:Act) (w:World),(∀ d:Nat,o.dst=some d→DOk S N d)→Rel S w0 L0 N σ a w →
  ∃ v,(∀ w',(execOp a.eval o).run S.P w'=.ok (.value v) w')∧Rel S w0 L0 N σ' (a.put o.dst v) w
theorem JA.takeW{S:Sys}{N:Nat}{σ σ':St}{K:St→Prop}{l:List Oper}{listed:List Bool}{fuel i:Nat}{o:Oper}(ho:l[i]?=some o)(hg:o.guard=none)(hB:(Region.noSelect l.toArray&&Region.free .any l.toArray listed.toArray i&&(readyL l listed).contains i)=true)(hs:StepW S o σ σ')(h:JA S N l.toArray fuel (listed.set i true) K σ') :
  JA S N l.toArray (fuel+1) listed K σ:=by
 unfold JA at h ⊢
 intro hdo w0 L0 Q a w hp hQ hR
 simp only [Bool.and_eq_true] at hB
 have hd1:=(dstOk_cons (dstOk_mem (by simpa using hdo) (List.mem_of_getElem? ho))).1
 obtain⟨v,hv,hR'⟩:=hs w0 L0 N a w hd1 hR
 have h1:=h hdo w0 L0 Q _ w hp hQ hR'
 refine wpAny_take (by simpa using ho) hB.1.1 hB.1.2 (by rw [readyL_eq];exact hB.2) (fun c a w h=>hp c a _ _ w hd1 h) (.inl ⟨by unfold Region.wanted;rw [hg],hv⟩) ?_
 have e:listed.toArray.setIfInBounds i true=(listed.set i true).toArray:=by simp
 rw [e]
 exact h1
section
variable {S:Sys} {σ:St} {d:Nat} {ty:Nat} {pos:String} {aft:Array Edge} {g:Option (Nat×Bool)}
theorem w_add{t t2:Nat}{x y:Operand}{a b:Int}(hx:ov σ x=.av (.int a))(hy:ov σ y=.av (.int b))(hr:InR (a+b)):StepW S ⟨some d,.binOp .add t x y t2,ty,pos,aft,g⟩ σ (σ.put d (.av (.int (a+b)))):=fun w0 L0 N A w hN ⟨L,hR⟩ =>
 ⟨.int .i64 (a+b),fun w'=>by simp [execOp,ev_int hR hx,ev_int hR hy,eqGuard,binOp,Op.intArith,hr.wrap],Rel.putPlain (n:=d) hR (hN d rfl) rfl rfl .int⟩
theorem w_sub{t t2:Nat}{x y:Operand}{a b:Int}(hx:ov σ x=.av (.int a))(hy:ov σ y=.av (.int b))(hr:InR (a-b)):StepW S ⟨some d,.binOp .sub t x y t2,ty,pos,aft,g⟩ σ (σ.put d (.av (.int (a-b)))):=fun w0 L0 N A w hN ⟨L,hR⟩ =>
 ⟨.int .i64 (a-b),fun w'=>by simp [execOp,ev_int hR hx,ev_int hR hy,eqGuard,binOp,Op.intArith,hr.wrap],Rel.putPlain (n:=d) hR (hN d rfl) rfl rfl .int⟩
theorem w_ixaO{t e c sz by_:Nat}{z:List AV}{ti:TI}{x i:Operand}{s:Nat}{xs:List AV}{n:Int}{y:AV}(hx:ov σ x=.ref s)(hs:get σ s=.av (.sl true c xs))(hi:ov σ i=.av (.int n))(hT:S.T t=some ⟨.slice e,sz,by_,z⟩)(hE:S.T e=some ti)(hc:ti.size=c)
  (h0:0≤n) (hy:xs[n.toNat]?=some y) (hsd:Nat.beq s d=false):StepW S ⟨some d,.indexAddr t x i,ty,pos,aft,g⟩ σ (σ.put d (.ptr s n.toNat c y)):=by
 intro w0 L0 N a w hN ⟨L,hR⟩
 obtain⟨m,hm,_⟩:=hold_plain hR hx (by simp)
 simp only [Hold] at hm
 have hh:=hR.hold s (own_lt hR hs (by simp))
 rw [hs,←hm] at hh
 obtain⟨b,off,cap,hv,hb,hlt,⟨h,_⟩|⟨_,rfl,p,hp,hL,hcs⟩⟩:=elem_cells hh hy
 ·cases h
 ·cases hp
  refine⟨.pointer (some ⟨b,0+n.toNat*c,none⟩),fun w'=>?_,Rel.putPlain (n:=d) hR (hN d rfl) rfl hsd ⟨b,hL,by rw [Nat.zero_add],fun _ j z hz=>?_⟩⟩
  ·subst hc
   simp only [execOp,hv,ev_int hR hi,Sem.run_bind,run_indexAt (S.ok t _ hT).slice (S.ok e _ hE).size h0 hlt]
   rfl
  ·have:=hcs j z hz
   rwa [Nat.zero_add] at this
end
theorem args_nil{S:Sys}{σ:St}{k:Nat}:∀ (i:Nat) (x y:AV),([]:List AV)[i]?=some x→([]:List AV)[i]?=some y→(x.isOwn=false∧y=x)∨(S.M (k+i)=true∧(get σ (k+i)=.av y∨y=.dead)):=fun i x y h=>by simp at h
theorem args_pl{S:Sys}{σ:St}{k:Nat}{z:AV}{xs9 bs:List AV}(hz:z.isOwn=false)(h:∀ (i:Nat) (x y:AV),xs9[i]?=some x→bs[i]?=some y→(x.isOwn=false∧y=x)∨(S.M (k+1+i)=true∧(get σ (k+1+i)=.av y∨y=.dead))) :
  ∀ (i:Nat) (x y:AV),(z::xs9)[i]?=some x→(z::bs)[i]?=some y→(x.isOwn=false∧y=x)∨(S.M (k+i)=true∧(get σ (k+i)=.av y∨y=.dead)):=fun i x y hx hy=>by
 cases i with
 | zero=>simp only [List.getElem?_cons_zero,Option.some.injEq] at hx hy;subst hx;subst hy;exact .inl ⟨hz,rfl⟩
 | succ i =>
  simp only [List.getElem?_cons_succ] at hx hy
  have:=h i x y hx hy
  rwa [Nat.add_assoc,Nat.add_comm 1 i] at this
theorem args_mu{S:Sys}{σ:St}{k:Nat}{z z':AV}{xs9 bs:List AV}(hm:S.M k=true)(hg:get σ k=.av z')(h:∀ (i:Nat) (x y:AV),xs9[i]?=some x→bs[i]?=some y→(x.isOwn=false∧y=x)∨(S.M (k+1+i)=true∧(get σ (k+1+i)=.av y∨y=.dead))) :
  ∀ (i:Nat) (x y:AV),(z::xs9)[i]?=some x→(z'::bs)[i]?=some y→(x.isOwn=false∧y=x)∨(S.M (k+i)=true∧(get σ (k+i)=.av y∨y=.dead)):=fun i x y hx hy=>by
 cases i with
 | zero=>simp only [List.getElem?_cons_zero,Option.some.injEq] at hx hy;subst hx;subst hy;exact .inr ⟨hm,.inl hg⟩
 | succ i =>
  simp only [List.getElem?_cons_succ] at hx hy
  have:=h i x y hx hy
  rwa [Nat.add_assoc,Nat.add_comm 1 i] at this
theorem args_mv{S:Sys}{σ:St}{k:Nat}{z:AV}{xs9 bs:List AV}(hm:S.M k=true)(h:∀ (i:Nat) (x y:AV),xs9[i]?=some x→bs[i]?=some y→(x.isOwn=false∧y=x)∨(S.M (k+1+i)=true∧(get σ (k+1+i)=.av y∨y=.dead))) :
  ∀ (i:Nat) (x y:AV),(z::xs9)[i]?=some x→(.dead::bs)[i]?=some y→(x.isOwn=false∧y=x)∨(S.M (k+i)=true∧(get σ (k+i)=.av y∨y=.dead)):=fun i x y hx hy=>by
 cases i with
 | zero=>simp only [List.getElem?_cons_zero,Option.some.injEq] at hx hy;subst hx;subst hy;exact .inr ⟨hm,.inr rfl⟩
 | succ i =>
  simp only [List.getElem?_cons_succ] at hx hy
  have:=h i x y hx hy
  rwa [Nat.add_assoc,Nat.add_comm 1 i] at this
theorem args_start{S:Sys}{σ:St}{xs9 bs:List AV}(h:∀ (i:Nat) (x y:AV),xs9[i]?=some x→bs[i]?=some y→(x.isOwn=false∧y=x)∨(S.M (0+i)=true∧(get σ (0+i)=.av y∨y=.dead))) :
  ∀ (i:Nat) (x y:AV),xs9[i]?=some x→bs[i]?=some y→(x.isOwn=false∧y=x)∨(S.M i=true∧(get σ i=.av y∨y=.dead)):=fun i x y hx hy=>by have:=h i x y hx hy;rwa [Nat.zero_add] at this
end FM
