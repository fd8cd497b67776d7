/- Part of the proof. -/
import Derived.Test.YtmbbagbhmjaedaaGreatDoorCbb
import Derived.Test.YtmbbagbhmjaedaaGreatDoorChecked
import Derived.Shelf.Strings.SlTrimAscii
set_option linter.all false
namespace FM
open Go Go.RowKit
variable {L L':Nat->aO}{d b n k sz:Nat}{S:Sys}{σ:St}{xs9 bs:List AV}{q:List Nat}{l:List Oper}{K:St->Prop}{g:Option (Nat×Bool)}
def idxM:List (Nat×Nat)->Nat->Option Nat
 | [],_=>none
 | (s,i)::r,t=>bif Nat.beq s t then some i else idxM r t
def kN:List (Nat×Nat)->Nat->Option Nat
 | [],_=>none
 | (s,i)::r,k=>bif Nat.beq i k then some s else kN r k
structure N6(d n:Nat)(ms:List (Nat×Nat)):Prop where
 inv:∀ s i,idxM ms s=some i->kN ms i=some s
 inv':∀ i s,kN ms i=some s->idxM ms s=some i
 lt:∀ s i,idxM ms s=some i->i<n
 nd:idxM ms d=none
theorem N6.one{s i:Nat}(h1:Nat.beq s d=false)(h2:Nat.blt i n=true):N6 d n [(s,i)]:=by
 have e1:∀ t j,idxM [(s,i)] t=some j->t=s/\j=i:=fun t j h=>by
  simp only [idxM] at h
  cases hb:Nat.beq s t with
  | true=>rw [hb,cond_true] at h;exact⟨(ahz hb).symm,(ah6 h).symm⟩
  | false=>rw [hb,cond_false] at h;cases h
 have e2:∀ j t,kN [(s,i)] j=some t->t=s/\j=i:=fun j t h=>by
  simp only [kN] at h
  cases hb:Nat.beq i j with
  | true=>rw [hb,cond_true] at h;exact⟨(ah6 h).symm,(ahz hb).symm⟩
  | false=>rw [hb,cond_false] at h;cases h
 refine⟨fun t j h=>?_,fun j t h=>?_,fun t j h=>?_,?_⟩
 ·obtain⟨rfl,rfl⟩:=e1 t j h;simp [kN,ahy]
 ·obtain⟨rfl,rfl⟩:=e2 j t h;simp [idxM,ahy]
 ·obtain⟨rfl,rfl⟩:=e1 t j h;simp [Nat.blt] at h2;omega
 ·simp only [idxM,h1,cond_false]
def qF(ms:List (Nat×Nat))(L:Nat->aO):Nat->aO:=fun b=>match L b with
 | .my (t::q)=>match idxM ms t with
  | some i=>.my (i::q)
  | none=>.sh
 | .my []=>.sh
 | l=>l
theorem dM{ms:List (Nat×Nat)}{L:Nat->aO}{b:Nat}{p:List Nat}(h:qF ms L b=.my p):∃ t i q,L b=.my (t::q)/\idxM ms t=some i/\p=i::q:=by
 unfold qF at h
 cases hL:L b with
 | my p' =>
  rw [hL] at h
  cases p' with
  | nil=>cases h
  | cons t q =>
   simp only at h
   cases hi:idxM ms t with
   | some i=>rw [hi] at h;injection h with h;exact⟨t,i,q,rfl,hi,h.symm⟩
   | none=>rw [hi] at h;cases h
 | sh=>rw [hL] at h;cases h
 | fo=>rw [hL] at h;cases h
theorem Qx{ms:List (Nat×Nat)}{t i:Nat}(h:L b=.my (t::q))(hi:idxM ms t=some i):qF ms L b=.my (i::q):=by simp only [qF,h,hi]
theorem wH{ms:List (Nat×Nat)}{t:Nat}(h:L b=.my (t::q))(hi:idxM ms t=none):qF ms L b=.sh:=by simp only [qF,h,hi]
theorem kO{ms:List (Nat×Nat)}(h:L b=.sh):qF ms L b=.sh:=by simp only [qF,h]
theorem wI{ms:List (Nat×Nat)}{L:Nat->aO}{b:Nat}:qF ms L b=.fo↔L b=.fo:=by
 unfold qF
 cases hL:L b with
 | my p=>cases p with
  | nil=>simp
  | cons t q=>simp only;cases idxM ms t<;>simp
 | _=>simp
def iv(n d:Nat)(ms:List (Nat×Nat))(sz:Nat)(L L':Nat->aO):Nat->aO:=fun b=>match L' b with
 | .my (k::q)=>bif Nat.beq k n then .my (d::q) else match kN ms k with
  | some s=>.my (s::q)
  | none=>.sh
 | .my []=>.sh
 | _=>if b<sz then match L b with
  | .my (t::q)=>bif Nat.beq t d||(idxM ms t).isSome then .sh else .my (t::q)
  | .my []=>.sh
  | l=>l
  else .sh
theorem fp{ms:List (Nat×Nat)}{p:List Nat}(h:iv n d ms sz L L' b=.my p):
  (∃ q,L' b=.my (n::q)/\p=d::q)∨(∃ k s q,L' b=.my (k::q)/\k≠n/\kN ms k=some s/\p=s::q)∨(b<sz/\(∀ q,L' b≠.my q)/\∃ t q,L b=.my (t::q)/\t≠d/\idxM ms t=none/\p=t::q):=by
 unfold iv at h
 have tail:(∀ q,L' b≠.my q)->(if b<sz then(match L b with
  | .my (t::q)=>bif Nat.beq t d||(idxM ms t).isSome then aO.sh else .my (t::q)
  | .my []=>.sh
  | l=>l) else .sh)=.my p->(b<sz/\(∀ q,L' b≠.my q)/\∃ t q,L b=.my (t::q)/\t≠d/\idxM ms t=none/\p=t::q):=fun dJ h=>by
  split at h
  ·rename_i aA;split at h
   ·rename_i t q hL
    cases hc:(Nat.beq t d||(idxM ms t).isSome) with
    | true=>rw [hc] at h;cases h
    | false =>
     rw [hc,cond_false] at h;injection h with h
     simp only [Bool.or_eq_false_iff] at hc;refine⟨aA,dJ,t,q,hL,aC hc.1,?_,h.symm⟩
     cases hi:idxM ms t with
     | none=>rfl
     | some i=>rw [hi] at hc;cases hc.2
   ·cases h
   ·rename_i Xa Yv
    cases hp:p with
    | nil=>subst hp;exact absurd h Yv
    | cons t q=>subst hp;exact absurd h (Xa t q)
  ·cases h
 cases fS:L' b with
 | my p' =>
  rw [fS] at h
  cases p' with
  | nil=>cases h
  | cons k q =>
   simp only at h
   cases hk:Nat.beq k n with
   | true=>rw [hk,cond_true] at h;injection h with h;have:=ahz hk;subst this;exact .inl ⟨q,rfl,h.symm⟩
   | false =>
    rw [hk,cond_false] at h
    cases hs:kN ms k with
    | some s=>rw [hs] at h;injection h with h;exact .inr (.inl ⟨k,s,q,rfl,aC hk,hs,h.symm⟩)
    | none=>rw [hs] at h;cases h
 | sh=>rw [fS] at h;rw [fS] at tail;exact .inr (.inr (tail (fun q e=>by cases e) h))
 | fo=>rw [fS] at h;rw [fS] at tail;exact .inr (.inr (tail (fun q e=>by cases e) h))
theorem yR{ms:List (Nat×Nat)}(h:L' b=.my (n::q)):iv n d ms sz L L' b=.my (d::q):=by simp [iv,h,ahy]
theorem yS{ms:List (Nat×Nat)}{s:Nat}(h:L' b=.my (k::q))(hk:k≠n)(hs:kN ms k=some s):iv n d ms sz L L' b=.my (s::q):=by simp [iv,h,au hk,hs]
theorem yT{n d:Nat}{ms:List (Nat×Nat)}{sz:Nat}{L L':Nat->aO}{b t:Nat}{q:List Nat}(h:L b=.my (t::q))(hb:b<sz)(dJ:∀ q,L' b≠.my q)(E8:t≠d)(ht:idxM ms t=none):iv n d ms sz L L' b=.my (t::q):=by
 unfold iv
 cases fS:L' b with
 | my p=>exact absurd fS (dJ p)
 | _=>simp only [if_pos hb,h,au E8,ht];rfl
theorem DZ{n d:Nat}{ms:List (Nat×Nat)}{sz:Nat}{L L':Nat->aO}{b:Nat}(h:L b=.sh)(dJ:∀ q,L' b≠.my q):iv n d ms sz L L' b=.sh:=by
 unfold iv
 cases fS:L' b with
 | my p=>exact absurd fS (dJ p)
 | _=>simp only [h];split<;>rfl
theorem qG{ms:List (Nat×Nat)}(h:iv n d ms sz L L' b=.fo):b<sz/\L b=.fo:=by
 unfold iv at h
 have tail:(if b<sz then(match L b with
  | .my (t::q)=>bif Nat.beq t d||(idxM ms t).isSome then aO.sh else .my (t::q)
  | .my []=>.sh
  | l=>l) else .sh)=.fo->b<sz/\L b=.fo:=fun h=>by
  split at h
  ·rename_i aA;split at h
   ·rename_i t q hL;cases hc:(Nat.beq t d||(idxM ms t).isSome)<;>rw [hc] at h<;>cases h
   ·cases h
   ·exact⟨aA,h⟩
  ·cases h
 cases fS:L' b with
 | my p' =>
  rw [fS] at h
  cases p' with
  | nil=>cases h
  | cons k q =>
   simp only at h
   cases hk:Nat.beq k n with
   | true=>rw [hk,cond_true] at h;cases h
   | false =>
    rw [hk,cond_false] at h;cases hs:kN ms k<;>rw [hs] at h<;>cases h
 | sh=>rw [fS] at h;exact tail h
 | fo=>rw [fS] at h;exact tail h
theorem yU{n d:Nat}{ms:List (Nat×Nat)}{sz:Nat}{L L':Nat->aO}{b:Nat}(h:L b=.fo)(hb:b<sz)(dJ:∀ q,L' b≠.my q):iv n d ms sz L L' b=.fo:=by
 unfold iv
 cases fS:L' b with
 | my p=>exact absurd fS (dJ p)
 | _=>simp only [h,if_pos hb]
def lS:List (Nat×Nat)->List AV->St->St
 | [],_,σ=>σ
 | (s,i)::r,xs9,σ=>(lS r xs9 σ).put s (.av (xs9.getD i .dead))
theorem getM{xs9:List AV}{σ:St}{n:Nat}:∀ {ms:List (Nat×Nat)},(∃ i,idxM ms n=some i/\get (lS ms xs9 σ) n=.av (xs9.getD i .dead))∨(idxM ms n=none/\(get (lS ms xs9 σ) n=.none∨(get (lS ms xs9 σ) n=get σ n/\∀ s,(idxM ms s).isSome=true->(get σ n).dep s=false)))
 | []=>.inr ⟨rfl,.inr ⟨rfl,fun s h=>by cases h⟩⟩
 | (s,i)::r=>by
  simp only [idxM,lS,get,aY]
  cases hs:Nat.beq s n with
  | true=>exact .inl ⟨i,rfl,rfl⟩
  | false =>
   simp only [cond_false];rcases getM (xs9:=xs9) (σ:=σ) (n:=n) (ms:=r) with⟨j,h1,h2⟩|⟨h1,h2⟩
   ·exact .inl ⟨j,h1,by rw [h2];rfl⟩
   ·refine .inr ⟨h1,?_⟩;rcases h2 with h2|⟨h2,h3⟩
    ·left;rw [h2];rfl
    ·rw [h2]
     cases hd:(get σ n).dep s with
     | true=>exact .inl rfl
     | false =>
      refine .inr ⟨rfl,fun s' dz=>?_⟩;by_cases e:s=s'
      ·subst e;exact hd
      ·rw [au e,cond_false] at dz;exact h3 s' dz
def fN(σ:St):Operand->Option Nat
 | .tmp t=>match get σ t with
  | .av _=>some t
  | .ref s=>some s
  | _=>none
 | _=>none
inductive ArgM(S:Sys)(N:Nat)(σ:St)(ms:List (Nat×Nat))(i:Nat)(x:Operand):AV->Prop
 | pl {y} (h:ov σ x=.av y) (ho:y.aW=false):ArgM S N σ ms i x y
 | br {t y z} (h:fN σ x=some t) (ht:get σ t=.av y) (hm:idxM ms t=none) (hz:y.sh=z):ArgM S N σ ms i x z
 | mu {s y} (h:fN σ x=some s) (hs:get σ s=.av y) (hm:idxM ms s=some i):ArgM S N σ ms i x y
 | fn {B:Tk} (h:∀ w0 L0 a w L,RelL S w0 L0 N σ a w L->B.holds w (fun b=>qF ms L b=.sh) (a.eval x)):ArgM S N σ ms i x (.fn B)
inductive jl(S:Sys)(N:Nat)(σ:St)(ms:List (Nat×Nat)):Nat->List Operand->List AV->Prop
 | nil {i}:jl S N σ ms i [] []
 | cons {i x xs y ys} (h:ArgM S N σ ms i x y) (r:jl S N σ ms (i+1) xs ys):jl S N σ ms i (x::xs) (y::ys)
section
variable {S:Sys} {N:Nat} {σ:St}
theorem jl.length{ms:List (Nat×Nat)}{i:Nat}{xs:List Operand}{ys:List AV}(h:jl S N σ ms i xs ys):xs.length=ys.length:=by
 induction h with
 | nil=>rfl
 | cons _ _ ih=>simp [ih]
theorem jl.get{ms:List (Nat×Nat)}{i:Nat}{xs:List Operand}{ys:List AV}(h:jl S N σ ms i xs ys):∀ (k:Nat) (x:Operand) (y:AV),xs[k]?=some x->ys[k]?=some y->ArgM S N σ ms (i+k) x y:=by
 induction h with
 | nil=>intro k x y h;simp at h
 | @cons i x xs y ys h r ih =>
  intro k x' y' hx hy
  cases k with
  | zero=>simp only [ahq,ahp] at hx hy;subst hx;subst hy;exact h
  | succ k =>
   simp only [ahP] at hx hy;have:=ih k x' y' hx hy
   rwa [aix,Nat.add_comm 1 k] at this
theorem jm{x:Operand}{t:Nat}{y:AV}(h:fN σ x=some t)(ht:get σ t=.av y){w0:World}{L0:Nat->aO}{a:Act}{w:World}(hR:RelL S w0 L0 N σ a w L):t<N/\a.eval x=a.tmps.getD t undef/\Rep L w (some [t]) y (a.eval x):=by
 have HT:=aJ hR ht ag;have hh:=hR.hold t HT;rw [ht] at hh;have cn:a.eval x=a.tmps.getD t undef:=by
  unfold fN at h;split at h
  ·rename_i u;split at h
   ·injection h with h;subst h;rfl
   ·rename_i s hs;injection h with h;subst h
    have h2:=hR.hold u (aJ hR hs ag);rw [hs] at h2;exact h2
   ·cases h
  ·cases h
 exact⟨HT,cn,by rw [cn];exact hh⟩
theorem ArgM.rep{ms:List (Nat×Nat)}{i:Nat}{x:Operand}{y:AV}(h:ArgM S N σ ms i x y){w0:World}{L0:Nat->aO}{a:Act}{w:World}{L:Nat->aO}(hR:RelL S w0 L0 N σ a w L):Rep (qF ms L) w (some [i]) y (a.eval x):=by
 cases h with
 | pl h ho =>
  obtain⟨n,hn⟩:=cU hR h;exact(Rep.frame (ahr _) rfl rfl rfl (fun b hb _=>⟨kO hb,rfl⟩) (hn.replace (mv:=none) ho) none (fun p hp=>by cases hp)).any _
 | br h ht hm hz =>
  obtain⟨_,_,hr⟩:=jm h ht hR;subst hz;exact(Rep.toSh (fun b _ hb=>kO hb) hr (fun p hp b q hb=>by cases hp;exact wH hb hm)).any _
 | mu h hs hm =>
  obtain⟨_,_,hr⟩:=jm h hs hR;exact hr.frame (ahr _) rfl rfl rfl (fun b hb _=>⟨kO hb,rfl⟩) _ fun p hp=>by
   cases hp;exact⟨[i],rfl,fun b q hb=>⟨Qx hb hm,rfl⟩⟩
 | fn h=>exact .fn (wE:=w) (B:=fun b=>qF ms L b=.sh) (h w0 L0 a w L hR) (ahr _) rfl rfl rfl fun b _ hb=>⟨hb,rfl⟩
theorem kP{w0:World}{L0:Nat->aO}{a:Act}{w:World}(hR:RelL S w0 L0 N σ a w L)(hd:oC S N d){ms:List (Nat×Nat)}(iM:N6 d n ms){xs9':List AV}{r:AV}{vs:List Value}{v:Value}{w':World}(hB:tW n xs9' r (qF ms L) w vs v w' L')
  (hr:NoSh r) (hm:∀ s i,idxM ms s=some i->s<N/\vs[i]?=some (a.tmps.getD s undef)/\∃ y,xs9'[i]?=some y/\NoSh y):Rel S w0 L0 N (lS ms xs9' (σ.put d (.av r))) (a.put (some d) v) w':=by
 have px:∀ b p,b<w.heap.size->L' b=.my p->∃ q,qF ms L b=.my q:=hB.lok.old;have H7:∀ b,b<w.heap.size->(∀ q,qF ms L b≠.my q)->(∀ q,L' b≠.my q)/\w'.heap[b]?=w.heap[b]?:=fun b hb dJ=>⟨fun q hq=>by obtain⟨q',yd⟩:=px b q hb hq;exact dJ q' yd,hB.keep.block b hb dJ⟩;have kx:∀ b,L b=.sh->b<w.heap.size->iv n d ms w.heap.size L L' b=.sh/\w'.heap[b]?=w.heap[b]?:=fun b hb aA=>by
  obtain⟨h1,h2⟩:=H7 b aA (fun q hq=>by rw [kO hb] at hq;cases hq);exact⟨DZ hb h1,h2⟩
 have hold:∀ b t q,L b=.my (t::q)->(t≠d/\idxM ms t=none)->iv n d ms w.heap.size L L' b=.my (t::q)/\w'.heap[b]?=w.heap[b]?:=fun b t q hb ⟨h1,h2⟩=>by
  have aA:=hR.lok.lt b _ hb;obtain⟨h3,h4⟩:=H7 b aA (fun q hq=>by rw [wH hb h2] at hq;cases hq);exact⟨yT hb aA h3 h1 h2,h4⟩
 have KH:∀ t,t≠d->(a.put (some d) v).tmps.getD t undef=a.tmps.getD t undef:=fun t ht=>ay (fun e=>ht e.symm)
 refine⟨iv n d ms w.heap.size L L',hR.defers,by simp [Act.put,hR.size],⟨hB.keep.os.trans hR.keep.os,hB.keep.tape.trans hR.keep.tape,hB.keep.output.trans hR.keep.output,ahZ hR.keep.size hB.keep.size,fun b hb dJ=>?_⟩,
  ⟨fun b p hb=>?_,fun b b' p hb bI=>?_,fun b p hb=>?_,fun b p aA hb=>?_,fun b aA=>?_,fun b hge hf=>?_⟩,fun m tY=>?_,fun m tY=>?_,fun i hi=>(ay (hd.ne hi)).trans (hR.fix i hi),hR.glob⟩
 ·have aA:=ahv hb hR.keep.size;refine(hB.keep.block b aA fun p hp=>?_).trans (hR.keep.block b hb dJ);obtain⟨t,i,q,h1,_,_⟩:=dM hp;obtain⟨q',h2⟩:=hR.lok.old b _ hb h1;exact dJ q' h2
 ·rcases fp hb with⟨q,h1,_⟩|⟨k,s,q,h1,_⟩|⟨h1,_⟩
  ·exact hB.lok.lt b _ h1
  ·exact hB.lok.lt b _ h1
  ·exact ahv h1 hB.keep.size
 ·rcases fp hb with⟨q,h1,h2⟩|⟨k,s,q,h1,h2,h3,h4⟩|⟨h1,h2,t,q,h3,h4,h5,h6⟩<;>rcases fp bI with⟨q',nj,kh⟩|⟨k',s',q',nj,kh,mA,qc⟩|⟨nj,kh,t',q',mA,qc,BG,qd⟩
  ·rw [h2] at kh;cases kh;exact hB.lok.inj _ _ _ h1 nj
  ·rw [h2] at qc;cases qc;have:=iM.inv' _ _ mA;rw [iM.nd] at this;cases this
  ·rw [h2] at qd;cases qd;exact absurd rfl qc
  ·rw [h4] at kh;cases kh;have:=iM.inv' _ _ h3;rw [iM.nd] at this;cases this
  ·rw [h4] at qc;cases qc;have e1:=iM.inv' _ _ h3;have e2:=iM.inv' _ _ mA;rw [e1] at e2;cases e2;exact hB.lok.inj _ _ _ h1 nj
  ·rw [h4] at qd;cases qd;have:=iM.inv' _ _ h3;rw [BG] at this;cases this
  ·rw [h6] at kh;cases kh;exact absurd rfl h4
  ·rw [h6] at qc;cases qc;have:=iM.inv' _ _ mA;rw [h5] at this;cases this
  ·rw [h6] at qd;cases qd;exact hR.lok.inj _ _ _ h3 mA
 ·rcases fp hb with⟨q,_,h2⟩|⟨k,s,q,_,_,_,h2⟩|⟨_,_,t,q,_,_,_,h2⟩<;>(subst h2;simp)
 ·have iu:=ahv aA hR.keep.size;have up:∀ p',L' b=.my p'->∃ q,L0 b=.my q:=fun p' vU=>by
   obtain⟨q,hq⟩:=px b _ iu vU;obtain⟨t,i,q2,h1,_,_⟩:=dM hq;exact hR.lok.old b _ aA h1
  rcases fp hb with⟨q,h1,_⟩|⟨k,s,q,h1,_⟩|⟨_,_,t,q,h1,_⟩
  ·exact up _ h1
  ·exact up _ h1
  ·exact hR.lok.old b _ aA h1
 ·have iu:=ahv aA hR.keep.size;refine⟨fun h=>(hR.lok.fo b aA).1 (qG h).2,fun h=>?_⟩;have h1:=(hR.lok.fo b aA).2 h;have h2:=(hB.lok.fo b iu).2 (wI.2 h1);exact yU h1 iu (fun q hq=>by rw [h2] at hq;cases hq)
 ·obtain⟨_,h2⟩:=qG hf;exact hR.lok.new b hge h2
 ·rcases getM (xs9:=xs9') (σ:=σ.put d (.av r)) (n:=m) (ms:=ms) with⟨i,h1,h2⟩|⟨h1,h2|⟨h2,h3⟩⟩
  ·obtain⟨ja,Yw,y,hy,Yx⟩:=hm m i h1;rw [h2,ahK,hy];have FD:m≠d:=fun e=>by subst e;rw [iM.nd] at h1;cases h1
   rw [KH m FD];have h0:=hB.args i y _ hy Yw;have Yy:=iM.lt m i h1;exact h0.Bp Yx _ fun p hp=>by
    cases hp;exact⟨[m],rfl,fun b q hb=>⟨yS hb ae (iM.inv _ _ h1),rfl⟩⟩
  ·rw [h2];trivial
  ·rw [h2];simp only [FM.get,aY] at h3 ⊢;by_cases FD:d=m
   ·subst FD;rw [ahy,cond_true];have:(a.put (some d) v).tmps.getD d undef=v:=bJ (by rw [hR.size];exact hd.lt);rw [this];exact hB.res.Bp hr _ fun p hp=>by
     cases hp;exact⟨[d],rfl,fun b q hb=>⟨yR hb,rfl⟩⟩
   ·rw [au FD,cond_false] at h3 ⊢
    cases b6:(FM.get σ m).dep d with
    | true=>trivial
    | false =>
     rw [b6,cond_false] at h3;rw [cond_false,KH m (fun e=>FD e.symm)];have hg:∀ t,(FM.get σ m).dep t=true->t≠d/\idxM ms t=none:=fun t ht=>by
      refine⟨fun e=>?_,?_⟩
      ·subst e;rw [b6] at ht;cases ht
      ·cases hi:idxM ms t with
       | none=>rfl
       | some i=>have:=h3 t (by rw [hi];rfl);rw [this] at ht;cases ht
     exact Hold.cG (good:=fun t=>t≠d/\idxM ms t=none) hB.keep.size hB.keep.os hB.keep.tape hB.keep.output kx hold (fun t ht=>KH t ht.1) ⟨fun e=>FD e.symm,h1⟩ hg (hR.hold m tY)
 ·rcases getM (xs9:=xs9') (σ:=σ.put d (.av r)) (n:=m) (ms:=ms) with⟨i,h1,h2⟩|⟨h1,h2|⟨h2,h3⟩⟩
  ·have:=(hm m i h1).1;omega
  ·exact h2
  ·rw [h2];simp only [FM.get,aY];rw [au (show d≠m by have:=hd.lt;omega),cond_false,hR.out m tY];rfl
theorem J.Un{P:Program}{f:Nat}{R:List AV->AV->Prop}{xs:List Operand}{ops:Array Oper}{l:List Oper}{K:St->Prop}{ty:Nat}{ts:Array Nat}{pos:String}{aft:Array Edge}(ms:List (Nat×Nat))(hs:jI P f xs9 R)(hP:P=S.P)(hg:live ops g σ=some true)(iM:N6 d xs9.length ms)(ha:jl S N σ ms 0 xs xs9)
  (hc:ms.all (fun e=>match xs[e.2]? with|some x=>(match fN σ x,FM.get σ e.1 with|some s,.av _=>Nat.beq s e.1|_,_=>false)|none=>false)=true)
  (hn:∀ xs9' r,R xs9' r->NoSh r/\∀ e∈ms,∃ y,xs9'[e.2]?=some y/\NoSh y) (h:∀ xs9' r,R xs9' r->J false S N ops l K (lS ms xs9' (σ.put d (.av r)))) :
  J false S N ops (⟨some d,.call ⟨.value (.func f),xs.toArray,ts⟩,ty,pos,aft,g⟩::l) K σ:=by
 subst hP;unfold J at *;intro dI w0 L0 Q a w hQ hR;obtain⟨h1,h2⟩:=aU dI;have hd:=h1 d rfl;have hw:=ba (o:=⟨some d,.call ⟨.value (.func f),xs.toArray,ts⟩,ty,pos,aft,g⟩) hg hR;simp only [wpList,hw,if_true];refine .inl ?_;unfold Oper.wp;rw [jf hs.ok rfl rfl w,Oper.upon_enter];obtain⟨L,hR⟩:=hR;have mem:∀ {ms:List (Nat×Nat)} {s i:Nat},idxM ms s=some i->(s,i)∈ms:=fun{ms s i} hi=>by
  induction ms with
  | nil=>cases hi
  | cons e r ih =>
   obtain⟨s',i'⟩:=e;simp only [idxM] at hi
   cases hb:Nat.beq s' s with
   | true=>rw [hb,cond_true] at hi;injection hi with hi;subst hi;have:=ahz hb;subst this;exact ahU ..
   | false=>rw [hb,cond_false] at hi;exact ahW _ (ih hi)
 have hlen:=ha.length;refine(hs.calls w (qF ms L) (xs.map a.eval) (by rw [ahu,hlen]) ⟨fun b p hb=>?_,fun b p hb=>?_,fun b b' p hb bI=>?_,fun b hge hf=>?_,hR.gh.move (ahr _) fun b _ h=>⟨kO h,rfl⟩⟩ (fun i x v hx hv=>?_)).mono fun e w' ⟨v,L',xs9',r,he,WO,hB⟩=>?_
 ·obtain⟨t,i,q,h3,_,_⟩:=dM hb;exact hR.lok.lt b _ h3
 ·obtain⟨t,i,q,_,h3,h4⟩:=dM hb;exact⟨i,q,h4,iM.lt _ _ h3⟩
 ·obtain⟨t,i,q,h3,h4,h5⟩:=dM hb;obtain⟨t',i',q',mA,qc,BG⟩:=dM bI;rw [h5] at BG;cases BG;have e1:=iM.inv _ _ h4;have e2:=iM.inv _ _ qc;rw [e1] at e2;cases e2;exact hR.lok.inj _ _ _ h3 mA
 ·have:=wI.1 hf;exact hR.lok.new b (ahZ hR.keep.size hge) this
 ·simp only [ahE,ahs] at hv;obtain⟨y,hy,rfl⟩:=hv;have:=(ha.get i y x hy hx).rep hR
  rwa [ahR] at this
 ·subst he;obtain⟨LW,Yx⟩:=hn xs9' r WO;refine h xs9' r WO h2 w0 L0 Q _ w' hQ (kP hR hd iM hB LW fun s i hi=>?_);have Uo:=mem hi;have BH:=ahM.1 hc _ Uo;simp only at BH;split at BH
  ·rename_i x hx;split at BH
   ·rename_i s' y' dz qx;have:=ahz BH;subst this;obtain⟨e1,e2,_⟩:=jm dz qx hR;exact⟨e1,by rw [ahE,hx,ah2,e2],Yx _ Uo⟩
   ·cases BH
  ·cases BH
theorem J.H8{P:Program}{f:Nat}{x x':AV}{rest:List AV}{r:AV}{op:Operand}{xs:List Operand}{ops:Array Oper}{l:List Oper}{K:St->Prop}{s ty d:Nat}{ts:Array Nat}{pos:String}{aft:Array Edge}(hs:FnSpec P f (x::rest) (x'::rest) r)(hP:P=S.P)(hg:live ops g σ=some true)
  (h1:fN σ op=some s) (h2:FM.get σ s=.av x) (h3:Nat.beq s d=false) (ha:jl S N σ [(s,0)] 1 xs rest) (hr:NoSh r) (hx:NoSh x') (h:J false S N ops l K ((σ.put d (.av r)).put s (.av x'))) :
  J false S N ops (⟨some d,.call ⟨.value (.func f),(op::xs).toArray,ts⟩,ty,pos,aft,g⟩::l) K σ:=by
 refine J.Un [(s,0)] hs.toE hP hg (.one h3 (by simp [Nat.blt])) (.cons (.mu h1 h2 (by simp [idxM,ahy])) ha) ?_ ?_ ?_
 ·simp [h1,h2,ahy]
 ·rintro xs9' r' ⟨rfl,rfl⟩;exact⟨hr,fun e he=>by rw [ahL.1 he];exact⟨_,rfl,hx⟩⟩
 ·rintro xs9' r' ⟨rfl,rfl⟩;exact h
theorem FE:NoSh (.tup []):=.tup fun x hx=>by cases hx
end
def StepW(S:Sys)(o:Oper)(σ bx:St):Prop :=
 ∀ (w0:World) (L0:Nat->aO) (N:Nat) (a:Act) (w:World),(∀ d:Nat,o.dst=some d->oC S N d)->Rel S w0 L0 N σ a w ->
  ∃ v,(∀ w',(execOp a.eval o).run S.P w'=.ok (.value v) w')/\Rel S w0 L0 N bx (a.put o.dst v) w
theorem JA.rK{N:Nat}{bx:St}{listed:List Bool}{fuel i:Nat}{o:Oper}(ho:l[i]?=some o)(hg:o.guard=none)(hB:(Region.noSelect l.toArray&&Region.free .any l.toArray listed.toArray i&&(bV l listed).contains i)=true)(hs:StepW S o σ bx)(h:JA S N l.toArray fuel (listed.set i true) K bx):
  JA S N l.toArray (fuel+1) listed K σ:=by
 unfold JA at h ⊢;intro dI w0 L0 Q a w hp hQ hR;simp only [aht] at hB;have yc:=(aU (gH (by simpa using dI) (ahH ho))).1;obtain⟨v,hv,gi⟩:=hs w0 L0 N a w yc hR;have h1:=h dI w0 L0 Q _ w hp hQ gi;refine wpAny_take (by simpa using ho) hB.1.1 hB.1.2 (by rw [dR];exact hB.2) (fun c a w h=>hp c a _ _ w yc h) (.inl ⟨by unfold Region.wanted;rw [hg],hv⟩) ?_;have e:listed.toArray.setIfInBounds i true=(listed.set i true).toArray:=ag;rw [e];exact h1
section
variable {S:Sys} {σ:St} {d:Nat} {ty:Nat} {pos:String} {aft:Array Edge} {g:Option (Nat×Bool)}
theorem D4{t t2:Nat}{x y:Operand}{a b:Int}(hx:ov σ x=.av (.int a))(hy:ov σ y=.av (.int b))(hr:kC (a+b)):StepW S ⟨some d,.binOp .add t x y t2,ty,pos,aft,g⟩ σ (σ.put d (.av (.int (a+b)))):=fun w0 L0 N A w hN ⟨L,hR⟩ =>
 ⟨.int .i64 (a+b),fun w'=>by simp [execOp,eu hR hx,eu hR hy,eqGuard,binOp,Op.intArith,hr.wrap],Rel.aT (n:=d) hR (hN d rfl) rfl rfl .int⟩
end
theorem kM:∀ (i:Nat) (x y:AV),([]:List AV)[i]?=some x->([]:List AV)[i]?=some y->(x.aW=false/\y=x)∨(S.M (k+i)=true/\(get σ (k+i)=.av y∨y=.dead)):=fun i x y h=>by simp at h
theorem nC{z:AV}(hz:z.aW=false)(h:∀ (i:Nat) (x y:AV),xs9[i]?=some x->bs[i]?=some y->(x.aW=false/\y=x)∨(S.M (k+1+i)=true/\(get σ (k+1+i)=.av y∨y=.dead))):
  ∀ (i:Nat) (x y:AV),(z::xs9)[i]?=some x->(z::bs)[i]?=some y->(x.aW=false/\y=x)∨(S.M (k+i)=true/\(get σ (k+i)=.av y∨y=.dead)):=fun i x y hx hy=>by
 cases i with
 | zero=>simp only [ahq,ahp] at hx hy;subst hx;subst hy;exact .inl ⟨hz,rfl⟩
 | succ i =>
  simp only [ahP] at hx hy;have:=h i x y hx hy
  rwa [aix,Nat.add_comm 1 i] at this
theorem DY{z z':AV}(hm:S.M k=true)(hg:get σ k=.av z')(h:∀ (i:Nat) (x y:AV),xs9[i]?=some x->bs[i]?=some y->(x.aW=false/\y=x)∨(S.M (k+1+i)=true/\(get σ (k+1+i)=.av y∨y=.dead))):
  ∀ (i:Nat) (x y:AV),(z::xs9)[i]?=some x->(z'::bs)[i]?=some y->(x.aW=false/\y=x)∨(S.M (k+i)=true/\(get σ (k+i)=.av y∨y=.dead)):=fun i x y hx hy=>by
 cases i with
 | zero=>simp only [ahq,ahp] at hx hy;subst hx;subst hy;exact .inr ⟨hm,.inl hg⟩
 | succ i =>
  simp only [ahP] at hx hy;have:=h i x y hx hy
  rwa [aix,Nat.add_comm 1 i] at this
theorem wK{z:AV}(hm:S.M k=true)(h:∀ (i:Nat) (x y:AV),xs9[i]?=some x->bs[i]?=some y->(x.aW=false/\y=x)∨(S.M (k+1+i)=true/\(get σ (k+1+i)=.av y∨y=.dead))):
  ∀ (i:Nat) (x y:AV),(z::xs9)[i]?=some x->(.dead::bs)[i]?=some y->(x.aW=false/\y=x)∨(S.M (k+i)=true/\(get σ (k+i)=.av y∨y=.dead)):=fun i x y hx hy=>by
 cases i with
 | zero=>simp only [ahq,ahp] at hx hy;subst hx;subst hy;exact .inr ⟨hm,.inr rfl⟩
 | succ i =>
  simp only [ahP] at hx hy;have:=h i x y hx hy
  rwa [aix,Nat.add_comm 1 i] at this
theorem gU(h:∀ (i:Nat) (x y:AV),xs9[i]?=some x->bs[i]?=some y->(x.aW=false/\y=x)∨(S.M (0+i)=true/\(get σ (0+i)=.av y∨y=.dead))):
  ∀ (i:Nat) (x y:AV),xs9[i]?=some x->bs[i]?=some y->(x.aW=false/\y=x)∨(S.M i=true/\(get σ i=.av y∨y=.dead)):=fun i x y hx hy=>by have:=h i x y hx hy;rwa [ahR] at this
end FM
namespace Go.Proofs.YtmbbagbhmjaedaaGreatDoor
open Go Go.Proofs Tryz
def FF:Go.Shelf.Ren:=⟨fun|160=>78|232=>110|231=>109|227=>111|234=>113|233=>112|236=>115|235=>114|228=>144|271=>147|151=>146|197=>145|120=>169|152=>168|260=>167|137=>186|119=>187|224=>188|225=>189|217=>195|266=>198|n=>n,fun|9=>9|4=>4|3=>3|5=>5|117=>171|116=>170|0=>0|124=>174|21=>21|105=>201|46=>92|119=>154|139=>249|138=>248|n=>n,fun|3=>6|4=>7|n=>n⟩
theorem Up:Lays.n160 Tryz.prog FF:={
 mixed:=by kernel_rfl,
 f119:=func187.trans (congrArg some ah),
 f120:=func169.trans (congrArg some ah),
 f137:=func186.trans (congrArg some ah),
 f151:=func146.trans (congrArg some ah),
 f152:=func168.trans (congrArg some ah),
 f160:=func78.trans (congrArg some ah),
 f197:=func145.trans (congrArg some ah),
 f217:=func195.trans (congrArg some ah),
 f224:=func188.trans (congrArg some ah),
 f225:=func189.trans (congrArg some ah),
 f227:=func111.trans (congrArg some ah),
 f228:=func144.trans (congrArg some ah),
 f231:=func109.trans (congrArg some ah),
 f232:=func110.trans (congrArg some ah),
 f233:=func112.trans (congrArg some ah),
 f234:=func113.trans (congrArg some ah),
 f235:=func114.trans (congrArg some ah),
 f236:=func115.trans (congrArg some ah),
 f260:=func167.trans (congrArg some ah),
 f266:=func198.trans (congrArg some ah),
 f271:=func147.trans (congrArg some ah),
 t0:=underlying0,
 a0:=isAgg0,
 z0:=sizeOf0,
 v0:=zeroValue0,
 t3:=underlying3,
 a3:=isAgg3,
 z3:=sizeOf3,
 v3:=zeroValue3,
 t4:=underlying4,
 a4:=isAgg4,
 z4:=sizeOf4,
 v4:=zeroValue4,
 t5:=underlying5,
 a5:=isAgg5,
 z5:=sizeOf5,
 v5:=zeroValue5,
 t9:=underlying9,
 a9:=isAgg9,
 z9:=sizeOf9,
 v9:=zeroValue9,
 t21:=underlying21,
 a21:=isAgg21,
 z21:=sizeOf21,
 v21:=zeroValue21,
 t46:=underlying92,
 a46:=isAgg92,
 z46:=sizeOf92,
 v46:=zeroValue92,
 t105:=underlying201,
 a105:=isAgg201,
 z105:=sizeOf201,
 v105:=zeroValue201,
 t116:=underlying170,
 a116:=isAgg170,
 z116:=sizeOf170,
 t117:=underlying171,
 a117:=isAgg171,
 z117:=sizeOf171,
 v117:=zeroValue171,
 t119:=underlying154,
 a119:=isAgg154,
 z119:=sizeOf154,
 t124:=underlying174,
 a124:=isAgg174,
 z124:=sizeOf174,
 v124:=zeroValue174,
 t138:=underlying248,
 a138:=isAgg248,
 z138:=sizeOf248,
 v138:=zeroValue248,
 t139:=underlying249,
 a139:=isAgg249,
 z139:=sizeOf249,
 v139:=zeroValue249,
 g3:=by kernel_rfl,
 g4:=by kernel_rfl }
end Go.Proofs.YtmbbagbhmjaedaaGreatDoor
