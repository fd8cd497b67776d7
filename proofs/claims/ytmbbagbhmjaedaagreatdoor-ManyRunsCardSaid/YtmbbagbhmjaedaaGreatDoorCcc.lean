/- Part of the proof. -/
import Derived.Test.YtmbbagbhmjaedaaGreatDoorCcb
set_option linter.all false
set_option maxRecDepth 10000
set_option maxHeartbeats 6400000
namespace Go.Proofs.YtmbbagbhmjaedaaGreatDoor
open Go FM
variable {w:bd}{room:Int}
theorem zF{a b c d e f:Int}(hb:0<b)(hd:0<d)(hf:0<f)(h1:a*d<=c*b)(h2:c*f<=e*d):a*f<=e*b:=by
 have g1:a*d*f<=c*b*f:=Int.mul_le_mul_of_nonneg_right h1 ae;have g2:c*f*b<=e*d*b:=Int.mul_le_mul_of_nonneg_right h2 ae;have e1:a*d*f=a*f*d:=by rw [Int.mul_assoc,Int.mul_comm d f,<-Int.mul_assoc]
 have e2:c*b*f=c*f*b:=by rw [Int.mul_assoc,Int.mul_comm b f,<-Int.mul_assoc]
 have e3:e*d*b=e*b*d:=by rw [Int.mul_assoc,Int.mul_comm d b,<-Int.mul_assoc]
 have g3:a*f*d<=e*b*d:=by rw [<- e1,<-e3];rw [e2] at g1;omega
 exact Int.le_of_mul_le_mul_right g3 hd
theorem Mx{x y a b:Int}(hx:0<=x/\x<=a)(hy:0<=y/\y<=b):0<=x*y/\x*y<=a*b :=
 ⟨Int.mul_nonneg hx.1 hy.1,Int.mul_le_mul hx.2 hy.2 hy.1 ae⟩
def uj(L:List Ac)(w:bd)(room:Int)(d:Dl):Bool:=decide (d.2.2.2.2.2.1<=room)&&decide (pD L d w=0)
abbrev fee(d:Dl):Int:=d.2.2.2.2.1
abbrev gJ(d:Dl):Int:=d.2.2.2.2.2.1
abbrev fq(l:List Dl)(b:Int):Dl:=l.getD b.toNat d0
def bF(l:List Dl)(L:List Ac)(w:bd)(room:Int):Nat->Int
 | 0=>-1
 | k+1=>if uj L w room (l.getD k d0)=true/\(bF l L w room k<0∨fee (fq l (bF l L w room k))*gJ (l.getD k d0)<fee (l.getD k d0)*gJ (fq l (bF l L w room k))) then(k:Int) else bF l L w room k
def bB(l:List Dl)(L:List Ac)(w:bd)(room:Int):Nat->Int
 | 0=>-1
 | m+1=>if uj L w room (l.getD (l.length-(m+1)) d0)=true/\(bB l L w room m<0∨fee (fq l (bB l L w room m))*gJ (l.getD (l.length-(m+1)) d0)<=fee (l.getD (l.length-(m+1)) d0)*gJ (fq l (bB l L w room m))) then((l.length-(m+1):Nat):Int) else bB l L w room m
def S9(l:List Dl)(E:Dl->Bool)(P:Nat->Prop)(b:Int):Prop :=
 (b=-1/\∀ j,P j->j<l.length->E (l.getD j d0)=false) ∨
 ∃ i:Nat,b=(i:Int)/\i<l.length/\P i/\E (l.getD i d0)=true/\∀ j,P j->j<l.length->E (l.getD j d0)=true->fee (l.getD j d0)*gJ (l.getD i d0)<=fee (l.getD i d0)*gJ (l.getD j d0)/\(j<i->fee (l.getD j d0)*gJ (l.getD i d0)<fee (l.getD i d0)*gJ (l.getD j d0))
theorem S9.one{l:List Dl}{E:Dl->Bool}{P:Nat->Prop}{b c:Int}(h:S9 l E P b)(h':S9 l E P c):b=c:=by
 rcases h with⟨rfl,h⟩|⟨i,rfl,hi,pi,ei,h⟩<;>rcases h' with⟨rfl,h'⟩|⟨j,rfl,hj,pj,ej,h'⟩
 ·rfl
 ·rw [h j pj hj] at ej;cases ej
 ·rw [h' i pi hi] at ei;cases ei
 ·have g1:=h j pj hj ej;have g2:=h' i pi hi ei;rcases Nat.lt_trichotomy i j with c|c|c
  ·have:=g2.2 c;omega
  ·rw [c]
  ·have:=g1.2 c;omega
theorem Eh{l:List Dl}{L:List Ac}{w:bd}{room:Int}(hs:∀ d∈l,0<gJ d):∀ k,k<=l.length->S9 l (uj L w room) (fun j=>j<k) (bF l L w room k)
 | 0,_=>.inl ⟨rfl,fun j hj=>absurd hj (ait _)⟩
 | k+1,hk=>by
  have bc:∀ j,j<l.length->0<gJ (l.getD j d0):=fun j hj=>by
   rw [ahK,ahn hj];exact hs _ (ahB hj)
  have ih:=Eh (L:=L) (w:=w) (room:=room) hs k ae;unfold bF;generalize bF l L w room k=b at ih ⊢;by_cases c:uj L w room (l.getD k d0)=true/\(b<0∨fee (fq l b)*gJ (l.getD k d0)<fee (l.getD k d0)*gJ (fq l b))
  ·rw [if_pos c];refine .inr ⟨k,rfl,ae,ae,c.1,fun j hj pI ej=>?_⟩;by_cases e:j=k
   ·subst e;exact⟨Int.le_refl _,fun h=>absurd h (Nat.lt_irrefl _)⟩
   ·rcases ih with⟨rfl,ih⟩|⟨i,rfl,hi,pi,ei,ih⟩
    ·rw [ih j ae pI] at ej;cases ej
    ·rcases c.2 with c2|c2
     ·omega
     ·have c2:fee (l.getD i d0)*gJ (l.getD k d0)<fee (l.getD k d0)*gJ (l.getD i d0):=c2;have g:=(ih j ae pI ej).1;have key:fee (l.getD j d0)*gJ (l.getD k d0)<fee (l.getD k d0)*gJ (l.getD j d0):=by
       refine Int.not_le.1 fun h=>?_;have:=zF (bc k ae) (bc j pI) (bc i hi) h g;omega
      exact⟨ae,fun _=>key⟩
  ·rw [if_neg c];rcases ih with⟨rfl,ih⟩|⟨i,rfl,hi,pi,ei,ih⟩
   ·refine .inl ⟨rfl,fun j hj pI=>?_⟩;by_cases e:j=k
    ·subst e;refine Bool.eq_false_iff.2 fun h=>c ⟨h,.inl ae⟩
    ·exact ih j ae pI
   ·refine .inr ⟨i,rfl,hi,ae,ei,fun j hj pI ej=>?_⟩;by_cases e:j=k
    ·subst e;refine⟨?_,fun h=>ae⟩;exact Int.not_lt.1 fun h=>c ⟨ej,.inr h⟩
    ·exact ih j ae pI ej
theorem Ei{l:List Dl}{L:List Ac}{w:bd}{room:Int}(hs:∀ d∈l,0<gJ d):∀ m,m<=l.length->S9 l (uj L w room) (fun j=>l.length-m<=j) (bB l L w room m)
 | 0,_=>.inl ⟨rfl,fun j hj pI=>ae⟩
 | m+1,hm=>by
  have bc:∀ j,j<l.length->0<gJ (l.getD j d0):=fun j hj=>by
   rw [ahK,ahn hj];exact hs _ (ahB hj)
  have ih:=Ei (L:=L) (w:=w) (room:=room) hs m ae;unfold bB;generalize bB l L w room m=b at ih ⊢;obtain⟨k,hk⟩:∃ k,k=l.length-(m+1):=⟨_,rfl⟩;rw [<- hk];by_cases c:uj L w room (l.getD k d0)=true/\(b<0∨fee (fq l b)*gJ (l.getD k d0)<=fee (l.getD k d0)*gJ (fq l b))
  ·rw [if_pos c];refine .inr ⟨k,rfl,ae,ae,c.1,fun j hj pI ej=>?_⟩;by_cases e:j=k
   ·subst e;exact⟨Int.le_refl _,fun h=>absurd h (Nat.lt_irrefl _)⟩
   ·rcases ih with⟨rfl,ih⟩|⟨i,rfl,hi,pi,ei,ih⟩
    ·rw [ih j ae pI] at ej;cases ej
    ·rcases c.2 with c2|c2
     ·omega
     ·have c2:fee (l.getD i d0)*gJ (l.getD k d0)<=fee (l.getD k d0)*gJ (l.getD i d0):=c2;have g:=(ih j ae pI ej).1;exact⟨zF (bc j pI) (bc i hi) (bc k ae) g c2,fun h=>ae⟩
  ·rw [if_neg c];rcases ih with⟨rfl,ih⟩|⟨i,rfl,hi,pi,ei,ih⟩
   ·refine .inl ⟨rfl,fun j hj pI=>?_⟩;by_cases e:j=k
    ·subst e;refine Bool.eq_false_iff.2 fun h=>c ⟨h,.inl ae⟩
    ·exact ih j ae pI
   ·refine .inr ⟨i,rfl,hi,ae,ei,fun j hj pI ej=>?_⟩;by_cases e:j=k
    ·subst e;have key:fee (l.getD j d0)*gJ (l.getD i d0)<fee (l.getD i d0)*gJ (l.getD j d0):=Int.not_le.1 fun h=>c ⟨ej,.inr h⟩;exact⟨ae,fun _=>key⟩
    ·exact ih j ae pI ej
theorem UZ{l:List Dl}{L:List Ac}(hs:∀ d∈l,0<gJ d):bB l L w room l.length=bF l L w room l.length:=by
 have h1:=Eh (L:=L) (w:=w) (room:=room) hs l.length (ahr _);have h2:=Ei (L:=L) (w:=w) (room:=room) hs l.length (ahr _);refine(S9.one (l:=l) (E:=uj L w room) (P:=fun _=>True) ?_ ?_).symm
 ·rcases h1 with⟨e,h⟩|⟨i,e,hi,pi,ei,h⟩
  ·exact .inl ⟨e,fun j _ hj=>h j hj hj⟩
  ·exact .inr ⟨i,e,hi,trivial,ei,fun j _ hj=>h j hj hj⟩
 ·rcases h2 with⟨e,h⟩|⟨i,e,hi,pi,ei,h⟩
  ·exact .inl ⟨e,fun j _ hj=>h j ae hj⟩
  ·exact .inr ⟨i,e,hi,trivial,ei,fun j _ hj=>h j ae hj⟩
theorem kY{l:List Dl}{L:List Ac}{w:bd}{room:Int}:∀ k,-1<=bF l L w room k/\bF l L w room k<k
 | 0=>by simp [bF]
 | k+1=>by
  have:=kY (l:=l) (L:=L) (w:=w) (room:=room) k;unfold bF;split<;>omega
theorem zG{l:List Dl}{L:List Ac}{w:bd}{room:Int}:∀ m,m<=l.length->-1<=bB l L w room m/\bB l L w room m<l.length
 | 0,_=>by simp [bB];omega
 | m+1,hm=>by
  have:=zG (l:=l) (L:=L) (w:=w) (room:=room) m ae;unfold bB;split<;>omega
theorem IC{l:List Dl}{L:List Ac}{w:bd}{room:Int}:∀ k,0<=bF l L w room k->uj L w room (fq l (bF l L w room k))=true
 | 0,h=>by simp [bF] at h
 | k+1,h=>by
  unfold bF at h ⊢;by_cases c:uj L w room (l.getD k d0)=true/\(bF l L w room k<0∨fee (fq l (bF l L w room k))*gJ (l.getD k d0)<fee (l.getD k d0)*gJ (fq l (bF l L w room k)))
  ·rw [if_pos c];show uj L w room (l.getD ((k:Int)).toNat d0)=true;rw [ahN];exact c.1
  ·rw [if_neg c] at h ⊢;exact IC k h
def dF(l:List Dl)(L:List Ac)(w:bd)(room:Int):Int :=
 if gY l≠0 then gY l else if eh L≠0 then eh L else if room<0∨1000<room then 1 else if bF l L w room l.length<0 then 4 else 0
def qg(l:List Dl)(L:List Ac)(w:bd)(room:Int):Int:=if dF l L w room=0 then bF l L w room l.length else 0
theorem xf{L:List Ac}{d:Dl}(h:pD L d w=0):eh L=0/\lT d=0/\eh (jP L d w)=0:=by
 unfold pD at h;by_cases c1:eh L≠0
 ·rw [if_pos c1] at h;exact absurd h c1
 rw [if_neg c1] at h;by_cases c2:lT d≠0
 ·rw [if_pos c2] at h;exact absurd h c2
 rw [if_neg c2] at h;refine⟨Classical.not_not.1 c1,Classical.not_not.1 c2,?_⟩;split at h
 ·cases h
 split at h
 ·cases h
 split at h
 ·cases h
 by_cases c3:eh (jP L d w)≠0
 ·rw [if_pos c3] at h;cases h
 ·exact Classical.not_not.1 c3
def uk(l:List Dl)(w:bd):Nat->List Ac->Int->List Int×List Ac
 | 0,L,_=>([],L)
 | f+1,L,room=>if dF l L w room=0 then(qg l L w room::(uk l w f (jP L (fq l (qg l L w room)) w) (room-gJ (fq l (qg l L w room)))).1,(uk l w f (jP L (fq l (qg l L w room)) w) (room-gJ (fq l (qg l L w room)))).2) else([],L)
theorem zH{l:List Dl}{L:List Ac}(h:dF l L w room=0):gY l=0/\eh L=0/\(0<=room/\room<=1000)/\∃ i,∃ (hi:i<l.length),qg l L w room=(i:Int)/\fq l (qg l L w room)=l[i]/\pD L l[i] w=0/\1<=gJ l[i]/\gJ l[i]<=room:=by
 have hk:qg l L w room=bF l L w room l.length:=if_pos h;unfold dF at h;by_cases c1:gY l≠0
 ·rw [if_pos c1] at h;exact absurd h c1
 rw [if_neg c1] at h;by_cases c2:eh L≠0
 ·rw [if_pos c2] at h;exact absurd h c2
 rw [if_neg c2] at h;by_cases c3:room<0∨1000<room
 ·rw [if_pos c3] at h;cases h
 rw [if_neg c3] at h;by_cases c4:bF l L w room l.length<0
 ·rw [if_pos c4] at h;cases h
 have hr:=kY (l:=l) (L:=L) (w:=w) (room:=room) l.length;have he:=IC (l:=l) (L:=L) (w:=w) (room:=room) l.length ae;obtain⟨i,hi⟩:∃ i:Nat,bF l L w room l.length=(i:Int):=⟨(bF l L w room l.length).toNat,ae⟩;have y8:i<l.length:=ae;have rN:fq l (qg l L w room)=l[i]:=by
  unfold fq;rw [hk,hi,ahN,ahK,ahn y8];rfl
 rw [hk] at rN;rw [rN] at he;unfold uj at he;rw [aht,decide_eq_true_eq,decide_eq_true_eq] at he;rw [hk];refine⟨Classical.not_not.1 c1,Classical.not_not.1 c2,ae,i,y8,hi,rN,he.2,?_,he.1⟩;have:=(oN (xf he.2).2.1).size;exact this.1
theorem zI{l:List Dl}{L:List Ac}(h1:gY l=0)(h2:eh L=0)(h3:0<=room/\room<=1000):dF l L w room=0∨dF l L w room=4:=by
 unfold dF;rw [if_neg (not_not_intro h1),if_neg (not_not_intro h2),if_neg ae];split
 ·exact .inr rfl
 ·exact .inl rfl
end Go.Proofs.YtmbbagbhmjaedaaGreatDoor
namespace Go.Proofs.YtmbbagbhmjaedaaGreatDoor
open Go FM Go.Proofs Tryz
theorem jU{l:List Dl}{k:Nat}(h:k<l.length):l.getD k d0=l[k]:=by rw [ahK,ahn h];rfl
theorem vf(l:List Dl)(L:List Ac)(w:bd)(room:Int)(hl:qH l)(hL:kz L):FnSpec Sy.P 137 [.sl false 6 (l.map bL),.sl false 3 (L.map bz),.str w,.int room] [.sl false 6 (l.map bL),.sl false 3 (L.map bz),.str w,.int room] (.tup [.int (qg l L w room),.int (dF l L w room)]):=by
 have hC:=iC l hl;have qe:=gX L hL;have KO:=e9 l;have U0:=de L;by_cases c1:gY l=0
 ·have hok:=iQ c1;have B5:=hok.len;rw [c1] at hC;by_cases c2:eh L=0
  ·rw [c2] at qe;by_cases c3:room<0∨1000<room
   ·have e1:dF l L w room=1:=by unfold dF;rw [if_neg (not_not_intro c1),if_neg (not_not_intro c2),if_pos c3]
    rw [show qg l L w room=0 from if_neg (by rw [e1];decide),e1];refine bQ func137 ntmps137 fun v0=>?_;repeat' first|refine aG ?_|refine aF (hC) ?_|refine aF (qe) ?_|(refine aK ?_ ?_<;>intro _<;>try exact aE)|fail
    all_goals exact bw
   ·have e0:dF l L w room=if bF l L w room l.length<0 then 4 else 0:=by unfold dF;rw [if_neg (not_not_intro c1),if_neg (not_not_intro c2),if_neg c3]
    have Ze:=kY (l:=l) (L:=L) (w:=w) (room:=room) l.length;refine bQ func137 ntmps137 fun v0=>?_;repeat' first|refine aG ?_|refine aF (hC) ?_|refine aF (qe) ?_|(refine aK ?_ ?_<;>intro _<;>try exact aE)|fail
    all_goals try exact aE
    refine CW.loop (fun k:Nat=>[(0,.av (.sl false 6 (l.map bL))),(1,.av (.sl false 3 (L.map bz))),(2,.av (.str w)),(3,.av (.int (room))),(12,.av (.int (bF l L w room k))),(33,.av (.sl false 6 (l.map bL))),(34,.av (.int (l.length))),(35,.av (.int (k)))]) (fun k=>k<=l.length) (fun k=>l.length-k) (0) ?_ (ck) ?_
    ·exact ahQ _
    intro k hk;by_cases gW:k<l.length
    ·have hx:l[k]?=some l[k]:=ahn gW;have hT:=oO L l[k] w hL (hl.s1 _ (ahB gW)) (hl.s2 _ (ahB gW));have yg:=hok.ok _ (ahB gW);have hb:bF l L w room (k+1)=if uj L w room l[k]=true/\(bF l L w room k<0∨fee (fq l (bF l L w room k))*gJ l[k]<fee l[k]*gJ (fq l (bF l L w room k))) then(k:Int) else bF l L w room k:=by
      rw [bF,jU gW]
     have Ze:=kY (l:=l) (L:=L) (w:=w) (room:=room) k;have bc:=yg.size;have Zf:=yg.fee;generalize l[k]=d at *;generalize bF l L w room k=b at *;unfold nF at hT;by_cases s1:d.2.2.2.2.2.1<=room
     ·have LB:uj L w room d=decide (pD L d w=0):=by unfold uj;rw [decide_eq_true s1,Bool.true_and]
      rw [LB] at hb;by_cases s2:pD L d w=0
      ·rw [if_pos s2] at hT;rw [decide_eq_true s2] at hb;by_cases s3:b<0
       ·rw [if_pos ⟨rfl,.inl s3⟩] at hb;repeat' first|refine aG ?_|refine aF (hT) ?_|(refine aK ?_ ?_<;>intro _<;>try exact aE)|fail
        all_goals try exact aE
        refine⟨k+1,?_,fM,by(repeat' (first|exact ky|refine And.intro ?_ ?_|exact bf hb.symm))⟩;all_goals omega
       ·obtain⟨i,rfl⟩:∃ i:Nat,b=(i:Int):=⟨b.toNat,ae⟩;have y8:i<l.length:=ae;have hxi:l[i]?=some l[i]:=ahn y8;have U1:=hok.ok _ (ahB y8);have ha:fq l (i:Int)=l[i]:=by unfold fq;rw [ahN,jU y8]
        rw [ha] at hb;have z1:=U1.size;have z2:=U1.fee;generalize l[i]=a at *;have m1:=Mx (x:=d.2.2.2.2.1) (y:=a.2.2.2.2.2.1) (a:=1000000) (b:=100) ae ae;have m2:=Mx (x:=a.2.2.2.2.1) (y:=d.2.2.2.2.2.1) (a:=1000000) (b:=100) ae ae;by_cases s4:a.2.2.2.2.1*d.2.2.2.2.2.1<d.2.2.2.2.1*a.2.2.2.2.2.1
        ·rw [if_pos ⟨rfl,.inr s4⟩] at hb;repeat' first|refine aG ?_|refine aF (hT) ?_|(refine aK ?_ ?_<;>intro _<;>try exact aE)|fail
         all_goals try exact aE
         refine⟨k+1,?_,fM,by(repeat' (first|exact ky|refine And.intro ?_ ?_|exact bf hb.symm))⟩;all_goals omega
        ·rw [if_neg (fun h=>h.2.elim (fun h=>s3 h) s4)] at hb;repeat' first|refine aG ?_|refine aF (hT) ?_|(refine aK ?_ ?_<;>intro _<;>try exact aE)|fail
         all_goals try exact aE
         refine⟨k+1,?_,fM,by(repeat' (first|exact ky|refine And.intro ?_ ?_|exact bf hb.symm))⟩;all_goals omega
      ·rw [if_neg s2] at hT;rw [decide_eq_false s2,if_neg (fun h=>by cases h.1)] at hb;generalize pD L d w=e at *;repeat' first|refine aG ?_|refine aF (hT) ?_|(refine aK ?_ ?_<;>intro _<;>try exact aE)|fail
       all_goals try exact aE
       refine⟨k+1,?_,fM,by(repeat' (first|exact ky|refine And.intro ?_ ?_|exact bf hb.symm))⟩;all_goals omega
     ·have LB:uj L w room d=false:=by unfold uj;rw [decide_eq_false s1,aiL]
      rw [LB,if_neg (fun h=>by cases h.1)] at hb;have s1:room<d.2.2.2.2.2.1:=ae;repeat' first|refine aG ?_|(refine aK ?_ ?_<;>intro _<;>try exact aE)|fail
      all_goals try exact aE
      refine⟨k+1,?_,fM,by(repeat' (first|exact ky|refine And.intro ?_ ?_|exact bf hb.symm))⟩;all_goals omega
    ·obtain rfl:l.length=k:=ae;by_cases c4:bF l L w room l.length<0
     ·rw [if_pos c4] at e0;rw [show qg l L w room=0 from if_neg (by rw [e0];decide),e0];generalize bF l L w room l.length=b at *;repeat' first|refine aG ?_|(refine aK ?_ ?_<;>intro _<;>try exact aE)|fail
      all_goals exact bw
     ·rw [if_neg c4] at e0;rw [show qg l L w room=bF l L w room l.length from if_pos e0,e0];generalize bF l L w room l.length=b at *;repeat' first|refine aG ?_|(refine aK ?_ ?_<;>intro _<;>try exact aE)|fail
      all_goals exact bw
  ·have e1:dF l L w room=eh L:=by unfold dF;rw [if_neg (not_not_intro c1),if_pos c2]
   rw [show qg l L w room=0 from if_neg (by rw [e1];exact c2),e1];generalize eh L=e at *;refine bQ func137 ntmps137 fun v0=>?_;repeat' first|refine aG ?_|refine aF (hC) ?_|refine aF (qe) ?_|(refine aK ?_ ?_<;>intro _<;>try exact aE)|fail
   all_goals exact bw
 ·have e1:dF l L w room=gY l:=by unfold dF;rw [if_pos c1]
  rw [show qg l L w room=0 from if_neg (by rw [e1];exact c1),e1];generalize gY l=e at *;refine bQ func137 ntmps137 fun v0=>?_;repeat' first|refine aG ?_|refine aF (hC) ?_|refine aF (qe) ?_|(refine aK ?_ ?_<;>intro _<;>try exact aE)|fail
  all_goals exact bw
theorem Ej{l:List Dl}:∀ (m k:Nat),wP l m k≠4
 | 0,k=>by simp [wP]
 | m+1,k=>by
  have h1:=Ej (l:=l) m (k+1);have h2:=gI (l.getD k d0);unfold wP;split
  ·omega
  ·split
   ·decide
   ·exact h1
theorem My(l:List Dl):gY l≠4:=by
 unfold gY;split
 ·decide
 ·exact Ej _ _
theorem xg{l:List Dl}{L:List Ac}{w:bd}{room:Int}(h:dF l L w room=0∨dF l L w room=4):gY l=0/\eh L=0/\0<=room/\room<=1000:=by
 have h1:=My l;have h2:=de L;by_cases c1:gY l≠0
 ·have e:dF l L w room=gY l:=by unfold dF;rw [if_pos c1]
  rw [e] at h;omega
 by_cases c2:eh L≠0
 ·have e:dF l L w room=eh L:=by unfold dF;rw [if_neg c1,if_pos c2]
  rw [e] at h;omega
 by_cases c3:room<0∨1000<room
 ·have e:dF l L w room=1:=by unfold dF;rw [if_neg c1,if_neg c2,if_pos c3]
  rw [e] at h;omega
 exact⟨Classical.not_not.1 c1,Classical.not_not.1 c2,ae⟩
def oz(l:List Dl)(L:List Ac)(w:bd)(room:Int):Int:=if dF l L w room=0∨dF l L w room=4 then 0 else dF l L w room
def kA(l:List Dl)(L:List Ac)(w:bd)(room:Int)(f:Nat):List Int:=if oz l L w room=0 then(uk l w f L room).1 else []
def Ek(l:List Dl)(L:List Ac)(w:bd)(room:Int)(f:Nat):List Ac:=if oz l L w room=0 then(uk l w f L room).2 else []
theorem kZ{l:List Dl}{w:bd}{f:Nat}{L:List Ac}{room:Int}{i:Nat}{d:Dl}(h:dF l L w room=0)(hk:qg l L w room=(i:Int))(hd:fq l (qg l L w room)=d):uk l w (f+1) L room=((i:Int)::(uk l w f (jP L d w) (room-gJ d)).1,(uk l w f (jP L d w) (room-gJ d)).2):=by
 rw [uk,if_pos h,hd,hk]
theorem nM{l:List Dl}{w:bd}{f:Nat}{L:List Ac}{room:Int}(h:dF l L w room≠0):uk l w f L room=([],L):=by
 cases f with
 | zero=>rfl
 | succ f=>rw [uk,if_neg h]
theorem xh{l:List Dl}{w:bd}:∀ (f:Nat) (L:List Ac) (room:Int),0<=room->((uk l w f L room).1.length:Int)<=room
 | 0,L,room,h=>by simpa [uk] using h
 | f+1,L,room,h=>by
  by_cases c:dF l L w room=0
  ·obtain⟨_,_,_,i,hi,hk,hd,_,Og,F1⟩:=zH c;rw [kZ c hk hd];have:=xh (l:=l) (w:=w) f (jP L l[i] w) (room-gJ l[i]) ae;rw [ahI];omega
  ·rw [nM c];simpa using h
theorem qJ{a b c a' b' c':AV}(h1:AV.le a a')(h2:AV.le b b')(h3:AV.le c c'):AV.le (.tup [a,b,c]) (.tup [a',b',c']):=.tup rfl fun i x y hx hy=>by
 match i with
 | 0=>simp only [ahq,ahp] at hx hy;subst hx;subst hy;exact h1
 | 1=>simp only [ahP,ahq,ahp] at hx hy;subst hx;subst hy;exact h2
 | 2=>simp only [ahP,ahq,ahp] at hx hy;subst hx;subst hy;exact h3
 | i+3=>simp at hx
theorem U2{l:List Ac}:NoSh (.sl true 3 (l.map bz)):=.sl fun y hy=>by obtain⟨z,_,rfl⟩:=ahY.1 hy;exact jk rfl
structure Zg(l:List Dl)(w:bd)(R:List Int×List Ac)(f:Nat)(t:List Int)(L:List Ac)(room:Int):Prop where
 eq:R=(t++(uk l w f L room).1,(uk l w f L room).2)
 r0:0<=room/\room<=1000
 fu:room<f
 ln:(t.length:Int)+room<=1000
 ac:eh L=0
 al:kz L
theorem B6(l:List Dl)(L:List Ac)(w:bd)(room:Int)(hl:qH l)(hL:kz L):FnSpec Sy.P 99 [.sl false 6 (l.map bL),.sl false 3 (L.map bz),.str w,.int room] [.sl false 6 (l.map bL),.sl false 3 (L.map bz),.str w,.int room] (.tup [.sl true 1 ((kA l L w room 1001).map .int),.sl true 3 ((Ek l L w room 1001).map bz),.int (oz l L w room)]):=by
 have hN:=vf l L w room hl hL;unfold kA Ek;by_cases c:dF l L w room=0∨dF l L w room=4
 ·have e0:oz l L w room=0:=if_pos c;rw [e0,if_pos rfl,if_pos rfl];obtain⟨g1,g2,g3⟩:=xg c;have hok:=iQ g1;have B5:=hok.len;have hL6:=(iN g2).len;have Zh:Zg l w (uk l w 1001 L room) 1001 [] L room:=⟨by rw [List.nil_append],g3,ae,by simp;omega,g2,hL⟩;generalize uk l w 1001 L room=R at *;refine bQ func99 ntmps99 fun v0=>?_;repeat' first|refine aG ?_|refine aF (hN) ?_|(refine aK ?_ ?_<;>intro _<;>try exact aE)|fail
  all_goals try exact aE
  all_goals refine CW.NX (x:=.nil) 14 rfl (AV.le.nil (o:=true) (c:=1)) ?_
  all_goals (
   refine CW.loop (fun z:Nat×List Int×List Ac×Int=>[(0,.av (.sl false 6 (l.map bL))),(2,.av (.str w)),(3,.av (.int (z.2.2.2))),(11,.av (.int (qg l z.2.2.1 w z.2.2.2))),(12,.av (.int (dF l z.2.2.1 w z.2.2.2))),(13,.av (.sl true 3 (z.2.2.1.map bz))),(14,.av (.sl true 1 ((z.2.1).map .int)))]) (fun z=>Zg l w R z.1 z.2.1 z.2.2.1 z.2.2.2) (fun z=>z.2.2.2.toNat) ((1001,[],L,room)) ?_ (ck) ?_)
  all_goals first|exact Zh|skip
  all_goals (
   rintro⟨f,t,M,r⟩ hS
   dsimp only at hS ⊢
   have hr:=hS.r0
   have Hc:=hS.fu
   have hln:=hS.ln
   have heq:=hS.eq
   have h04:=zI (w:=w) g1 hS.ac hr
   by_cases c2:dF l M w r=0
   ·obtain⟨_,_,_,i,hi,hk,hd,oA,Og,F1⟩:=zH c2
    obtain⟨f,rfl⟩:∃ f',f=f'+1:=⟨f-1,ae⟩
    rw [kZ c2 hk hd] at heq
    have hx:l[i]?=some l[i]:=ahn hi
    have hT:=oO M l[i] w hS.al (hl.s1 _ (ahB hi)) (hl.s2 _ (ahB hi))
    have Zi:=(xf oA).2.2
    unfold nF at hT
    rw [if_pos oA] at hT
    have uU:=vf l (jP M l[i] w) w (r-gJ l[i]) hl (rR hS.al)
    have Iz:Zg l w R f (t++[(i:Int)]) (jP M l[i] w) (r-gJ l[i]):=⟨by rw [heq,ahX];rfl,ae,ae,by rw [ahC,List.length_singleton];omega,Zi,rR hS.al⟩
    have yF:t.length<=1000:=ae
    rw [hk,c2]
    generalize l[i]=d at *
    have Og:1<=d.2.2.2.2.2.1:=Og
    have F1:d.2.2.2.2.2.1<=r:=F1
    repeat' first|(refine J.bq hT rfl rfl (.cons (.br rfl AV.noConfusion (bG (fun _=>rfl))) (.cons (.pl rfl rfl) (.cons (.pl rfl rfl) .nil))) (fun _=>Fs U2 .int) ?_)|refine aG ?_|refine aF (uU) ?_|(refine aK ?_ ?_<;>intro _<;>try exact aE)|fail
    all_goals try exact aE
    refine⟨(f,t++[(i:Int)],jP M d w,r-d.2.2.2.2.2.1),?_,fM,by(repeat' (first|exact ky|refine And.intro ?_ ?_|(refine congrArg (fun y=>TV.av (AV.sl true 1 y)) ?_;rw [ah0];rfl)))⟩
    all_goals first|exact Iz|omega|(dsimp only;omega)
   ·have c4:dF l M w r=4:=ae
    rw [nM c2,ais] at heq
    rw [c4,heq]
    repeat' first|refine aG ?_|(refine aK ?_ ?_<;>intro _<;>try exact aE)|fail
    all_goals first|(exfalso;omega)|exact .mk rfl rfl rfl)
 ·have e0:oz l L w room=dF l L w room:=if_neg c;have cr:¬ dF l L w room=0:=fun h=>c (.inl h);have U3:¬ dF l L w room=4:=fun h=>c (.inr h);rw [e0,if_neg cr,if_neg cr];generalize dF l L w room=e at *;refine bQ func99 ntmps99 fun v0=>?_;repeat' first|refine aG ?_|refine aF (hN) ?_|(refine aK ?_ ?_<;>intro _<;>try exact aE)|fail
  all_goals first|(exfalso;omega)|exact .KN rfl (qJ .nil .nil (.refl _)) rfl
end Go.Proofs.YtmbbagbhmjaedaaGreatDoor
namespace FM
open Go Go.RowKit
variable {S:Sys} {σ:St} {d ty:Nat} {pos:String} {aft:Array Edge} {g:Option (Nat×Bool)}
theorem Mz{L:Nat->aO}{w:World}{p:List Nat}{c:Nat}{xs:List AV}{v:Value}(h:Rep L w (some p) (.sl true c xs) v):
  ∃ a cap,v=.slice a xs.length cap/\xs.length<=cap/\∀ n,n<=xs.length->Rep L w (some p) (.sl true c (xs.take n)) (.slice a n cap):=by
 cases h with
 | @slE _ _ _ a cap h =>
  refine⟨a,cap,rfl,ahQ _,fun n hn=>?_⟩;have:n=0:=by simpa using hn
  subst this;rw [List.take_nil];exact .slE h
 | @slO p c xs b cap arr e u hL hb bK bc hc aH hr =>
  refine⟨some ⟨b,0,none⟩,cap,rfl,bK,fun n hn=>?_⟩;have hlen:(xs.take n).length=n:=by rw [ahF];omega
  have key:Rep L w (some p) (.sl true c (xs.take n)) (.slice (some ⟨b,0,none⟩) (xs.take n).length cap):=by
   refine .slO u hL hb (by rw [hlen];omega) bc (fun x hx=>hc x (aii hx)) (fun o ho=>aH o (ahv ho (ahT _ (by rw [hlen];exact hn)))) fun o y hy=>hr o y ?_;rw [<- List.take_append_drop n xs,dp,ahG (aho.1 hy).1];exact hy
  rwa [hlen] at key
theorem RelL.Q3{w0:World}{L0:Nat->aO}{N:Nat}{a:Act}{w:World}{L:Nat->aO}(h:RelL S w0 L0 N σ a w L){s:Nat}{x y:AV}{v:Value}(hs:get σ s=.av x)(hd:oC S N d)(c8:s≠d)(hv:Rep L w (some [s]) y v):
  RelL S w0 L0 N ((σ.put s .none).put d (.av y)) (a.put (some d) v) w (lZ [s] d L):=by
 have ja:=aJ h hs ag;refine⟨h.defers,by simp [Act.put,h.size],h.keep,h.lok.lZ _ _,fun n hn=>?_,fun n hn=>?_,fun i hi=>(ay (hd.ne hi)).trans (h.fix i hi),h.glob⟩
 ·simp only [get,aY,Act.put];by_cases gP:d=n
  ·subst gP;rw [ahy,cond_true,bJ (by rw [h.size];exact hd.lt)];refine Rep.frame (ahr _) rfl rfl rfl (fun b h1 _=>⟨ew h1,rfl⟩) hv _ fun p hp=>?_;cases hp;exact⟨[d],rfl,fun b q hb=>⟨qQ hb,rfl⟩⟩
  ·rw [au gP,cond_false,ay gP];by_cases pv:s=n
   ·subst pv;rw [ahy,cond_true];trivial
   ·rw [au pv,cond_false]
    cases b6:(get σ n).dep s with
    | true=>trivial
    | false =>
     rw [cond_false]
     cases Hn:(get σ n).dep d with
     | true=>trivial
     | false =>
      rw [cond_false];refine Hold.cG (good:=fun t=>t≠d/\t≠s) (ahr _) rfl rfl rfl (fun b h1 _=>⟨ew h1,rfl⟩) (fun b t q h1 h2=>⟨cC h1 h2.1 ?_,rfl⟩)
       (fun s' dz=>ay (fun e=>dz.1 e.symm)) ⟨fun e=>gP e.symm,fun e=>pv e.symm⟩ (fun s' dz=>⟨fun e=>?_,fun e=>?_⟩) (h.hold n hn)
      ·simp only [strip,au (fun e=>h2.2 e.symm:s≠t),cond_false]
      ·subst e;rw [Hn] at dz;cases dz
      ·subst e;rw [b6] at dz;cases dz
 ·simp only [get,aY];rw [au (by have:=hd.lt;omega),cond_false,au ae,cond_false];have:=h.out n hn;rw [this];rfl
theorem Q4{t e c sz cA:Nat}{z:List AV}{ti:TI}{x b:Operand}{s:Nat}{α:Type}{f:α->AV}{l:List α}{n:Int}(hx:ov σ x=.ref s)(hs:get σ s=.av (.sl true c (l.map f)))(hT:S.T t=some ⟨.slice e,sz,cA,z⟩)(hE:S.T e=some ti)
  (hb:ov σ b=.av (.int n)) (h0:0<=n) (h1:n.toNat<=l.length) (c8:Nat.beq s d=false) :
  Step S ⟨some d,.slice t x none (some b) none,ty,pos,aft,g⟩ σ ((σ.put s .none).put d (.av (.sl true c ((l.take n.toNat).map f)))):=by
 intro w0 L0 N a w hN ⟨L,hR⟩;obtain⟨m,hm,_⟩:=aM hR hx ag;simp only [Hold] at hm;have hh:=hR.hold s (aJ hR hs ag);rw [hs,<-hm] at hh;simp only [Hold] at hh;obtain⟨ad,cap,hv,bK,U4⟩:=Mz hh;rw [ahu] at hv bK U4;obtain⟨f',hf,_⟩:=(S.ok e _ hE).size;obtain⟨k,rfl⟩:∃ k:Nat,n=k:=⟨n.toNat,ae⟩;rw [ahN] at h1 ⊢;obtain⟨mb,hmb⟩:=cU hR hb;have KJ:a.eval b=.int .i64 (k:Int):=by
  generalize a.eval b=bv at hmb;cases hmb;rfl
 have run:∀ w',(Instr.sliceAt t (.slice ad l.length cap) none (some (.int .i64 (k:Nat))) none).run S.P w'=.ok (.slice ad k cap) w':=by
  intro w';have e1:(Instr.sliceBound (.int .i64 (k:Nat)) cap .sliceAcap).run S.P w'=.ok k w':=by
   have:(0:Int)<=(k:Int)/\(k:Int)<=(cap:Int):=ae;have h2:k<=cap:=ae;simp [Instr.sliceBound,asIntOf,this,h2]
  have hb:(Instr.sliceBounds true l.length cap none (some (.int .i64 (k:Nat))) none).run S.P w'=.ok (0,k,cap) w':=by
   simp [Instr.sliceBounds,e1]
  have had:(if cap=0 then ad else ad.map (·.add (0*f'.size)))=ad:=by
   split
   ·rfl
   ·cases ad with
    | none=>rfl
    | some q=>cases q;simp [Addr.add]
  simp [Instr.sliceAt,Instr.slice,run_underlying (S.ok t _ hT).slice,hb,Go.sizeOf,typeInfo,hf];first|done|simpa using had
 refine⟨.slice ad k cap,fun w' _=>?_,lZ [s] d L,?_⟩
 ·simp only [execOp,Option.map_none,ah2,hv,KJ,Sem.run_bind,run w',Result.andThen_ok,Sem.run_pure]
 ·rw [List.map_take];exact hR.Q3 hs (hN d rfl) (aC c8) (U4 k h1)
section
variable {α:Type} {f:α->AV} {l:List α} {t e c sz cA:Nat} {z:List AV} {ti:TI} {x b:Operand} {n:Int}
end
end FM
namespace FM
open Go Go.RowKit
def vg(c:Nat):AV:=.agg (List.replicate c .dead)
theorem zJ{P:Program}{t e:Nat}(ht:P.underlying t=some (.slice e)){f:TypeInfo}(hf:P.info? e=some f){a:Addr}{len cap n:Nat}(hn:n<=len)(w:World):
  (Instr.sliceAt t (.slice (some a) len cap) (some (.int .i64 (n:Nat))) none none).run P w=.ok (.slice (if cap=n then some a else some (a.add (n*f.size))) (len-n) (cap-n)) w:=by
 have e1:∀ (x:Nat) (y:Nat) (code:BoundsCode),x<=y->(Instr.sliceBound (.int .i64 (x:Nat)) y code).run P w=.ok x w:=fun x y code Hu=>by
  have:(0:Int)<=(x:Int)/\(x:Int)<=(y:Int):=ae;simp [Instr.sliceBound,asIntOf,this,Hu]
 have hb:(Instr.sliceBounds true len cap (some (.int .i64 (n:Nat))) none none).run P w=.ok (n,len,cap) w:=by
  simp [Instr.sliceBounds,e1 n len .sliceB hn]
 simp [Instr.sliceAt,Instr.slice,run_underlying ht,hb,Go.sizeOf,typeInfo,hf]
theorem J.clr{S:Sys}{N:Nat}{σ:St}{t e c sz cA:Nat}{z0:List AV}{ti:TI}{x b:Operand}{s d n:Nat}{xs:List AV}{ops:Array Oper}{l:List Oper}{K:St->Prop}{ty Mo:Nat}{pos zp:String}{aft zq:Array Edge}
  (hx:ov σ x=.ref s) (hs:get σ s=.av (.sl true c xs)) (hb:ov σ b=.av (.int (n:Nat))) (hn:n<=xs.length) (cr:xs≠[]) (hT:S.T t=some ⟨.slice e,sz,cA,z0⟩) (hE:S.T e=some ti) (hc:ti.size=c) (c8:Nat.beq s d=false) (h1:((ti.zero.map AV.toV).all fun v=>v.oneCell')=true)
  (h:J false S N ops l K ((σ.put d (.av .dead)).upd false s (.av (.sl true c (xs.take n++List.replicate (xs.length-n) (vg c)))))) :
  J false S N ops (⟨some d,.slice t x (some b) none none,ty,pos,aft,none⟩::⟨none,.call ⟨.builtin .clear,#[.tmp d],#[t]⟩,Mo,zp,zq,none⟩::l) K σ:=by
 unfold J at *;intro dI w0 L0 Q a w hQ ⟨L,hR⟩;obtain⟨yc,Zj⟩:=aU dI;obtain⟨_,NN⟩:=aU Zj;have hd:=yc d rfl;have ja:=aJ hR hs ag;have hh:=hR.hold s ja;rw [hs] at hh;simp only [Hold] at hh;obtain⟨m,hm,_⟩:=aM hR hx ag;simp only [Hold] at hm;obtain⟨n2,D9⟩:=cU hR hb;generalize KJ:a.eval b=bv at D9;cases D9;obtain⟨f,zv,lC,j4,uO,yz,wa,DC,Bg⟩:=(S.ok e _ hE).info;have hfc:f.size=c:=by rw [<- hc];exact j4
 have hzc:zv.cells.size=c:=by rw [<- hc];exact Bg
 have hu:=(S.ok t _ hT).slice;generalize PN:a.tmps.getD s undef=sv at hh hm
 cases hh with
 | slE h=>exact absurd rfl cr
 | @slO p _ _ blk cap arr ee u hL hblk bK bc jF aH hr =>
  have U5:=zJ (P:=S.P) hu lC (a:=⟨blk,0,none⟩) (len:=xs.length) (cap:=cap) hn w;have U6:(execOp a.eval (⟨some d,.slice t x (some b) none none,ty,pos,aft,none⟩:Oper)).run S.P w=.ok (.value (.slice (if cap=n then some ⟨blk,0,none⟩ else some ((⟨blk,0,none⟩:Addr).add (n*f.size))) (xs.length-n) (cap-n))) w:=by
   simp only [execOp,Option.map_none,ah2,Sem.run_bind,hm,KJ,U5,Result.andThen_ok,Sem.run_pure]
  generalize Xf:Value.slice (if cap=n then some ⟨blk,0,none⟩ else some ((⟨blk,0,none⟩:Addr).add (n*f.size))) (xs.length-n) (cap-n)=v1 at U6;simp only [wpList,if_true,Region.wanted];refine .inl ?_;unfold Oper.wp;rw [U6];have Ip:RelL S w0 L0 N (σ.put d (.av .dead)) (a.put (some d) v1) w (FM.clear d L):=hR.put hd .dead;have PL:d≠s:=fun e=>by subst e;rw [ahy] at c8;cases c8
  have Xa:FM.clear d L blk=.my [s]:=by
   unfold FM.clear;rw [hL];simp [aO.bm,c8]
  have Zk:(a.put (some d) v1).tmps.getD s undef=.slice (some ⟨blk,0,none⟩) xs.length cap:=(ay PL).trans PN;have QY:(a.put (some d) v1).eval (.tmp d)=v1:=bJ (by rw [hR.size];exact hd.lt);have hlen:(xs.take n++List.replicate (xs.length-n) (vg c)).length=xs.length:=by rw [ahC,ahF,List.length_replicate];omega
  have Zl:∀ y∈xs.take n++List.replicate (xs.length-n) (vg c),y.cells.length=c:=fun y hy=>by
   rcases aie.1 hy with hy|hy
   ·exact jF y (aii hy)
   ·rw [List.eq_of_mem_replicate hy];exact List.length_replicate
  have fin:∀ (W:World) (A:Array Value),W.heap[blk]?=some (.cells A ee (0,0))->A.size=arr.size->(∀ j,j<n*c->A[j]?=arr[j]?)->W.heap.size=w.heap.size->(∀ k,k≠blk->W.heap[k]?=w.heap[k]?)->W.os=w.os->W.tape=w.tape->W.output=w.output ->
    wpList S.P ops Q l (a.put (some d) v1) W:=fun W A hA B7 hAj hWs SX Us Ut Uu=>by
   refine h NN w0 L0 Q _ W hQ ⟨_,Ip.write (b:=blk) (q0:=[]) ja Xa hWs Us Ut Uu SX ?_ false (fun h=>by cases h)⟩;rw [Zk]
   suffices key:Rep (FM.clear d L) W (some [s]) (.sl true c (xs.take n++List.replicate (xs.length-n) (vg c))) (.slice (some ⟨blk,0,none⟩) (xs.take n++List.replicate (xs.length-n) (vg c)).length cap) by rw [hlen] at key;exact key
   refine .slO (fun o=>(A[o]?).getD undef) Xa hA (by rw [hlen];exact bK) (by rw [B7,bc]) Zl (fun o ho=>?_) fun o y hy=>?_
   ·have:o<A.size:=by rw [B7,bc];rw [hlen] at ho;exact ahv ho (ahT _ bK)
    rw [ahO this];rfl
   ·rw [dp] at hy;have yF:(flat (xs.take n)).length=n*c:=by rw [bh (fun y hy=>jF y (aii hy)),ahF,Nat.min_eq_left hn]
    by_cases ho:o<n*c
    ·rw [ahG ae] at hy;have PE:o<xs.length*c:=ahv ho (ahT _ hn);rw [hAj o ho,aH o PE];have Zb:(flat xs)[o]?=some y:=by
      have e:flat xs=flat (xs.take n)++flat (xs.drop n):=by rw [<- dp,List.take_append_drop]
      rw [e,ahG ae];exact hy
     refine(hr o y Zb).frame ae Us Ut Uu (fun k hk _=>⟨?_,SX k (fun e=>by subst e;rw [hL] at hk;cases hk)⟩) _ fun p' vU=>?_
     ·unfold FM.clear;rw [hk];rfl
     ·cases vU;refine⟨_,rfl,fun k q hk=>⟨?_,SX k (fun e=>?_)⟩⟩
      ·unfold FM.clear;rw [hk];simp [aO.bm,c8]
      ·subst e;rw [hL] at hk;injection hk with hk
       have:=congrArg List.length hk;simp at this
    ·rw [ahJ ae] at hy;have hm:=ahH hy;unfold flat at hm;rw [List.mem_flatMap] at hm;obtain⟨z,hz,hyz⟩:=hm;rw [List.eq_of_mem_replicate hz] at hyz;have:y=.dead:=List.eq_of_mem_replicate hyz;subst this;exact .dead
  have U8:∀ W,(Builtin.clear_ #[t] Mo #[v1]).run S.P w=.ok (.tuple #[]) W->wpList S.P ops Q l (a.put (some d) v1) W->wpList S.P ops Q (⟨none,.call ⟨.builtin .clear,#[.tmp d],#[t]⟩,Mo,zp,zq,none⟩::l) (a.put (some d) v1) w:=fun W hW hk=>by
   simp only [wpList,if_true,Region.wanted];refine .inl ?_;unfold Oper.wp;have:(execOp (a.put (some d) v1).eval (⟨none,.call ⟨.builtin .clear,#[.tmp d],#[t]⟩,Mo,zp,zq,none⟩:Oper)).run S.P w=.ok (.value (.tuple #[])) W:=by
    simp only [execOp,resolve,invoke,builtin,Sem.run_bind,Sem.run_pure,Result.andThen_ok,List.map_toArray,aiw,List.map_nil,QY,hW]
   rw [this];exact hk
  by_cases QH:n=xs.length
  ·refine U8 w ?_ (fin w arr hblk rfl (fun _ _=>rfl) rfl (fun _ _=>rfl) rfl rfl rfl);rw [<- Xf,QH,Nat.sub_self];split<;>simp [Builtin.clear_,run_underlying hu]
  ·have hcn:¬ cap=n:=ae;obtain⟨k,hk⟩:∃ k,xs.length-n=k+1:=⟨xs.length-n-1,ae⟩;obtain⟨news,ib⟩:∃ news,news=(Builtin.zeroCells zv.cells (k+1)).toList:=⟨_,rfl⟩;have MA:news.length=(k+1)*c:=by rw [ib,aiA,size_zeroCells,hzc]
   have lQ:n*c+0+news.length<=arr.size:=by
    rw [MA,bc,aib,<-ah9];exact ahT _ ae
   have U9:∀ v∈news,v.oneCell'=true:=fun v hv=>by
    rw [ib] at hv;have hz:∀ v∈zv.cells.toList,v.oneCell'=true:=fun v hv=>by
     rw [wa] at hv;exact ahM.1 h1 v hv
    unfold Builtin.zeroCells at hv;rw [Array.toList_map,ahY] at hv;obtain⟨i,hi,rfl⟩:=hv;have Hd:0<zv.cells.size:=by
     rcases aiD zv.cells.size with e0|e0
     ·rw [e0] at hi;simp at hi
     ·exact e0
    rw [getElem!_pos zv.cells _ (Nat.mod_lt _ Hd)];exact hz _ (Array.getElem_mem_toList _)
   have cH:=run_storeCells_at S.P blk (n*c) ee news 0 arr w hblk lQ U9;simp only [aib] at cH;refine U8 (w.setRow blk (arr.toList.take (n*c)++news++arr.toList.drop (n*c+news.length)).toArray) ?_ (fin _ (arr.toList.take (n*c)++news++arr.toList.drop (n*c+news.length)).toArray (setRow_heap w blk arr _ ee (0,0) hblk) ?_ (fun j hj=>?_) ag (fun k hk=>setRow_other w blk k _ hk) rfl rfl rfl)
   ·rw [<- Xf,if_neg hcn,hk];have Xk:(zeroValue e).run S.P w=.ok zv w:=by simp [zeroValue,typeInfo,lC,yz]
    simp only [addr_add,ahR,hfc];simp [Builtin.clear_,run_underlying hu,Xk,<-ib,cH]
   ·rw [MA,aib] at lQ;simp [MA];omega
   ·rw [MA] at lQ;have h1:j<(arr.toList.take (n*c)).length:=by rw [ahF,aiA];omega
    simp only [List.getElem?_toArray];rw [ahX,ahG h1,aiq,if_pos hj,air]
theorem Q5{S:Sys}{σ:St}{d ty:Nat}{pos:String}{aft:Array Edge}{g:Option (Nat×Bool)}{t e c sz cA:Nat}{z:List AV}{ti:TI}{x b:Operand}{s:Nat}{xs:List AV}{n:Int}(hx:ov σ x=.ref s)(hs:get σ s=.av (.sl true c xs))(hT:S.T t=some ⟨.slice e,sz,cA,z⟩)(hE:S.T e=some ti)
  (hb:ov σ b=.av (.int n)) (h0:0<=n) (h1:n.toNat<=xs.length) (c8:Nat.beq s d=false) :
  Step S ⟨some d,.slice t x none (some b) none,ty,pos,aft,g⟩ σ ((σ.put s .none).put d (.av (.sl true c (xs.take n.toNat)))):=by
 have:=Q4 (S:=S) (σ:=σ) (d:=d) (ty:=ty) (pos:=pos) (aft:=aft) (g:=g) (f:=id) (l:=xs) hx (by rw [List.map_id];exact hs) hT hE hb h0 h1 c8
 rwa [List.map_id] at this
end FM
