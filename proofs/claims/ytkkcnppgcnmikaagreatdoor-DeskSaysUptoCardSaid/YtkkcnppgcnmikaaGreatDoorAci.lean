/- What is taken in, plain: the next offer, forward and backward. No program in sight. -/
import Derived.Test.YtkkcnppgcnmikaaGreatDoorAch
import Derived.Test.YtkkcnppgcnmikaaGreatDoorAcg
import Derived.Test.YtkkcnppgcnmikaaGreatDoorAbi
import Derived.Test.YtkkcnppgcnmikaaGreatDoorAba
import Derived.Test.YtkkcnppgcnmikaaGreatDoorAbe
namespace Go.Proofs.YtkkcnppgcnmikaaGreatDoor
open Go FM
set_option maxRecDepth 10000
set_option linter.all false
theorem cross_le{a b c d e f:Int}(hb:0<b)(hd:0<d)(hf:0<f)(h1:a*d≤c*b)(h2:c*f≤e*d):a*f≤e*b:=by
 have g1:a*d*f≤c*b*f:=Int.mul_le_mul_of_nonneg_right h1 (by omega)
 have g2:c*f*b≤e*d*b:=Int.mul_le_mul_of_nonneg_right h2 (by omega)
 have e1:a*d*f=a*f*d:=by rw [Int.mul_assoc,Int.mul_comm d f,←Int.mul_assoc]
 have e2:c*b*f=c*f*b:=by rw [Int.mul_assoc,Int.mul_comm b f,←Int.mul_assoc]
 have e3:e*d*b=e*b*d:=by rw [Int.mul_assoc,Int.mul_comm d b,←Int.mul_assoc]
 have g3:a*f*d≤e*b*d:=by rw [← e1,←e3];rw [e2] at g1;omega
 exact Int.le_of_mul_le_mul_right g3 hd
theorem mulB{x y a b:Int}(hx:0≤x∧x≤a)(hy:0≤y∧y≤b):0≤x*y∧x*y≤a*b :=
 ⟨Int.mul_nonneg hx.1 hy.1,Int.mul_le_mul hx.2 hy.2 hy.1 (by omega)⟩
def elg(L:List Ac)(w:Str)(room:Int)(d:Dl):Bool:=decide (d.2.2.2.2.2.1≤room)&&decide (tkE L d w=0)
abbrev fee(d:Dl):Int:=d.2.2.2.2.1
abbrev siz(d:Dl):Int:=d.2.2.2.2.2.1
abbrev at0(l:List Dl)(b:Int):Dl:=l.getD b.toNat d0
def bF(l:List Dl)(L:List Ac)(w:Str)(room:Int):Nat→Int
 | 0=>-1
 | k+1=>if elg L w room (l.getD k d0)=true∧(bF l L w room k<0∨fee (at0 l (bF l L w room k))*siz (l.getD k d0)<fee (l.getD k d0)*siz (at0 l (bF l L w room k))) then(k:Int) else bF l L w room k
def bB(l:List Dl)(L:List Ac)(w:Str)(room:Int):Nat→Int
 | 0=>-1
 | m+1=>if elg L w room (l.getD (l.length-(m+1)) d0)=true∧(bB l L w room m<0∨fee (at0 l (bB l L w room m))*siz (l.getD (l.length-(m+1)) d0)≤fee (l.getD (l.length-(m+1)) d0)*siz (at0 l (bB l L w room m))) then((l.length-(m+1):Nat):Int) else bB l L w room m
def IsB(l:List Dl)(E:Dl→Bool)(P:Nat→Prop)(b:Int):Prop :=
 (b=-1∧∀ j,P j→j<l.length→E (l.getD j d0)=false) ∨
 ∃ i:Nat,b=(i:Int)∧i<l.length∧P i∧E (l.getD i d0)=true∧∀ j,P j→j<l.length→E (l.getD j d0)=true→fee (l.getD j d0)*siz (l.getD i d0)≤fee (l.getD i d0)*siz (l.getD j d0)∧(j<i→fee (l.getD j d0)*siz (l.getD i d0)<fee (l.getD i d0)*siz (l.getD j d0))
theorem IsB.one{l:List Dl}{E:Dl→Bool}{P:Nat→Prop}{b c:Int}(h:IsB l E P b)(h':IsB l E P c):b=c:=by
 rcases h with⟨rfl,h⟩|⟨i,rfl,hi,pi,ei,h⟩<;>rcases h' with⟨rfl,h'⟩|⟨j,rfl,hj,pj,ej,h'⟩
 ·rfl
 ·rw [h j pj hj] at ej;cases ej
 ·rw [h' i pi hi] at ei;cases ei
 ·have g1:=h j pj hj ej
  have g2:=h' i pi hi ei
  rcases Nat.lt_trichotomy i j with c|c|c
  ·have:=g2.2 c;omega
  ·rw [c]
  ·have:=g1.2 c;omega
theorem bF_best{l:List Dl}{L:List Ac}{w:Str}{room:Int}(hs:∀ d∈l,0<siz d):∀ k,k≤l.length→IsB l (elg L w room) (fun j=>j<k) (bF l L w room k)
 | 0,_=>.inl ⟨rfl,fun j hj=>absurd hj (Nat.not_lt_zero _)⟩
 | k+1,hk=>by
  have hsz:∀ j,j<l.length→0<siz (l.getD j d0):=fun j hj=>by
   rw [List.getD_eq_getElem?_getD,List.getElem?_eq_getElem hj];exact hs _ (List.getElem_mem hj)
  have ih:=bF_best (L:=L) (w:=w) (room:=room) hs k (by omega)
  unfold bF
  generalize bF l L w room k=b at ih ⊢
  by_cases c:elg L w room (l.getD k d0)=true∧(b<0∨fee (at0 l b)*siz (l.getD k d0)<fee (l.getD k d0)*siz (at0 l b))
  ·rw [if_pos c]
   refine .inr ⟨k,rfl,by omega,by omega,c.1,fun j hj hjl ej=>?_⟩
   by_cases e:j=k
   ·subst e;exact⟨Int.le_refl _,fun h=>absurd h (Nat.lt_irrefl _)⟩
   ·rcases ih with⟨rfl,ih⟩|⟨i,rfl,hi,pi,ei,ih⟩
    ·rw [ih j (by omega) hjl] at ej;cases ej
    ·rcases c.2 with c2|c2
     ·omega
     ·have c2:fee (l.getD i d0)*siz (l.getD k d0)<fee (l.getD k d0)*siz (l.getD i d0):=c2
      have g:=(ih j (by omega) hjl ej).1
      have key:fee (l.getD j d0)*siz (l.getD k d0)<fee (l.getD k d0)*siz (l.getD j d0):=by
       refine Int.not_le.1 fun h=>?_
       have:=cross_le (hsz k (by omega)) (hsz j hjl) (hsz i hi) h g
       omega
      exact⟨by omega,fun _=>key⟩
  ·rw [if_neg c]
   rcases ih with⟨rfl,ih⟩|⟨i,rfl,hi,pi,ei,ih⟩
   ·refine .inl ⟨rfl,fun j hj hjl=>?_⟩
    by_cases e:j=k
    ·subst e
     refine Bool.eq_false_iff.2 fun h=>c ⟨h,.inl (by omega)⟩
    ·exact ih j (by omega) hjl
   ·refine .inr ⟨i,rfl,hi,by omega,ei,fun j hj hjl ej=>?_⟩
    by_cases e:j=k
    ·subst e
     refine⟨?_,fun h=>by omega⟩
     exact Int.not_lt.1 fun h=>c ⟨ej,.inr h⟩
    ·exact ih j (by omega) hjl ej
theorem bB_best{l:List Dl}{L:List Ac}{w:Str}{room:Int}(hs:∀ d∈l,0<siz d):∀ m,m≤l.length→IsB l (elg L w room) (fun j=>l.length-m≤j) (bB l L w room m)
 | 0,_=>.inl ⟨rfl,fun j hj hjl=>by omega⟩
 | m+1,hm=>by
  have hsz:∀ j,j<l.length→0<siz (l.getD j d0):=fun j hj=>by
   rw [List.getD_eq_getElem?_getD,List.getElem?_eq_getElem hj];exact hs _ (List.getElem_mem hj)
  have ih:=bB_best (L:=L) (w:=w) (room:=room) hs m (by omega)
  unfold bB
  generalize bB l L w room m=b at ih ⊢
  obtain⟨k,hk⟩:∃ k,k=l.length-(m+1):=⟨_,rfl⟩
  rw [← hk]
  by_cases c:elg L w room (l.getD k d0)=true∧(b<0∨fee (at0 l b)*siz (l.getD k d0)≤fee (l.getD k d0)*siz (at0 l b))
  ·rw [if_pos c]
   refine .inr ⟨k,rfl,by omega,by omega,c.1,fun j hj hjl ej=>?_⟩
   by_cases e:j=k
   ·subst e;exact⟨Int.le_refl _,fun h=>absurd h (Nat.lt_irrefl _)⟩
   ·rcases ih with⟨rfl,ih⟩|⟨i,rfl,hi,pi,ei,ih⟩
    ·rw [ih j (by omega) hjl] at ej;cases ej
    ·rcases c.2 with c2|c2
     ·omega
     ·have c2:fee (l.getD i d0)*siz (l.getD k d0)≤fee (l.getD k d0)*siz (l.getD i d0):=c2
      have g:=(ih j (by omega) hjl ej).1
      exact⟨cross_le (hsz j hjl) (hsz i hi) (hsz k (by omega)) g c2,fun h=>by omega⟩
  ·rw [if_neg c]
   rcases ih with⟨rfl,ih⟩|⟨i,rfl,hi,pi,ei,ih⟩
   ·refine .inl ⟨rfl,fun j hj hjl=>?_⟩
    by_cases e:j=k
    ·subst e
     refine Bool.eq_false_iff.2 fun h=>c ⟨h,.inl (by omega)⟩
    ·exact ih j (by omega) hjl
   ·refine .inr ⟨i,rfl,hi,by omega,ei,fun j hj hjl ej=>?_⟩
    by_cases e:j=k
    ·subst e
     have key:fee (l.getD j d0)*siz (l.getD i d0)<fee (l.getD i d0)*siz (l.getD j d0):=Int.not_le.1 fun h=>c ⟨ej,.inr h⟩
     exact⟨by omega,fun _=>key⟩
    ·exact ih j (by omega) hjl ej
theorem bF_bB{l:List Dl}{L:List Ac}{w:Str}{room:Int}(hs:∀ d∈l,0<siz d):bB l L w room l.length=bF l L w room l.length:=by
 have h1:=bF_best (L:=L) (w:=w) (room:=room) hs l.length (Nat.le_refl _)
 have h2:=bB_best (L:=L) (w:=w) (room:=room) hs l.length (Nat.le_refl _)
 refine(IsB.one (l:=l) (E:=elg L w room) (P:=fun _=>True) ?_ ?_).symm
 ·rcases h1 with⟨e,h⟩|⟨i,e,hi,pi,ei,h⟩
  ·exact .inl ⟨e,fun j _ hj=>h j hj hj⟩
  ·exact .inr ⟨i,e,hi,trivial,ei,fun j _ hj=>h j hj hj⟩
 ·rcases h2 with⟨e,h⟩|⟨i,e,hi,pi,ei,h⟩
  ·exact .inl ⟨e,fun j _ hj=>h j (by omega) hj⟩
  ·exact .inr ⟨i,e,hi,trivial,ei,fun j _ hj=>h j (by omega) hj⟩
theorem bF_range{l:List Dl}{L:List Ac}{w:Str}{room:Int}:∀ k,-1≤bF l L w room k∧bF l L w room k<k
 | 0=>by simp [bF]
 | k+1=>by
  have:=bF_range (l:=l) (L:=L) (w:=w) (room:=room) k
  unfold bF;split<;>omega
theorem bB_range{l:List Dl}{L:List Ac}{w:Str}{room:Int}:∀ m,m≤l.length→-1≤bB l L w room m∧bB l L w room m<l.length
 | 0,_=>by simp [bB];omega
 | m+1,hm=>by
  have:=bB_range (l:=l) (L:=L) (w:=w) (room:=room) m (by omega)
  unfold bB;split<;>omega
theorem bF_elg{l:List Dl}{L:List Ac}{w:Str}{room:Int}:∀ k,0≤bF l L w room k→elg L w room (at0 l (bF l L w room k))=true
 | 0,h=>by simp [bF] at h
 | k+1,h=>by
  unfold bF at h ⊢
  by_cases c:elg L w room (l.getD k d0)=true∧(bF l L w room k<0∨fee (at0 l (bF l L w room k))*siz (l.getD k d0)<fee (l.getD k d0)*siz (at0 l (bF l L w room k)))
  ·rw [if_pos c]
   show elg L w room (l.getD ((k:Int)).toNat d0)=true
   rw [Int.toNat_natCast];exact c.1
  ·rw [if_neg c] at h ⊢
   exact bF_elg k h
def nxE(l:List Dl)(L:List Ac)(w:Str)(room:Int):Int :=
 if ofE l≠0 then ofE l else if acE L≠0 then acE L else if room<0∨1000<room then 1 else if bF l L w room l.length<0 then 4 else 0
def nxK(l:List Dl)(L:List Ac)(w:Str)(room:Int):Int:=if nxE l L w room=0 then bF l L w room l.length else 0
theorem tkE_ok{L:List Ac}{d:Dl}{w:Str}(h:tkE L d w=0):acE L=0∧dlE d=0∧acE (tkM L d w)=0:=by
 unfold tkE at h
 by_cases c1:acE L≠0
 ·rw [if_pos c1] at h;exact absurd h c1
 rw [if_neg c1] at h
 by_cases c2:dlE d≠0
 ·rw [if_pos c2] at h;exact absurd h c2
 rw [if_neg c2] at h
 refine⟨Classical.not_not.1 c1,Classical.not_not.1 c2,?_⟩
 split at h
 ·cases h
 split at h
 ·cases h
 split at h
 ·cases h
 by_cases c3:acE (tkM L d w)≠0
 ·rw [if_pos c3] at h;cases h
 ·exact Classical.not_not.1 c3
def bld(l:List Dl)(w:Str):Nat→List Ac→Int→List Int×List Ac
 | 0,L,_=>([],L)
 | f+1,L,room=>if nxE l L w room=0 then(nxK l L w room::(bld l w f (tkM L (at0 l (nxK l L w room)) w) (room-siz (at0 l (nxK l L w room)))).1,(bld l w f (tkM L (at0 l (nxK l L w room)) w) (room-siz (at0 l (nxK l L w room)))).2) else([],L)
theorem nx_at{l:List Dl}{L:List Ac}{w:Str}{room:Int}(h:nxE l L w room=0):ofE l=0∧acE L=0∧(0≤room∧room≤1000)∧∃ i,∃ (hi:i<l.length),nxK l L w room=(i:Int)∧at0 l (nxK l L w room)=l[i]∧tkE L l[i] w=0∧1≤siz l[i]∧siz l[i]≤room:=by
 have hk:nxK l L w room=bF l L w room l.length:=if_pos h
 unfold nxE at h
 by_cases c1:ofE l≠0
 ·rw [if_pos c1] at h;exact absurd h c1
 rw [if_neg c1] at h
 by_cases c2:acE L≠0
 ·rw [if_pos c2] at h;exact absurd h c2
 rw [if_neg c2] at h
 by_cases c3:room<0∨1000<room
 ·rw [if_pos c3] at h;cases h
 rw [if_neg c3] at h
 by_cases c4:bF l L w room l.length<0
 ·rw [if_pos c4] at h;cases h
 have hr:=bF_range (l:=l) (L:=L) (w:=w) (room:=room) l.length
 have he:=bF_elg (l:=l) (L:=L) (w:=w) (room:=room) l.length (by omega)
 obtain⟨i,hi⟩:∃ i:Nat,bF l L w room l.length=(i:Int):=⟨(bF l L w room l.length).toNat,by omega⟩
 have hil:i<l.length:=by omega
 have hat:at0 l (nxK l L w room)=l[i]:=by
  unfold at0
  rw [hk,hi,Int.toNat_natCast,List.getD_eq_getElem?_getD,List.getElem?_eq_getElem hil];rfl
 rw [hk] at hat
 rw [hat] at he
 unfold elg at he
 rw [Bool.and_eq_true,decide_eq_true_eq,decide_eq_true_eq] at he
 rw [hk]
 refine⟨Classical.not_not.1 c1,Classical.not_not.1 c2,by omega,i,hil,hi,hat,he.2,?_,he.1⟩
 have:=(dlE_ok (tkE_ok he.2).2.1).size
 exact this.1
theorem nxE_next{l:List Dl}{L:List Ac}{w:Str}{room:Int}(h1:ofE l=0)(h2:acE L=0)(h3:0≤room∧room≤1000):nxE l L w room=0∨nxE l L w room=4:=by
 unfold nxE
 rw [if_neg (not_not_intro h1),if_neg (not_not_intro h2),if_neg (by omega)]
 split
 ·exact .inr rfl
 ·exact .inl rfl
end Go.Proofs.YtkkcnppgcnmikaaGreatDoor
namespace Go.Proofs.YtkkcnppgcnmikaaGreatDoor
open Go FM Go.Proofs
set_option maxRecDepth 10000
set_option maxHeartbeats 6400000
set_option linter.all false
theorem getD_of{l:List Dl}{k:Nat}(h:k<l.length):l.getD k d0=l[k]:=by rw [List.getD_eq_getElem?_getD,List.getElem?_eq_getElem h];rfl
theorem next_spec(l:List Dl)(L:List Ac)(w:Str)(room:Int)(hl:DlL l)(hL:AcL L):FnSpec Sy.P 55 [.sl false 6 (l.map dlA),.sl false 3 (L.map acA),.str w,.int room] [.sl false 6 (l.map dlA),.sl false 3 (L.map acA),.str w,.int room] (.tup [.int (nxK l L w room),.int (nxE l L w room)]):=by
 have hC:=qcheck_spec l hl
 have hC2:=check_spec L hL
 have hCr:=ofE_range l
 have hCr2:=acE_range L
 by_cases c1:ofE l=0
 ·have hok:=ofE_ok c1
  have hl20:=hok.len
  rw [c1] at hC
  by_cases c2:acE L=0
  ·rw [c2] at hC2
   by_cases c3:room<0∨1000<room
   ·have e1:nxE l L w room=1:=by unfold nxE;rw [if_neg (not_not_intro c1),if_neg (not_not_intro c2),if_pos c3]
    rw [show nxK l L w room=0 from if_neg (by rw [e1];decide),e1]
    refine enT Tryz.func55 Tryz.ntmps55 fun v0=>?_
    repeat' first|refine w9x ?_|refine w9p (hC) ?_|refine w9p (hC2) ?_|(refine w9c ?_ ?_<;>intro _<;>try exact w9o)|fail
    all_goals exact w9e
   ·have e0:nxE l L w room=if bF l L w room l.length<0 then 4 else 0:=by unfold nxE;rw [if_neg (not_not_intro c1),if_neg (not_not_intro c2),if_neg c3]
    have hbr:=bF_range (l:=l) (L:=L) (w:=w) (room:=room) l.length
    refine enT Tryz.func55 Tryz.ntmps55 fun v0=>?_
    repeat' first|refine w9x ?_|refine w9p (hC) ?_|refine w9p (hC2) ?_|(refine w9c ?_ ?_<;>intro _<;>try exact w9o)|fail
    all_goals try exact w9o
    refine CW.loop (fun k:Nat=>[(0,.av (.sl false 6 (l.map dlA))),(1,.av (.sl false 3 (L.map acA))),(2,.av (.str w)),(3,.av (.int (room))),(12,.av (.int (bF l L w room k))),(33,.av (.sl false 6 (l.map dlA))),(34,.av (.int (l.length))),(35,.av (.int (k)))]) (fun k=>k≤l.length) (fun k=>l.length-k) (0) ?_ (w9a) ?_
    ·exact Nat.zero_le _
    intro k hk
    by_cases hkl:k<l.length
    ·have hx:l[k]?=some l[k]:=List.getElem?_eq_getElem hkl
     have hT:=take_spec L l[k] w hL (hl.s1 _ (List.getElem_mem hkl)) (hl.s2 _ (List.getElem_mem hkl))
     have hdk:=hok.ok _ (List.getElem_mem hkl)
     have hb:bF l L w room (k+1)=if elg L w room l[k]=true∧(bF l L w room k<0∨fee (at0 l (bF l L w room k))*siz l[k]<fee l[k]*siz (at0 l (bF l L w room k))) then(k:Int) else bF l L w room k:=by
      rw [bF,getD_of hkl]
     have hbr:=bF_range (l:=l) (L:=L) (w:=w) (room:=room) k
     have hsz:=hdk.size
     have hfe:=hdk.fee
     generalize l[k]=d at *
     generalize bF l L w room k=b at *
     unfold resA at hT
     by_cases s1:d.2.2.2.2.2.1≤room
     ·have hlo:elg L w room d=decide (tkE L d w=0):=by unfold elg;rw [decide_eq_true s1,Bool.true_and]
      rw [hlo] at hb
      by_cases s2:tkE L d w=0
      ·rw [if_pos s2] at hT
       rw [decide_eq_true s2] at hb
       by_cases s3:b<0
       ·rw [if_pos ⟨rfl,.inl s3⟩] at hb
        repeat' first|refine w9x ?_|refine w9p (hT) ?_|(refine w9c ?_ ?_<;>intro _<;>try exact w9o)|fail
        all_goals try exact w9o
        refine⟨k+1,?_,w9n,by(repeat' (first|exact w9b|refine And.intro ?_ ?_|exact int_congr hb.symm))⟩
        all_goals omega
       ·obtain⟨i,rfl⟩:∃ i:Nat,b=(i:Int):=⟨b.toNat,by omega⟩
        have hil:i<l.length:=by omega
        have hxi:l[i]?=some l[i]:=List.getElem?_eq_getElem hil
        have hdi:=hok.ok _ (List.getElem_mem hil)
        have ha:at0 l (i:Int)=l[i]:=by unfold at0;rw [Int.toNat_natCast,getD_of hil]
        rw [ha] at hb
        have z1:=hdi.size
        have z2:=hdi.fee
        generalize l[i]=a at *
        have m1:=mulB (x:=d.2.2.2.2.1) (y:=a.2.2.2.2.2.1) (a:=1000000) (b:=100) (by omega) (by omega)
        have m2:=mulB (x:=a.2.2.2.2.1) (y:=d.2.2.2.2.2.1) (a:=1000000) (b:=100) (by omega) (by omega)
        by_cases s4:a.2.2.2.2.1*d.2.2.2.2.2.1<d.2.2.2.2.1*a.2.2.2.2.2.1
        ·rw [if_pos ⟨rfl,.inr s4⟩] at hb
         repeat' first|refine w9x ?_|refine w9p (hT) ?_|(refine w9c ?_ ?_<;>intro _<;>try exact w9o)|fail
         all_goals try exact w9o
         refine⟨k+1,?_,w9n,by(repeat' (first|exact w9b|refine And.intro ?_ ?_|exact int_congr hb.symm))⟩
         all_goals omega
        ·rw [if_neg (fun h=>h.2.elim (fun h=>s3 h) s4)] at hb
         repeat' first|refine w9x ?_|refine w9p (hT) ?_|(refine w9c ?_ ?_<;>intro _<;>try exact w9o)|fail
         all_goals try exact w9o
         refine⟨k+1,?_,w9n,by(repeat' (first|exact w9b|refine And.intro ?_ ?_|exact int_congr hb.symm))⟩
         all_goals omega
      ·rw [if_neg s2] at hT
       rw [decide_eq_false s2,if_neg (fun h=>by cases h.1)] at hb
       generalize tkE L d w=e at *
       repeat' first|refine w9x ?_|refine w9p (hT) ?_|(refine w9c ?_ ?_<;>intro _<;>try exact w9o)|fail
       all_goals try exact w9o
       refine⟨k+1,?_,w9n,by(repeat' (first|exact w9b|refine And.intro ?_ ?_|exact int_congr hb.symm))⟩
       all_goals omega
     ·have hlo:elg L w room d=false:=by unfold elg;rw [decide_eq_false s1,Bool.false_and]
      rw [hlo,if_neg (fun h=>by cases h.1)] at hb
      have s1:room<d.2.2.2.2.2.1:=by omega
      repeat' first|refine w9x ?_|(refine w9c ?_ ?_<;>intro _<;>try exact w9o)|fail
      all_goals try exact w9o
      refine⟨k+1,?_,w9n,by(repeat' (first|exact w9b|refine And.intro ?_ ?_|exact int_congr hb.symm))⟩
      all_goals omega
    ·obtain rfl:l.length=k:=by omega
     by_cases c4:bF l L w room l.length<0
     ·rw [if_pos c4] at e0
      rw [show nxK l L w room=0 from if_neg (by rw [e0];decide),e0]
      generalize bF l L w room l.length=b at *
      repeat' first|refine w9x ?_|(refine w9c ?_ ?_<;>intro _<;>try exact w9o)|fail
      all_goals exact w9e
     ·rw [if_neg c4] at e0
      rw [show nxK l L w room=bF l L w room l.length from if_pos e0,e0]
      generalize bF l L w room l.length=b at *
      repeat' first|refine w9x ?_|(refine w9c ?_ ?_<;>intro _<;>try exact w9o)|fail
      all_goals exact w9e
  ·have e1:nxE l L w room=acE L:=by unfold nxE;rw [if_neg (not_not_intro c1),if_pos c2]
   rw [show nxK l L w room=0 from if_neg (by rw [e1];exact c2),e1]
   generalize acE L=e at *
   refine enT Tryz.func55 Tryz.ntmps55 fun v0=>?_
   repeat' first|refine w9x ?_|refine w9p (hC) ?_|refine w9p (hC2) ?_|(refine w9c ?_ ?_<;>intro _<;>try exact w9o)|fail
   all_goals exact w9e
 ·have e1:nxE l L w room=ofE l:=by unfold nxE;rw [if_pos c1]
  rw [show nxK l L w room=0 from if_neg (by rw [e1];exact c1),e1]
  generalize ofE l=e at *
  refine enT Tryz.func55 Tryz.ntmps55 fun v0=>?_
  repeat' first|refine w9x ?_|refine w9p (hC) ?_|refine w9p (hC2) ?_|(refine w9c ?_ ?_<;>intro _<;>try exact w9o)|fail
  all_goals exact w9e
theorem ofR_ne4{l:List Dl}:∀ (m k:Nat),ofR l m k≠4
 | 0,k=>by simp [ofR]
 | m+1,k=>by
  have h1:=ofR_ne4 (l:=l) m (k+1)
  have h2:=dlE_range (l.getD k d0)
  unfold ofR
  split
  ·omega
  ·split
   ·decide
   ·exact h1
theorem ofE_ne4(l:List Dl):ofE l≠4:=by
 unfold ofE;split
 ·decide
 ·exact ofR_ne4 _ _
theorem nxE_04{l:List Dl}{L:List Ac}{w:Str}{room:Int}(h:nxE l L w room=0∨nxE l L w room=4):ofE l=0∧acE L=0∧0≤room∧room≤1000:=by
 have h1:=ofE_ne4 l
 have h2:=acE_range L
 by_cases c1:ofE l≠0
 ·have e:nxE l L w room=ofE l:=by unfold nxE;rw [if_pos c1]
  rw [e] at h;omega
 by_cases c2:acE L≠0
 ·have e:nxE l L w room=acE L:=by unfold nxE;rw [if_neg c1,if_pos c2]
  rw [e] at h;omega
 by_cases c3:room<0∨1000<room
 ·have e:nxE l L w room=1:=by unfold nxE;rw [if_neg c1,if_neg c2,if_pos c3]
  rw [e] at h;omega
 exact⟨Classical.not_not.1 c1,Classical.not_not.1 c2,by omega⟩
def bdE(l:List Dl)(L:List Ac)(w:Str)(room:Int):Int:=if nxE l L w room=0∨nxE l L w room=4 then 0 else nxE l L w room
def bdT(l:List Dl)(L:List Ac)(w:Str)(room:Int)(f:Nat):List Int:=if bdE l L w room=0 then(bld l w f L room).1 else []
def bdL(l:List Dl)(L:List Ac)(w:Str)(room:Int)(f:Nat):List Ac:=if bdE l L w room=0 then(bld l w f L room).2 else []
theorem bld_step{l:List Dl}{w:Str}{f:Nat}{L:List Ac}{room:Int}{i:Nat}{d:Dl}(h:nxE l L w room=0)(hk:nxK l L w room=(i:Int))(hd:at0 l (nxK l L w room)=d):bld l w (f+1) L room=((i:Int)::(bld l w f (tkM L d w) (room-siz d)).1,(bld l w f (tkM L d w) (room-siz d)).2):=by
 rw [bld,if_pos h,hd,hk]
theorem bld_end{l:List Dl}{w:Str}{f:Nat}{L:List Ac}{room:Int}(h:nxE l L w room≠0):bld l w f L room=([],L):=by
 cases f with
 | zero=>rfl
 | succ f=>rw [bld,if_neg h]
theorem bld_len{l:List Dl}{w:Str}:∀ (f:Nat) (L:List Ac) (room:Int),0≤room→((bld l w f L room).1.length:Int)≤room
 | 0,L,room,h=>by simpa [bld] using h
 | f+1,L,room,h=>by
  by_cases c:nxE l L w room=0
  ·obtain⟨_,_,_,i,hi,hk,hd,_,hs1,hs2⟩:=nx_at c
   rw [bld_step c hk hd]
   have:=bld_len (l:=l) (w:=w) f (tkM L l[i] w) (room-siz l[i]) (by omega)
   rw [List.length_cons];omega
  ·rw [bld_end c];simpa using h
theorem le_tup3{a b c a' b' c':AV}(h1:AV.le a a')(h2:AV.le b b')(h3:AV.le c c'):AV.le (.tup [a,b,c]) (.tup [a',b',c']):=.tup rfl fun i x y hx hy=>by
 match i with
 | 0=>simp only [List.getElem?_cons_zero,Option.some.injEq] at hx hy;subst hx;subst hy;exact h1
 | 1=>simp only [List.getElem?_cons_succ,List.getElem?_cons_zero,Option.some.injEq] at hx hy;subst hx;subst hy;exact h2
 | 2=>simp only [List.getElem?_cons_succ,List.getElem?_cons_zero,Option.some.injEq] at hx hy;subst hx;subst hy;exact h3
 | i+3=>simp at hx
theorem noShA{l:List Ac}:NoSh (.sl true 3 (l.map acA)):=.sl fun y hy=>by obtain⟨z,_,rfl⟩:=List.mem_map.1 hy;exact noSh_aggL rfl
structure Bst(l:List Dl)(w:Str)(R:List Int×List Ac)(f:Nat)(t:List Int)(L:List Ac)(room:Int):Prop where
 eq:R=(t++(bld l w f L room).1,(bld l w f L room).2)
 r0:0≤room∧room≤1000
 fu:room<f
 ln:(t.length:Int)+room≤1000
 ac:acE L=0
 al:AcL L
theorem build_spec(l:List Dl)(L:List Ac)(w:Str)(room:Int)(hl:DlL l)(hL:AcL L):FnSpec Sy.P 19 [.sl false 6 (l.map dlA),.sl false 3 (L.map acA),.str w,.int room] [.sl false 6 (l.map dlA),.sl false 3 (L.map acA),.str w,.int room] (.tup [.sl true 1 ((bdT l L w room 1001).map .int),.sl true 3 ((bdL l L w room 1001).map acA),.int (bdE l L w room)]):=by
 have hN:=next_spec l L w room hl hL
 unfold bdT bdL
 by_cases c:nxE l L w room=0∨nxE l L w room=4
 ·have e0:bdE l L w room=0:=if_pos c
  rw [e0,if_pos rfl,if_pos rfl]
  obtain⟨g1,g2,g3⟩:=nxE_04 c
  have hok:=ofE_ok g1
  have hl20:=hok.len
  have hL6:=(acE_ok g2).len
  have hB0:Bst l w (bld l w 1001 L room) 1001 [] L room:=⟨by rw [List.nil_append],g3,by omega,by simp;omega,g2,hL⟩
  generalize bld l w 1001 L room=R at *
  refine enT Tryz.func19 Tryz.ntmps19 fun v0=>?_
  repeat' first|refine w9x ?_|refine w9p (hN) ?_|(refine w9c ?_ ?_<;>intro _<;>try exact w9o)|fail
  all_goals try exact w9o
  all_goals refine CW.leS (x:=.nil) 14 rfl (AV.le.nil (o:=true) (c:=1)) ?_
  all_goals (
   refine CW.loop (fun z:Nat×List Int×List Ac×Int=>[(0,.av (.sl false 6 (l.map dlA))),(2,.av (.str w)),(3,.av (.int (z.2.2.2))),(11,.av (.int (nxK l z.2.2.1 w z.2.2.2))),(12,.av (.int (nxE l z.2.2.1 w z.2.2.2))),(13,.av (.sl true 3 (z.2.2.1.map acA))),(14,.av (.sl true 1 ((z.2.1).map .int)))]) (fun z=>Bst l w R z.1 z.2.1 z.2.2.1 z.2.2.2) (fun z=>z.2.2.2.toNat) ((1001,[],L,room)) ?_ (w9a) ?_)
  all_goals first|exact hB0|skip
  all_goals (
   rintro⟨f,t,M,r⟩ hS
   dsimp only at hS ⊢
   have hr:=hS.r0
   have hfu:=hS.fu
   have hln:=hS.ln
   have heq:=hS.eq
   have h04:=nxE_next (w:=w) g1 hS.ac hr
   by_cases c2:nxE l M w r=0
   ·obtain⟨_,_,_,i,hi,hk,hd,htk,hs1,hs2⟩:=nx_at c2
    obtain⟨f,rfl⟩:∃ f',f=f'+1:=⟨f-1,by omega⟩
    rw [bld_step c2 hk hd] at heq
    have hx:l[i]?=some l[i]:=List.getElem?_eq_getElem hi
    have hT:=take_spec M l[i] w hS.al (hl.s1 _ (List.getElem_mem hi)) (hl.s2 _ (List.getElem_mem hi))
    have hac:=(tkE_ok htk).2.2
    unfold resA at hT
    rw [if_pos htk] at hT
    have hN2:=next_spec l (tkM M l[i] w) w (r-siz l[i]) hl (tkM_L hS.al)
    have hS2:Bst l w R f (t++[(i:Int)]) (tkM M l[i] w) (r-siz l[i]):=⟨by rw [heq,List.append_assoc];rfl,by omega,by omega,by rw [List.length_append,List.length_singleton];omega,hac,tkM_L hS.al⟩
    have htl:t.length≤1000:=by omega
    rw [hk,c2]
    generalize l[i]=d at *
    have hs1:1≤d.2.2.2.2.2.1:=hs1
    have hs2:d.2.2.2.2.2.1≤r:=hs2
    repeat' first|(refine J.callP hT rfl rfl (.cons (.br rfl AV.noConfusion (sh_map (fun _=>rfl))) (.cons (.pl rfl rfl) (.cons (.pl rfl rfl) .nil))) (fun _=>noSh_tup2 noShA .int) ?_)|refine w9x ?_|refine w9p (hN2) ?_|(refine w9c ?_ ?_<;>intro _<;>try exact w9o)|fail
    all_goals try exact w9o
    refine⟨(f,t++[(i:Int)],tkM M d w,r-d.2.2.2.2.2.1),?_,w9n,by(repeat' (first|exact w9b|refine And.intro ?_ ?_|(refine congrArg (fun y=>TV.av (AV.sl true 1 y)) ?_;rw [List.map_append];rfl)))⟩
    all_goals first|exact hS2|omega|(dsimp only;omega)
   ·have c4:nxE l M w r=4:=by omega
    rw [bld_end c2,List.append_nil] at heq
    rw [c4,heq]
    repeat' first|refine w9x ?_|(refine w9c ?_ ?_<;>intro _<;>try exact w9o)|fail
    all_goals first|(exfalso;omega)|exact .mk rfl rfl rfl)
 ·have e0:bdE l L w room=nxE l L w room:=if_neg c
  have hne:¬ nxE l L w room=0:=fun h=>c (.inl h)
  have hne4:¬ nxE l L w room=4:=fun h=>c (.inr h)
  rw [e0,if_neg hne,if_neg hne]
  generalize nxE l L w room=e at *
  refine enT Tryz.func19 Tryz.ntmps19 fun v0=>?_
  repeat' first|refine w9x ?_|refine w9p (hN) ?_|(refine w9c ?_ ?_<;>intro _<;>try exact w9o)|fail
  all_goals first|(exfalso;omega)|exact .mkL rfl (le_tup3 .nil .nil (.refl _)) rfl
end Go.Proofs.YtkkcnppgcnmikaaGreatDoor
namespace FM
open Go Go.RowKit
set_option linter.all false
variable {S:Sys} {σ:St} {d ty:Nat} {pos:String} {aft:Array Edge} {g:Option (Nat×Bool)}
theorem own_cut{L:Nat→Lab}{w:World}{p:List Nat}{c:Nat}{xs:List AV}{v:Value}(h:Rep L w (some p) (.sl true c xs) v) :
  ∃ a cap,v=.slice a xs.length cap∧xs.length≤cap∧∀ n,n≤xs.length→Rep L w (some p) (.sl true c (xs.take n)) (.slice a n cap):=by
 cases h with
 | @slE _ _ _ a cap h =>
  refine⟨a,cap,rfl,Nat.zero_le _,fun n hn=>?_⟩
  have:n=0:=by simpa using hn
  subst this
  rw [List.take_nil]
  exact .slE h
 | @slO p c xs b cap arr e u hL hb hcap hsz hc hcell hr =>
  refine⟨some ⟨b,0,none⟩,cap,rfl,hcap,fun n hn=>?_⟩
  have hlen:(xs.take n).length=n:=by rw [List.length_take];omega
  have key:Rep L w (some p) (.sl true c (xs.take n)) (.slice (some ⟨b,0,none⟩) (xs.take n).length cap):=by
   refine .slO u hL hb (by rw [hlen];omega) hsz (fun x hx=>hc x (List.mem_of_mem_take hx)) (fun o ho=>hcell o (Nat.lt_of_lt_of_le ho (Nat.mul_le_mul_right _ (by rw [hlen];exact hn)))) fun o y hy=>hr o y ?_
   rw [← List.take_append_drop n xs,flat_append,List.getElem?_append_left (List.getElem?_eq_some_iff.1 hy).1]
   exact hy
  rwa [hlen] at key
theorem RelL.takeAs{w0:World}{L0:Nat→Lab}{N:Nat}{a:Act}{w:World}{L:Nat→Lab}(h:RelL S w0 L0 N σ a w L){s:Nat}{x y:AV}{v:Value}(hs:get σ s=.av x)(hd:DOk S N d)(hsd:s≠d)(hv:Rep L w (some [s]) y v) :
  RelL S w0 L0 N ((σ.put s .none).put d (.av y)) (a.put (some d) v) w (mvl [s] d L):=by
 have hsN:=own_lt h hs (by simp)
 refine⟨h.defers,by simp [Act.put,h.size],h.keep,h.lok.mvl _ _,fun n hn=>?_,fun n hn=>?_,fun i hi=>(getD_set_other (hd.ne hi)).trans (h.fix i hi),h.glob⟩
 ·simp only [get,kill_eq,Act.put]
  by_cases hnd:d=n
  ·subst hnd
   rw [Nat.beq_refl,cond_true,getD_set_same (by rw [h.size];exact hd.lt)]
   refine Rep.frame (Nat.le_refl _) rfl rfl rfl (fun b h1 _=>⟨mvl_sh h1,rfl⟩) hv _ fun p hp=>?_
   cases hp
   exact⟨[d],rfl,fun b q hb=>⟨mvl_to hb,rfl⟩⟩
  ·rw [not_beq hnd,cond_false,getD_set_other hnd]
   by_cases hns:s=n
   ·subst hns;rw [Nat.beq_refl,cond_true];trivial
   ·rw [not_beq hns,cond_false]
    cases hdep:(get σ n).dep s with
    | true=>trivial
    | false =>
     rw [cond_false]
     cases hdep':(get σ n).dep d with
     | true=>trivial
     | false =>
      rw [cond_false]
      refine Hold.relab (good:=fun t=>t≠d∧t≠s) (Nat.le_refl _) rfl rfl rfl (fun b h1 _=>⟨mvl_sh h1,rfl⟩) (fun b t q h1 h2=>⟨mvl_keep h1 h2.1 ?_,rfl⟩)
       (fun s' hs'=>getD_set_other (fun e=>hs'.1 e.symm)) ⟨fun e=>hnd e.symm,fun e=>hns e.symm⟩ (fun s' hs'=>⟨fun e=>?_,fun e=>?_⟩) (h.hold n hn)
      ·simp only [strip,not_beq (fun e=>h2.2 e.symm:s≠t),cond_false]
      ·subst e;rw [hdep'] at hs';cases hs'
      ·subst e;rw [hdep] at hs';cases hs'
 ·simp only [get,kill_eq]
  rw [not_beq (by have:=hd.lt;omega),cond_false,not_beq (by omega),cond_false]
  have:=h.out n hn
  rw [this];rfl
theorem s_cutO{t e c sz by_:Nat}{z:List AV}{ti:TI}{x b:Operand}{s:Nat}{α:Type}{f:α→AV}{l:List α}{n:Int}(hx:ov σ x=.ref s)(hs:get σ s=.av (.sl true c (l.map f)))(hT:S.T t=some ⟨.slice e,sz,by_,z⟩)(hE:S.T e=some ti)
  (hb:ov σ b=.av (.int n)) (h0:0≤n) (h1:n.toNat≤l.length) (hsd:Nat.beq s d=false) :
  Step S ⟨some d,.slice t x none (some b) none,ty,pos,aft,g⟩ σ ((σ.put s .none).put d (.av (.sl true c ((l.take n.toNat).map f)))):=by
 intro w0 L0 N a w hN ⟨L,hR⟩
 obtain⟨m,hm,_⟩:=hold_plain hR hx (by simp)
 simp only [Hold] at hm
 have hh:=hR.hold s (own_lt hR hs (by simp))
 rw [hs,←hm] at hh
 simp only [Hold] at hh
 obtain⟨ad,cap,hv,hcap,hcut⟩:=own_cut hh
 rw [List.length_map] at hv hcap hcut
 obtain⟨f',hf,_⟩:=(S.ok e _ hE).size
 obtain⟨k,rfl⟩:∃ k:Nat,n=k:=⟨n.toNat,by omega⟩
 rw [Int.toNat_natCast] at h1 ⊢
 obtain⟨mb,hmb⟩:=ev_av hR hb
 have hbv:a.eval b=.int .i64 (k:Int):=by
  generalize a.eval b=bv at hmb
  cases hmb;rfl
 have run:∀ w',(Instr.sliceAt t (.slice ad l.length cap) none (some (.int .i64 (k:Nat))) none).run S.P w'=.ok (.slice ad k cap) w':=by
  intro w'
  have e1:(Instr.sliceBound (.int .i64 (k:Nat)) cap .sliceAcap).run S.P w'=.ok k w':=by
   have:(0:Int)≤(k:Int)∧(k:Int)≤(cap:Int):=by omega
   have h2:k≤cap:=by omega
   simp [Instr.sliceBound,asIntOf,this,h2]
  have hb:(Instr.sliceBounds true l.length cap none (some (.int .i64 (k:Nat))) none).run S.P w'=.ok (0,k,cap) w':=by
   simp [Instr.sliceBounds,e1]
  have had:(if cap=0 then ad else ad.map (·.add (0*f'.size)))=ad:=by
   split
   ·rfl
   ·cases ad with
    | none=>rfl
    | some q=>cases q;simp [Addr.add]
  simp [Instr.sliceAt,Instr.slice,run_underlying (S.ok t _ hT).slice,hb,Go.sizeOf,typeInfo,hf]
  first|done|simpa using had
 refine⟨.slice ad k cap,fun w' _=>?_,mvl [s] d L,?_⟩
 ·simp only [execOp,Option.map_none,Option.map_some,hv,hbv,Sem.run_bind,run w',Result.andThen_ok,Sem.run_pure]
 ·rw [List.map_take]
  exact hR.takeAs hs (hN d rfl) (of_not_beq hsd) (hcut k h1)
/-! ### parts of what a slot owns, read: in whatever order -/
section
variable {α:Type} {f:α→AV} {l:List α} {t e c sz by_:Nat} {z:List AV} {ti:TI} {x b:Operand} {n:Int}
end
end FM
