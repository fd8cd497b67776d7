/- Part of the proof. -/
import Derived.Test.YtmbbagbhmjaedaaGreatDoorCcc
set_option linter.all false
set_option maxRecDepth 10000
set_option maxHeartbeats 6400000
namespace Go.Proofs.YtmbbagbhmjaedaaGreatDoor
open Go FM Go.Proofs Tryz
theorem Cb(l:List Dl)(d:Dl)(hL:qH l)(h1:d.1.length<=9223372036854775807)(h2:d.2.1.length<=9223372036854775807):FnSpec Sy.P 17 [.sl false 6 (l.map bL),bL d] [.sl false 6 (l.map bL),bL d] (oW (Ef l d) (ve l d)):=by
 have hC:=iO l hL;have hR:=jO d h1 h2;have KO:=e9 l;have YB:=gI d;have hF:=jR l d.1 d.2.2.1 hL.len;unfold ve oW Ef;by_cases c1:gY l=0
 ·have hok:=iQ c1;rw [c1] at hC;rw [if_neg (not_not_intro c1)];by_cases c2:lT d=0
  ·have yg:=oN c2;rw [c2] at hR;rw [if_neg (not_not_intro c2)];have B5:=hok.len;have eP:=eG l ae;by_cases c3:0<=fD l d.1 d.2.2.1
   ·rw [if_pos c3,if_pos c3];obtain⟨i,hi,e1,n1⟩:=Eg c3;have ga:l[i]?=some l[i]:=ahn hi;rw [e1] at hF ⊢;rw [ahN,zE ga];generalize l[i]=a at *;by_cases c4:d.2.2.2.2.1<=a.2.2.2.2.1
    ·rw [if_pos c4,if_neg af];refine bQ func17 ntmps17 fun v0=>?_;repeat' first|refine aG ?_|refine aF (hC) ?_|refine aF (hR) ?_|refine aF (hF) ?_|(refine aK ?_ ?_<;>intro _<;>try exact aE)|fail
     all_goals exact bw
    ·rw [if_neg c4,if_pos rfl];refine bQ func17 ntmps17 fun v0=>?_;repeat' first|((with_reducible apply J.fJ);rfl;(exact DG (x:=d) rfl rfl rfl rfl rfl rfl))|refine aG ?_|refine aF (hC) ?_|refine aF (hR) ?_|refine aF (hF) ?_|refine aF (eP) ?_|(refine aK ?_ ?_<;>intro _<;>try exact aE)|fail
     all_goals exact bw
   ·rw [if_neg c3,if_neg c3];have iY:=zC l d.1 d.2.2.1;by_cases c5:20<=l.length
    ·rw [if_pos c5,if_neg af];refine bQ func17 ntmps17 fun v0=>?_;repeat' first|refine aG ?_|refine aF (hC) ?_|refine aF (hR) ?_|refine aF (hF) ?_|(refine aK ?_ ?_<;>intro _<;>try exact aE)|fail
     all_goals exact bw
    ·rw [if_neg c5,if_pos rfl];have nJ:TV.av (AV.sl true 6 (l.map bL++[bL d]))=TV.av (AV.sl true 6 ((l++[d]).map bL)):=by rw [ah0];rfl
     refine bQ func17 ntmps17 fun v0=>?_;repeat' first|refine w9y ?_|refine aF (hC) ?_|refine aF (hR) ?_|refine aF (hF) ?_|(refine aK ?_ ?_<;>intro _<;>try exact aE)|fail
     all_goals try exact aE
     refine CW.cut [(4,.av (.sl true 6 ((l++[d]).map bL))),(5,.av (.int (0)))] ?_ ?_
     ·refine CW.PU 7 rfl [false,false,false,false,false,false,false] ah rfl ?_;refine gq 0 ?_;refine FB 1 2 ?_ ?_
      ·repeat' first|((with_reducible apply J.step);rfl;exact FM.st)|((with_reducible apply J.fJ);rfl;exact FM.ef)|((with_reducible apply J.bq (eP));rfl;rfl;exact fX;(first|exact(fun _=>NoSh.int)|exact(fun h=>Bool.noConfusion h)))|with_reducible refine J.nil ?_
       refine iL 2 ?_;repeat' first|((with_reducible apply J.step);rfl;exact FM.st)|((with_reducible apply J.fJ);rfl;exact FM.ef)|((with_reducible apply J.bq (eP));rfl;rfl;exact fX;(first|exact(fun _=>NoSh.int)|exact(fun h=>Bool.noConfusion h)))|with_reducible refine J.nil ?_
       refine iL 3 ?_;repeat' first|((with_reducible apply J.step);rfl;exact FM.st)|((with_reducible apply J.fJ);rfl;exact FM.ef)|((with_reducible apply J.bq (eP));rfl;rfl;exact fX;(first|exact(fun _=>NoSh.int)|exact(fun h=>Bool.noConfusion h)))|with_reducible refine J.nil ?_
       refine iL 4 ?_;repeat' first|((with_reducible apply J.step);rfl;exact FM.st)|((with_reducible apply J.fJ);rfl;exact FM.ef)|((with_reducible apply J.bq (eP));rfl;rfl;exact fX;(first|exact(fun _=>NoSh.int)|exact(fun h=>Bool.noConfusion h)))|with_reducible refine J.nil ?_
       refine gq 5 ?_;refine gq 6 ?_;refine JA.done ah ?_;exact⟨rfl,by(repeat' (first|exact ky|refine And.intro ?_ ?_|exact nJ))⟩
      ·repeat' first|((with_reducible apply J.step);rfl;exact FM.st)|((with_reducible apply J.fJ);rfl;exact FM.ef)|((with_reducible apply J.bq (eP));rfl;rfl;exact fX;(first|exact(fun _=>NoSh.int)|exact(fun h=>Bool.noConfusion h)))|with_reducible refine J.nil ?_
       refine FB 1 3 ?_ ?_
       ·repeat' first|((with_reducible apply J.step);rfl;exact FM.st)|((with_reducible apply J.fJ);rfl;exact FM.ef)|((with_reducible apply J.bq (eP));rfl;rfl;exact fX;(first|exact(fun _=>NoSh.int)|exact(fun h=>Bool.noConfusion h)))|with_reducible refine J.nil ?_
        refine iL 3 ?_;repeat' first|((with_reducible apply J.step);rfl;exact FM.st)|((with_reducible apply J.fJ);rfl;exact FM.ef)|((with_reducible apply J.bq (eP));rfl;rfl;exact fX;(first|exact(fun _=>NoSh.int)|exact(fun h=>Bool.noConfusion h)))|with_reducible refine J.nil ?_
        refine iL 4 ?_;repeat' first|((with_reducible apply J.step);rfl;exact FM.st)|((with_reducible apply J.fJ);rfl;exact FM.ef)|((with_reducible apply J.bq (eP));rfl;rfl;exact fX;(first|exact(fun _=>NoSh.int)|exact(fun h=>Bool.noConfusion h)))|with_reducible refine J.nil ?_
        refine gq 5 ?_;refine gq 6 ?_;refine JA.done ah ?_;exact⟨rfl,by(repeat' (first|exact ky|refine And.intro ?_ ?_|exact nJ))⟩
       ·repeat' first|((with_reducible apply J.step);rfl;exact FM.st)|((with_reducible apply J.fJ);rfl;exact FM.ef)|((with_reducible apply J.bq (eP));rfl;rfl;exact fX;(first|exact(fun _=>NoSh.int)|exact(fun h=>Bool.noConfusion h)))|with_reducible refine J.nil ?_
        refine iL 1 ?_;repeat' first|((with_reducible apply J.step);rfl;exact FM.st)|((with_reducible apply J.fJ);rfl;exact FM.ef)|((with_reducible apply J.bq (eP));rfl;rfl;exact fX;(first|exact(fun _=>NoSh.int)|exact(fun h=>Bool.noConfusion h)))|with_reducible refine J.nil ?_
        refine iL 4 ?_;repeat' first|((with_reducible apply J.step);rfl;exact FM.st)|((with_reducible apply J.fJ);rfl;exact FM.ef)|((with_reducible apply J.bq (eP));rfl;rfl;exact fX;(first|exact(fun _=>NoSh.int)|exact(fun h=>Bool.noConfusion h)))|with_reducible refine J.nil ?_
        refine gq 5 ?_;refine gq 6 ?_;refine JA.done ah ?_;exact⟨rfl,by(repeat' (first|exact ky|refine And.intro ?_ ?_|exact nJ))⟩
     repeat' first|refine aG ?_|(refine aK ?_ ?_<;>intro _<;>try exact aE)|fail
     all_goals exact bw
  ·rw [if_pos c2,if_neg c2];generalize lT d=e at *;refine bQ func17 ntmps17 fun v0=>?_;repeat' first|refine aG ?_|refine aF (hC) ?_|refine aF (hR) ?_|(refine aK ?_ ?_<;>intro _<;>try exact aE)|fail
   all_goals exact bw
 ·rw [if_pos c1,if_neg c1];generalize gY l=e at *;refine bQ func17 ntmps17 fun v0=>?_;repeat' first|refine aG ?_|refine aF (hC) ?_|refine aF (hR) ?_|(refine aK ?_ ?_<;>intro _<;>try exact aE)|fail
  all_goals exact bw
def xp(l:List Dl)(s:bd)(n:Int):Int:=if gY l≠0 then gY l else if fD l s n<0 then 4 else 0
def zQ(l:List Dl)(s:bd)(n:Int):List Dl:=l.take (fD l s n).toNat++l.drop ((fD l s n).toNat+1)
theorem F6(l:List Dl)(s:bd)(n:Int)(hL:qH l):FnSpec Sy.P 76 [.sl false 6 (l.map bL),.str s,.int n] [.sl false 6 (l.map bL),.str s,.int n] (oW (zQ l s n) (xp l s n)):=by
 have hC:=iC l hL;have KO:=e9 l;have hF:=mH l s n hL.len;unfold xp oW zQ;by_cases c1:gY l=0
 ·have hok:=iQ c1;rw [c1] at hC;rw [if_neg (not_not_intro c1)];have B5:=hok.len;have eP:=eG l ae;by_cases c3:fD l s n<0
  ·rw [if_pos c3,if_neg af];refine bQ func76 ntmps76 fun v0=>?_;repeat' first|refine aG ?_|refine aF (hC) ?_|refine aF (hF) ?_|(refine aK ?_ ?_<;>intro _<;>try exact aE)|fail
   all_goals exact bw
  ·rw [if_neg c3,if_pos rfl];obtain⟨i,hi,e1,n1⟩:=Eg (l:=l) (s:=s) (n:=n) ae;rw [e1] at hF ⊢;rw [ahN];have fH:l.length<=1000:=ae;refine bQ func76 ntmps76 fun v0=>?_;repeat' first|(refine UX (l:=l) (k:=i) rfl rfl rfl hi fH rfl rfl rfl ?_)|refine aG ?_|refine aF (hC) ?_|refine aF (hF) ?_|refine aF (eP) ?_|(refine aK ?_ ?_<;>intro _<;>try exact aE)|fail
   all_goals exact bw
 ·rw [if_pos c1,if_neg c1];generalize gY l=e at *;refine bQ func76 ntmps76 fun v0=>?_;repeat' first|refine aG ?_|refine aF (hC) ?_|(refine aK ?_ ?_<;>intro _<;>try exact aE)|fail
  all_goals exact bw
theorem zR(l:List Dl)(s:bd)(n:Int)(hL:qH l):FnSpec Sy.P 25 [.sl false 6 (l.map bL),.str s,.int n] [.sl false 6 (l.map bL),.str s,.int n] (oW (zQ l s n) (xp l s n)):=by
 have hC:=iO l hL;have KO:=e9 l;have hF:=jR l s n hL.len;unfold xp oW zQ;by_cases c1:gY l=0
 ·have hok:=iQ c1;rw [c1] at hC;rw [if_neg (not_not_intro c1)];have B5:=hok.len;by_cases c3:fD l s n<0
  ·rw [if_pos c3,if_neg af];refine bQ func25 ntmps25 fun v0=>?_;repeat' first|refine aG ?_|refine aF (hC) ?_|refine aF (hF) ?_|(refine aK ?_ ?_<;>intro _<;>try exact aE)|fail
   all_goals exact bw
  ·rw [if_neg c3,if_pos rfl];obtain⟨i,hi,e1,n1⟩:=Eg (l:=l) (s:=s) (n:=n) ae;rw [e1] at hF ⊢;rw [ahN];have eP:=eG (l.take i) (by rw [ahF];omega);refine bQ func25 ntmps25 fun v0=>?_;repeat' first|refine w9z ?_|refine aF (hC) ?_|refine aF (hF) ?_|(refine aK ?_ ?_<;>intro _<;>try exact aE)|fail
   all_goals try exact aE
   refine CW.cut [(6,.av (.sl true 6 ((l.take i++l.drop (i+1)).map bL))),(7,.av (.int (0)))] ?_ ?_
   ·refine CW.PU 11 rfl [false,false,false,false,false,false,false,false,false,false,false] ah rfl ?_;refine gq 0 ?_;refine gq 1 ?_;refine gq 4 ?_;refine gq 5 ?_;apply JA.rK (i:=6);rfl;rfl;kernel_rfl;(first|((with_reducible apply D4)<;>exact bu)|((with_reducible apply ab8)<;>exact bu)|((with_reducible apply Zn)<;>exact bu)|((with_reducible apply Zo)<;>exact bu)|((with_reducible apply Zq)<;>exact bu));refine FB 2 7 ?_ ?_
    ·repeat' first|((with_reducible apply J.step);rfl;exact FM.st)|((with_reducible apply J.fJ);rfl;exact FM.ef)|((with_reducible apply J.bq (eP));rfl;rfl;exact fX;(first|exact(fun _=>NoSh.int)|exact(fun h=>Bool.noConfusion h)))|with_reducible refine J.nil ?_
     refine FB 3 7 ?_ ?_
     ·repeat' first|((with_reducible apply J.step);rfl;exact FM.st)|((with_reducible apply J.fJ);rfl;exact FM.ef)|((with_reducible apply J.bq (eP));rfl;rfl;exact fX;(first|exact(fun _=>NoSh.int)|exact(fun h=>Bool.noConfusion h)))|with_reducible refine J.nil ?_
      refine iL 7 ?_;repeat' first|((with_reducible apply J.step);rfl;exact FM.st)|((with_reducible apply J.fJ);rfl;exact FM.ef)|((with_reducible apply J.bq (eP));rfl;rfl;exact fX;(first|exact(fun _=>NoSh.int)|exact(fun h=>Bool.noConfusion h)))|with_reducible refine J.nil ?_
      refine iL 8 ?_;repeat' first|((with_reducible apply J.step);rfl;exact FM.st)|((with_reducible apply J.fJ);rfl;exact FM.ef)|((with_reducible apply J.bq (eP));rfl;rfl;exact fX;(first|exact(fun _=>NoSh.int)|exact(fun h=>Bool.noConfusion h)))|with_reducible refine J.nil ?_
      refine gq 9 ?_;refine gq 10 ?_;refine JA.done ah ?_;exact⟨rfl,ck⟩
     ·repeat' first|((with_reducible apply J.step);rfl;exact FM.st)|((with_reducible apply J.fJ);rfl;exact FM.ef)|((with_reducible apply J.bq (eP));rfl;rfl;exact fX;(first|exact(fun _=>NoSh.int)|exact(fun h=>Bool.noConfusion h)))|with_reducible refine J.nil ?_
      refine iL 3 ?_;repeat' first|((with_reducible apply J.step);rfl;exact FM.st)|((with_reducible apply J.fJ);rfl;exact FM.ef)|((with_reducible apply J.bq (eP));rfl;rfl;exact fX;(first|exact(fun _=>NoSh.int)|exact(fun h=>Bool.noConfusion h)))|with_reducible refine J.nil ?_
      refine iL 8 ?_;repeat' first|((with_reducible apply J.step);rfl;exact FM.st)|((with_reducible apply J.fJ);rfl;exact FM.ef)|((with_reducible apply J.bq (eP));rfl;rfl;exact fX;(first|exact(fun _=>NoSh.int)|exact(fun h=>Bool.noConfusion h)))|with_reducible refine J.nil ?_
      refine gq 9 ?_;refine gq 10 ?_;refine JA.done ah ?_;exact⟨rfl,ck⟩
    ·repeat' first|((with_reducible apply J.step);rfl;exact FM.st)|((with_reducible apply J.fJ);rfl;exact FM.ef)|((with_reducible apply J.bq (eP));rfl;rfl;exact fX;(first|exact(fun _=>NoSh.int)|exact(fun h=>Bool.noConfusion h)))|with_reducible refine J.nil ?_
     refine iL 2 ?_;repeat' first|((with_reducible apply J.step);rfl;exact FM.st)|((with_reducible apply J.fJ);rfl;exact FM.ef)|((with_reducible apply J.bq (eP));rfl;rfl;exact fX;(first|exact(fun _=>NoSh.int)|exact(fun h=>Bool.noConfusion h)))|with_reducible refine J.nil ?_
     refine iL 3 ?_;repeat' first|((with_reducible apply J.step);rfl;exact FM.st)|((with_reducible apply J.fJ);rfl;exact FM.ef)|((with_reducible apply J.bq (eP));rfl;rfl;exact fX;(first|exact(fun _=>NoSh.int)|exact(fun h=>Bool.noConfusion h)))|with_reducible refine J.nil ?_
     refine iL 8 ?_;repeat' first|((with_reducible apply J.step);rfl;exact FM.st)|((with_reducible apply J.fJ);rfl;exact FM.ef)|((with_reducible apply J.bq (eP));rfl;rfl;exact fX;(first|exact(fun _=>NoSh.int)|exact(fun h=>Bool.noConfusion h)))|with_reducible refine J.nil ?_
     refine gq 9 ?_;refine gq 10 ?_;refine JA.done ah ?_;exact⟨rfl,ck⟩
   repeat' first|refine aG ?_|(refine aK ?_ ?_<;>intro _<;>try exact aE)|fail
   all_goals exact bw
 ·rw [if_pos c1,if_neg c1];generalize gY l=e at *;refine bQ func25 ntmps25 fun v0=>?_;repeat' first|refine aG ?_|refine aF (hC) ?_|(refine aK ?_ ?_<;>intro _<;>try exact aE)|fail
  all_goals exact bw
theorem pQ(l:List Dl)(L:List Ac)(w:bd)(room:Int)(hl:qH l)(hL:kz L):FnSpec Sy.P 60 [.sl false 6 (l.map bL),.sl false 3 (L.map bz),.str w,.int room] [.sl false 6 (l.map bL),.sl false 3 (L.map bz),.str w,.int room] (.tup [.int (qg l L w room),.int (dF l L w room)]):=by
 have hC:=iO l hl;have qe:=iB L hL;have KO:=e9 l;have U0:=de L;by_cases c1:gY l=0
 ·have hok:=iQ c1;have B5:=hok.len;rw [c1] at hC;by_cases c2:eh L=0
  ·rw [c2] at qe;by_cases c3:room<0∨1000<room
   ·have e1:dF l L w room=1:=by unfold dF;rw [if_neg (not_not_intro c1),if_neg (not_not_intro c2),if_pos c3]
    rw [show qg l L w room=0 from if_neg (by rw [e1];decide),e1];refine bQ func60 ntmps60 fun v0=>?_;repeat' first|refine aG ?_|refine aF (hC) ?_|refine aF (qe) ?_|(refine aK ?_ ?_<;>intro _<;>try exact aE)|fail
    all_goals exact bw
   ·have e0:dF l L w room=if bF l L w room l.length<0 then 4 else 0:=by unfold dF;rw [if_neg (not_not_intro c1),if_neg (not_not_intro c2),if_neg c3]
    have Ze:=kY (l:=l) (L:=L) (w:=w) (room:=room) l.length;have hFB:=UZ (l:=l) (L:=L) (w:=w) (room:=room) (fun d hd=>by have:=(hok.ok d hd).size;show 0<d.2.2.2.2.2.1;omega);refine bQ func60 ntmps60 fun v0=>?_;repeat' first|refine aG ?_|refine aF (hC) ?_|refine aF (qe) ?_|(refine aK ?_ ?_<;>intro _<;>try exact aE)|fail
    all_goals try exact aE
    refine CW.loop (fun m:Nat=>[(0,.av (.sl false 6 (l.map bL))),(1,.av (.sl false 3 (L.map bz))),(2,.av (.str w)),(3,.av (.int (room))),(11,.av (.int (bB l L w room m))),(12,.av (.int ((l.length:Int)-1-m)))]) (fun m=>m<=l.length) (fun m=>l.length-m) (0) ?_ (ck) ?_
    ·exact ahQ _
    intro m hm;by_cases TL:m<l.length
    ·obtain⟨k,MD⟩:∃ k,k=l.length-(m+1):=⟨_,rfl⟩;have gW:k<l.length:=ae;have XW:(l.length:Int)-1-m=(k:Int):=ae;have Q2:(l.length:Int)-1-((m+1:Nat):Int)=(k:Int)-1:=ae;rw [XW];have hx:l[k]?=some l[k]:=ahn gW;have hT:=kX L l[k] w hL (hl.s1 _ (ahB gW)) (hl.s2 _ (ahB gW));have yg:=hok.ok _ (ahB gW);have hb:bB l L w room (m+1)=if uj L w room l[k]=true/\(bB l L w room m<0∨fee (fq l (bB l L w room m))*gJ l[k]<=fee l[k]*gJ (fq l (bB l L w room m))) then(k:Int) else bB l L w room m:=by
      rw [bB,<-MD,jU gW]
     have Ze:=zG (l:=l) (L:=L) (w:=w) (room:=room) m hm;have bc:=yg.size;have Zf:=yg.fee;generalize l[k]=d at *;generalize bB l L w room m=b at *;unfold nF at hT;by_cases s1:d.2.2.2.2.2.1<=room
     ·have LB:uj L w room d=decide (pD L d w=0):=by unfold uj;rw [decide_eq_true s1,Bool.true_and]
      rw [LB] at hb;by_cases s2:pD L d w=0
      ·rw [if_pos s2] at hT;rw [decide_eq_true s2] at hb;by_cases s3:b<0
       ·rw [if_pos ⟨rfl,.inl s3⟩] at hb;repeat' first|refine aG ?_|refine aF (hT) ?_|(refine aK ?_ ?_<;>intro _<;>try exact aE)|fail
        all_goals try exact aE
        refine⟨m+1,?_,fM,by(repeat' (first|exact ky|refine And.intro ?_ ?_|exact bf hb.symm|exact bf Q2.symm))⟩;all_goals omega
       ·obtain⟨i,rfl⟩:∃ i:Nat,b=(i:Int):=⟨b.toNat,ae⟩;have y8:i<l.length:=ae;have hxi:l[i]?=some l[i]:=ahn y8;have U1:=hok.ok _ (ahB y8);have ha:fq l (i:Int)=l[i]:=by unfold fq;rw [ahN,jU y8]
        rw [ha] at hb;have z1:=U1.size;have z2:=U1.fee;generalize l[i]=a at *;have m1:=Mx (x:=d.2.2.2.2.1) (y:=a.2.2.2.2.2.1) (a:=1000000) (b:=100) ae ae;have m2:=Mx (x:=a.2.2.2.2.1) (y:=d.2.2.2.2.2.1) (a:=1000000) (b:=100) ae ae;by_cases s4:a.2.2.2.2.1*d.2.2.2.2.2.1<=d.2.2.2.2.1*a.2.2.2.2.2.1
        ·rw [if_pos ⟨rfl,.inr s4⟩] at hb;repeat' first|refine aG ?_|refine aF (hT) ?_|(refine aK ?_ ?_<;>intro _<;>try exact aE)|fail
         all_goals try exact aE
         refine⟨m+1,?_,fM,by(repeat' (first|exact ky|refine And.intro ?_ ?_|exact bf hb.symm|exact bf Q2.symm))⟩;all_goals omega
        ·rw [if_neg (fun h=>h.2.elim (fun h=>s3 h) s4)] at hb;repeat' first|refine aG ?_|refine aF (hT) ?_|(refine aK ?_ ?_<;>intro _<;>try exact aE)|fail
         all_goals try exact aE
         refine⟨m+1,?_,fM,by(repeat' (first|exact ky|refine And.intro ?_ ?_|exact bf hb.symm|exact bf Q2.symm))⟩;all_goals omega
      ·rw [if_neg s2] at hT;rw [decide_eq_false s2,if_neg (fun h=>by cases h.1)] at hb;generalize pD L d w=e at *;repeat' first|refine aG ?_|refine aF (hT) ?_|(refine aK ?_ ?_<;>intro _<;>try exact aE)|fail
       all_goals try exact aE
       refine⟨m+1,?_,fM,by(repeat' (first|exact ky|refine And.intro ?_ ?_|exact bf hb.symm|exact bf Q2.symm))⟩;all_goals omega
     ·have LB:uj L w room d=false:=by unfold uj;rw [decide_eq_false s1,aiL]
      rw [LB,if_neg (fun h=>by cases h.1)] at hb;have s1:room<d.2.2.2.2.2.1:=ae;by_cases s2:pD L d w=0
      ·rw [if_pos s2] at hT;repeat' first|refine aG ?_|refine aF (hT) ?_|(refine aK ?_ ?_<;>intro _<;>try exact aE)|fail
       all_goals try exact aE
       refine⟨m+1,?_,fM,by(repeat' (first|exact ky|refine And.intro ?_ ?_|exact bf hb.symm|exact bf Q2.symm))⟩;all_goals omega
      ·rw [if_neg s2] at hT;generalize pD L d w=e at *;repeat' first|refine aG ?_|refine aF (hT) ?_|(refine aK ?_ ?_<;>intro _<;>try exact aE)|fail
       all_goals try exact aE
       refine⟨m+1,?_,fM,by(repeat' (first|exact ky|refine And.intro ?_ ?_|exact bf hb.symm|exact bf Q2.symm))⟩;all_goals omega
    ·obtain rfl:l.length=m:=ae;rw [hFB];by_cases c4:bF l L w room l.length<0
     ·rw [if_pos c4] at e0;rw [show qg l L w room=0 from if_neg (by rw [e0];decide),e0];generalize bF l L w room l.length=b at *;repeat' first|refine aG ?_|(refine aK ?_ ?_<;>intro _<;>try exact aE)|fail
      all_goals exact bw
     ·rw [if_neg c4] at e0;rw [show qg l L w room=bF l L w room l.length from if_pos e0,e0];generalize bF l L w room l.length=b at *;repeat' first|refine aG ?_|(refine aK ?_ ?_<;>intro _<;>try exact aE)|fail
      all_goals exact bw
  ·have e1:dF l L w room=eh L:=by unfold dF;rw [if_neg (not_not_intro c1),if_pos c2]
   rw [show qg l L w room=0 from if_neg (by rw [e1];exact c2),e1];generalize eh L=e at *;refine bQ func60 ntmps60 fun v0=>?_;repeat' first|refine aG ?_|refine aF (hC) ?_|refine aF (qe) ?_|(refine aK ?_ ?_<;>intro _<;>try exact aE)|fail
   all_goals exact bw
 ·have e1:dF l L w room=gY l:=by unfold dF;rw [if_pos c1]
  rw [show qg l L w room=0 from if_neg (by rw [e1];exact c1),e1];generalize gY l=e at *;refine bQ func60 ntmps60 fun v0=>?_;repeat' first|refine aG ?_|refine aF (hC) ?_|refine aF (qe) ?_|(refine aK ?_ ?_<;>intro _<;>try exact aE)|fail
  all_goals exact bw
theorem nQ(l:List Dl)(w:bd)(hl:qH l):∀ (f:Nat) (L:List Ac) (room:Int),room<f->kz L->FnSpec Sy.P 19 [.sl false 6 (l.map bL),.sl false 3 (L.map bz),.str w,.int room] [.sl false 6 (l.map bL),.sl false 3 (L.map bz),.str w,.int room] (.tup [.sl true 1 ((kA l L w room f).map .int),.sl false 3 ((Ek l L w room f).map bz),.int (oz l L w room)]):=by
 intro f
 induction f with
 | zero =>
  intro L room hf hL;have hN:=pQ l L w room hl hL;have hc:¬ (dF l L w room=0∨dF l L w room=4):=fun h=>by have:=(xg h).2.2.1;omega
  unfold kA Ek;have e0:oz l L w room=dF l L w room:=if_neg hc;have cr:¬ dF l L w room=0:=fun h=>hc (.inl h);have U3:¬ dF l L w room=4:=fun h=>hc (.inr h);rw [e0,if_neg cr,if_neg cr];generalize dF l L w room=e at *;refine bQ func19 ntmps19 fun v0=>?_;repeat' first|refine aG ?_|refine aF (hN) ?_|(refine aK ?_ ?_<;>intro _<;>try exact aE)|fail
  all_goals first|(exfalso;omega)|exact .KN rfl (qJ .nil .nil (.refl _)) rfl
 | succ f ih =>
  intro L room hf hL;have hN:=pQ l L w room hl hL;unfold kA Ek;by_cases hc:dF l L w room=0∨dF l L w room=4
  ·have e0:oz l L w room=0:=if_pos hc;rw [e0,if_pos rfl,if_pos rfl];obtain⟨g1,g2,g3⟩:=xg hc;by_cases c2:dF l L w room=0
   ·obtain⟨_,_,_,i,hi,hk,hd,oA,Og,F1⟩:=zH c2;have Zi:=(xf oA).2.2;have hx:l[i]?=some l[i]:=ahn hi;have hT:=kX L l[i] w hL (hl.s1 _ (ahB hi)) (hl.s2 _ (ahB hi));unfold nF at hT;rw [if_pos oA] at hT;have hI:=ih (jP L l[i] w) (room-gJ l[i]) ae (rR hL);have Fc:=xh (l:=l) (w:=w) f (jP L l[i] w) (room-gJ l[i]) ae;have e2:oz l (jP L l[i] w) w (room-gJ l[i])=0:=if_pos (zI g1 Zi ae);unfold kA Ek at hI;rw [e2,if_pos rfl,if_pos rfl] at hI;rw [kZ c2 hk hd];rw [hk,c2] at hN;have Og:1<=l[i].2.2.2.2.2.1:=Og;have F1:l[i].2.2.2.2.2.1<=room:=F1;have hI:FnSpec Sy.P 19 [.sl false 6 (l.map bL),.sl false 3 ((jP L l[i] w).map bz),.str w,.int (room-l[i].2.2.2.2.2.1)] [.sl false 6 (l.map bL),.sl false 3 ((jP L l[i] w).map bz),.str w,.int (room-l[i].2.2.2.2.2.1)] _:=hI;generalize uk l w f (jP L l[i] w) (room-gJ l[i])=R at *;generalize l[i]=d at *;refine bQ func19 ntmps19 fun v0=>?_;repeat' first|(refine J.aN 13 rfl rfl (bG (fun _=>rfl)) rfl ?_)|refine aG ?_|refine aF (hN) ?_|refine aF (hT) ?_|refine aF (hI) ?_|(refine aK ?_ ?_<;>intro _<;>try exact aE)|fail
    all_goals exact bw
   ·have c4:dF l L w room=4:=ae;rw [nM c2];rw [c4] at hN;generalize qg l L w room=k at *;refine bQ func19 ntmps19 fun v0=>?_;repeat' first|refine aG ?_|refine aF (hN) ?_|(refine aK ?_ ?_<;>intro _<;>try exact aE)|fail
    all_goals first|(exfalso;omega)|exact .KN rfl (qJ .nil (.refl _) (.refl _)) rfl
  ·have e0:oz l L w room=dF l L w room:=if_neg hc;have cr:¬ dF l L w room=0:=fun h=>hc (.inl h);have U3:¬ dF l L w room=4:=fun h=>hc (.inr h);rw [e0,if_neg cr,if_neg cr];generalize dF l L w room=e at *;refine bQ func19 ntmps19 fun v0=>?_;repeat' first|refine aG ?_|refine aF (hN) ?_|(refine aK ?_ ?_<;>intro _<;>try exact aE)|fail
   all_goals first|(exfalso;omega)|exact .KN rfl (qJ .nil .nil (.refl _)) rfl
end Go.Proofs.YtmbbagbhmjaedaaGreatDoor
