/- Part of the proof. -/
import Derived.Test.YtmbbagbhmjaedaaGreatDoorCcf
set_option linter.all false
set_option maxRecDepth 10000
set_option maxHeartbeats 6400000
namespace Go.Proofs.YtmbbagbhmjaedaaGreatDoor
open Go FM Go.Proofs Tryz
section
variable (A:List Ac) (O:List Dl) (k:bd) (n n0:Int) (w:bd) (dl:Dl) (kd:Int)
theorem Rf(hA:kz A)(hk:k.length<=4000)(hw:w.length<=9223372036854775807):FnSpec Sy.P 69 [km A O k n,iE kd n0 w dl] [km (KS A k w n0) O (KT A k w n0) n,iE kd n0 w dl] (.int (ID A k w n0)):=by
 have hO:=(uX A w n0 hA hw).le lK;unfold KS KT ID;by_cases c:oy A w n0=0
 ·obtain⟨_,hn,hm,_⟩:=xi c;have hI:=e8 n0 ae ae;have hl:=zM hn hm;have Oj:=cI hn;have y8:=Zp.fB n0 hm.1 hm.2;have hP:=kT k (gA w n0) n hk ae;rw [if_neg (not_not_intro c)];rw [c,Re] at hO;unfold wR at hP;rw [if_neg ae] at hP;have F0:[111,32]++w++[32]++Lib.itoa n0=gA w n0:=rfl;by_cases c2:4000<k.length+(gA w n0).length+3
  ·have e2:kS k (gA w n0)=8:=by unfold kS;rw [if_neg ae,if_pos c2]
   rw [if_pos c2,e2] at hP;rw [e2,if_neg af,if_neg af];generalize nI A w n0=B at *;rw [<- F0] at hP;generalize Lib.itoa n0=z at *;refine FnSpec.enter (S:=Sy) 1 func69 rfl rfl rfl ntmps69 rfl rfl rfl rfl fun v0=>?_;repeat' first|(refine J.aN 3 rfl rfl ca rfl ?_)|refine qf 0 14 ?_|(with_reducible refine JA.held ?_)|refine aI 13 0 ?_|refine aI 12 1 ?_|refine aI 11 2 ?_|refine aI 10 4 ?_|refine aI 9 5 ?_|refine aI 8 6 ?_|refine aI 7 7 ?_|(refine CW.cut (c:=.region 4 _ _) [(0,.av (km A O k n)),(7,.av (.int 8))] ?_ ?_)|exact Qv|refine qf 0 14 ?_|(with_reducible refine JA.held ?_)|refine aI 13 0 ?_|refine aI 12 1 ?_|refine aI 11 2 ?_|refine aI 10 4 ?_|refine aI 9 5 ?_|refine aI 8 6 ?_|refine aI 7 7 ?_|refine aI 6 8 ?_|refine aI 5 9 ?_|(with_reducible refine JAF.go ?_)|refine bP 6 3 ?_|refine bP 5 8 ?_|refine bn 4 9 ?_|refine bn 3 10 ?_|refine bn 2 11 ?_|refine bn 1 12 ?_|refine bn 0 13 ?_|refine iR ?_|refine qi 4 3 10 ?_ ?_|refine bP 3 10 ?_|refine bn 3 11 ?_|refine bn 2 11 ?_|refine bP 2 3 ?_|refine bP 1 12 ?_|refine bn 0 13 ?_|refine iR ?_|((with_reducible apply J.step);rfl;((with_reducible apply jS)<;>(first|rfl|exact AV.noConfusion)))|refine aG ?_|refine aF (hO) ?_|refine aF (hI) ?_|refine S4 (hP) ?_|(refine aK ?_ ?_<;>intro _<;>try exact aE)|fail
   all_goals exact bw
  ·have e2:kS k (gA w n0)=0:=by unfold kS;rw [if_neg ae,if_neg c2]
   rw [if_neg c2,e2] at hP;rw [e2,if_pos rfl,if_pos rfl];generalize nI A w n0=B at *;generalize lF (gA w n0)=fr at *;rw [<- F0] at hP;generalize Lib.itoa n0=z at *;refine FnSpec.enter (S:=Sy) 1 func69 rfl rfl rfl ntmps69 rfl rfl rfl rfl fun v0=>?_;repeat' first|(refine J.aN 3 rfl rfl ca rfl ?_)|refine qf 0 14 ?_|(with_reducible refine JA.held ?_)|refine aI 13 0 ?_|refine aI 12 1 ?_|refine aI 11 2 ?_|refine aI 10 4 ?_|refine aI 9 5 ?_|refine aI 8 6 ?_|refine aI 7 7 ?_|(refine CW.cut (c:=.region 4 _ _) [(5,.av (.sl false 3 (B.map bz))),(0,.av (km A O (k++fr) n)),(7,.av (.int 0))] ?_ ?_)|exact Qv|refine qf 0 14 ?_|(with_reducible refine JA.held ?_)|refine aI 13 0 ?_|refine aI 12 1 ?_|refine aI 11 2 ?_|refine aI 10 4 ?_|refine aI 9 5 ?_|refine aI 8 6 ?_|refine aI 7 7 ?_|refine aI 6 8 ?_|refine aI 5 9 ?_|(refine J.aN 5 rfl rfl (bG (g:=bz) (fun _=>rfl)) rfl ?_)|(with_reducible refine JAF.go ?_)|refine bP 6 3 ?_|refine bP 5 8 ?_|refine bn 4 9 ?_|refine bn 3 10 ?_|refine bn 2 11 ?_|refine bn 1 12 ?_|refine bn 0 13 ?_|refine iR ?_|refine qi 4 3 10 ?_ ?_|refine bP 3 10 ?_|refine bn 3 11 ?_|refine bn 2 11 ?_|refine bP 2 3 ?_|refine bP 1 12 ?_|refine bn 0 13 ?_|refine iR ?_|((with_reducible apply J.step);rfl;((with_reducible apply jS)<;>(first|rfl|exact AV.noConfusion)))|refine aG ?_|refine aF (hO) ?_|refine aF (hI) ?_|refine S4 (hP) ?_|(refine aK ?_ ?_<;>intro _<;>try exact aE)|fail
   all_goals exact bw
 ·rw [if_pos c,if_neg c,if_neg c];generalize qI (oy A w n0) (nI A w n0)=B at *;generalize oy A w n0=e at *;refine FnSpec.enter (S:=Sy) 1 func69 rfl rfl rfl ntmps69 rfl rfl rfl rfl fun v0=>?_;repeat' first|(refine J.aN 3 rfl rfl ca rfl ?_)|refine qf 0 14 ?_|(with_reducible refine JA.held ?_)|refine aI 13 0 ?_|refine aI 12 1 ?_|refine aI 11 2 ?_|refine aI 10 4 ?_|refine aI 9 5 ?_|refine aI 8 6 ?_|refine aI 7 7 ?_|(with_reducible refine JAF.go ?_)|refine bP 6 3 ?_|refine bP 5 8 ?_|refine bn 4 9 ?_|refine bn 3 10 ?_|refine bn 2 11 ?_|refine bn 1 12 ?_|refine bn 0 13 ?_|refine iR ?_|refine aG ?_|refine aF (hO) ?_|(refine aK ?_ ?_<;>intro _<;>try exact aE)|fail
  all_goals exact bw
end
section
variable (A:List Ac) (O:List Dl) (k:bd) (n n0:Int) (w:bd) (dl:Dl) (kd:Int)
theorem IN{O:List Dl}{A:List Ac}{w:bd}{room:Int}(h:oz O A w room=0)(hA:kz A):Xm O (bA O A w room)=0:=by
 unfold Xm;rw [if_neg (not_not_intro (mI h).1),if_neg (not_not_intro (En h hA).1)]
theorem MH(hA:kz A)(hO:qH O)(hk:k.length<=4000)(Zs:A.length<=6):FnSpec Sy.P 71 [km A O k n,iE kd n0 w dl] [km (KU O A k w n0) (KV O A k w n0) (KW O A k w n0) n,iE kd n0 w dl] (.tup [lV (Q6 O A k w n0) (Q7 O A k w n0),.int (zO O A k w n0)]):=by
 have hF:=sb A O k n w ae;have hB:=B6 O A w n0 hO hA;have hZ:=wT k n;unfold KU KV KW Q6 Q7;by_cases c1:fA A w<0
 ·have e:zO O A k w n0=4:=if_pos c1;rw [e,if_neg af,if_neg af,if_neg af,if_neg af,if_neg af];generalize fA A w=x at *;refine FnSpec.enter (S:=Sy) 1 func71 rfl rfl rfl ntmps71 rfl rfl rfl rfl fun v0=>?_;repeat' first|(refine J.aN 3 rfl rfl ca rfl ?_)|refine aG ?_|((with_reducible first|apply J.bq (hF)|apply J.dE (hF));rfl;rfl;(repeat' (first|exact aV.nil|exact aX.br rfl AV.noConfusion pJ|apply aV.cons|exact aX.pl rfl rfl|exact aX.br rfl AV.noConfusion (by first|rfl|exact dr|exact c7|exact cD|exact dL|exact bG (fun _=>rfl))));(first|rfl|exact Be|exact Bf))|(refine aK ?_ ?_<;>intro _<;>try exact aE)|fail
  all_goals exact bw
 have e1:zO O A k w n0=if oz O A w n0≠0 then oz O A w n0 else if 4000<k.length+(dk (rk O w (bT O A w n0))).length then 8 else 0:=if_neg c1
 by_cases c2:oz O A w n0≠0
 ·rw [e1,if_pos c2,if_neg c2,if_neg c2,if_neg c2,if_neg c2,if_neg c2];generalize fA A w=x at *;generalize kA O A w n0 1001=T at *;generalize Ek O A w n0 1001=B at *;generalize oz O A w n0=e at *;refine FnSpec.enter (S:=Sy) 1 func71 rfl rfl rfl ntmps71 rfl rfl rfl rfl fun v0=>?_;repeat' first|(refine J.aN 3 rfl rfl ca rfl ?_)|refine qf 0 20 ?_|(with_reducible refine JA.held ?_)|refine aI 19 0 ?_|refine aI 18 1 ?_|refine aI 17 2 ?_|refine aI 16 4 ?_|refine aI 15 5 ?_|refine aI 14 6 ?_|refine aI 13 8 ?_|refine aI 12 9 ?_|refine aI 11 10 ?_|refine aI 10 11 ?_|(with_reducible refine JAF.go ?_)|refine qi 9 3 7 ?_ ?_|refine bP 8 7 ?_|refine bP 8 3 ?_|refine bP 7 12 ?_|refine bn 6 13 ?_|refine bn 5 14 ?_|refine bn 4 15 ?_|refine bn 3 16 ?_|refine bn 2 17 ?_|refine bn 1 18 ?_|refine bn 0 19 ?_|refine iR ?_|refine aG ?_|((with_reducible first|apply J.bq (hF)|apply J.dE (hF));rfl;rfl;(repeat' (first|exact aV.nil|exact aX.br rfl AV.noConfusion pJ|apply aV.cons|exact aX.pl rfl rfl|exact aX.br rfl AV.noConfusion (by first|rfl|exact dr|exact c7|exact cD|exact dL|exact bG (fun _=>rfl))));(first|rfl|exact Be|exact Bf))|((with_reducible first|apply J.bq (hB)|apply J.dE (hB));rfl;rfl;(repeat' (first|exact aV.nil|exact aX.br rfl AV.noConfusion pJ|apply aV.cons|exact aX.pl rfl rfl|exact aX.br rfl AV.noConfusion (by first|rfl|exact dr|exact c7|exact cD|exact dL|exact bG (fun _=>rfl))));(first|rfl|exact Be|exact Bf))|(refine aK ?_ ?_<;>intro _<;>try exact aE)|fail
  all_goals exact bw
 have c2:=Classical.not_not.1 c2;rw [if_neg (not_not_intro c2)] at e1;obtain⟨g1,g2,g3,g4⟩:=mI c2;have Oi:=B9 (O:=O) (A:=A) (w:=w) (room:=n0);have YJ:=IE (O:=O) (A:=A) (w:=w) (room:=n0);have IL:=En (w:=w) c2 hA;have Oj:=cI (Ca (w:=w) ae g2);have eP:=B8 O (bA O A w n0) hO IL.2;unfold oW at eP;rw [if_pos (IN c2 hA)] at eP;have hT0:(0:Int)<=fa O (bT O A w n0)/\fa O (bT O A w n0)<=1000000*(bT O A w n0).length:=jW g1 _ Oi;have QX:∀ j,0<=fa O ((bT O A w n0).take j)/\fa O ((bT O A w n0).take j)<=1000000*((bT O A w n0).take j).length:=fun j=>jW g1 _ fun x hx=>Oi x (aii hx);have qb:∀ j,((dk (rk O w ((bT O A w n0).take j))).length:Int)<=64*(j:Int):=fun j=>by
  induction j with
  | zero=>simp [rk,dk]
  | succ j ih =>
   rcases aia j (bT O A w n0).length with h|h
   ·have hx:(bT O A w n0)[j]?=some (bT O A w n0)[j]:=ahn h;have hd:=vh g1 (Oi _ (ahB h));have:=jr hd Oj.2;rw [nO O w _ hx,dB,oK,ahC,bO];omega
   ·rw [aiM ae];rw [aiM ae] at ih;omega
 rw [e1];unfold bT bA at *;have Dy:(rk O w (kA O A w n0 1001)).length=(kA O A w n0 1001).length:=ahu ..;have hrt:∀ j,(rk O w ((kA O A w n0 1001).take j)).length<=j:=fun j=>by unfold rk;rw [ahu,ahF];omega
 have qZ:∀ j x,(kA O A w n0 1001)[j]?=some x->(rk O w (kA O A w n0 1001))[j]?=some (gz (fq O x) w):=fun j x hx=>by unfold rk;rw [ahE,hx];rfl
 have oA:(kA O A w n0 1001).take (kA O A w n0 1001).length=kA O A w n0 1001:=ah7;have Zt:∀ j x,(kA O A w n0 1001)[j]?=some x->k++dk (rk O w ((kA O A w n0 1001).take (j+1)))=k++dk (rk O w ((kA O A w n0 1001).take j))++lF (gz (fq O x) w):=fun j x hx=>by rw [nO O w _ hx,dB,oK,ahX]
 have IM:∀ j,(dk (rk O w ((kA O A w n0 1001).take j))).length<=(dk (rk O w (kA O A w n0 1001))).length:=fun j=>by rw [<- nP];exact xj _ _
 generalize kA O A w n0 1001=T at *;generalize Ek O A w n0 1001=B at *;rw [c2] at hB;refine FnSpec.enter (S:=Sy) 1 func71 rfl rfl rfl ntmps71 rfl rfl rfl rfl fun v0=>?_;repeat' first|(refine J.aN 3 rfl rfl ca rfl ?_)|(refine CW.cut (c:=.region 3 _ _) [(0,.av (km A O k n)),(3,.av (.pt false (iE kd n0 w dl).cells)),(4,.av (.pt true [.int 0,.int 0])),(6,.av (.sl true 1 ((T).map .int))),(7,.av (.sl true 3 (B.map bz))),(8,.av (.int (0)))] ?_ ?_)|exact Qv|refine qf 0 20 ?_|(with_reducible refine JA.held ?_)|refine aI 19 0 ?_|refine aI 18 1 ?_|refine aI 17 2 ?_|refine aI 16 4 ?_|refine aI 15 5 ?_|refine aI 14 6 ?_|refine aI 13 8 ?_|refine aI 12 9 ?_|refine aI 11 10 ?_|refine aI 10 11 ?_|(with_reducible refine JAF.go ?_)|refine qi 9 3 7 ?_ ?_|refine bP 8 7 ?_|refine bP 8 3 ?_|refine bP 7 12 ?_|refine bn 6 13 ?_|refine bn 5 14 ?_|refine bn 4 15 ?_|refine bn 3 16 ?_|refine bn 2 17 ?_|refine bn 1 18 ?_|refine bn 0 19 ?_|refine iR ?_|((with_reducible apply J.step);rfl;((with_reducible apply jS)<;>(first|rfl|exact AV.noConfusion)))|refine aG ?_|((with_reducible first|apply J.bq (hF)|apply J.dE (hF));rfl;rfl;(repeat' (first|exact aV.nil|exact aX.br rfl AV.noConfusion pJ|apply aV.cons|exact aX.pl rfl rfl|exact aX.br rfl AV.noConfusion (by first|rfl|exact dr|exact c7|exact cD|exact dL|exact bG (fun _=>rfl))));(first|rfl|exact Be|exact Bf))|((with_reducible first|apply J.bq (hB)|apply J.dE (hB));rfl;rfl;(repeat' (first|exact aV.nil|exact aX.br rfl AV.noConfusion pJ|apply aV.cons|exact aX.pl rfl rfl|exact aX.br rfl AV.noConfusion (by first|rfl|exact dr|exact c7|exact cD|exact dL|exact bG (fun _=>rfl))));(first|rfl|exact Be|exact Bf))|((with_reducible first|apply J.bq (hZ)|apply J.dE (hZ));rfl;rfl;(repeat' (first|exact aV.nil|exact aX.br rfl AV.noConfusion pJ|apply aV.cons|exact aX.pl rfl rfl|exact aX.br rfl AV.noConfusion (by first|rfl|exact dr|exact c7|exact cD|exact dL|exact bG (fun _=>rfl))));(first|rfl|exact Be|exact Bf))|(refine aK ?_ ?_<;>intro _<;>try exact aE)|fail
 all_goals try exact aE
 refine CW.NX (x:=.nil) 9 rfl (AV.le.nil (o:=true) (c:=1)) ?_;refine CW.loop (fun j:Nat=>[(53,.ref 6),(0,.av (km A O k n)),(3,.av (.pt false (iE kd n0 w dl).cells)),(4,.av (.pt true [.int 0,.int 0])),(6,.av (.sl true 1 ((T).map .int))),(7,.av (.sl true 3 (B.map bz))),(9,.av (strs true (rk O w (T.take j)))),(10,.av (.int ((k.length:Int)+((dk (rk O w (T.take j))).length:Nat)))),(12,.av (.int (fa O (T.take j)))),(54,.av (.int (T.length))),(55,.av (.int (j)))]) (fun j=>j<=T.length) (fun j=>T.length-j) (0) ?_ (by(repeat' (first|exact ky|refine And.intro ?_ ?_|exact bf (by simp [rk,dk])))) ?_
 ·exact ahQ _
 intro j hj;by_cases aA:j<T.length
 ·have hx:T[j]?=some T[j]:=ahn aA;obtain⟨i,hi,ei⟩:=Oi _ (ahB aA);rw [ei] at hx;have hd:=vh g1 (x:=(i:Int)) ⟨i,hi,rfl⟩;have rN:fq O (i:Int)=O[i]:=by unfold fq;rw [ahN];exact jU hi
  have h1:=nO O w T hx;have h2:=zP O T hx;have h3:((dk (rk O w (T.take (j+1)))).length:Int)=(dk (rk O w (T.take j))).length+((gz (fq O (i:Int)) w).length+3):=by rw [h1,dB,oK,ahC,bO];omega
  have hD:=FV (fq O (i:Int)) w hd Oj.2;have hrd:=jr hd Oj.2;have hOi:O[i]?=some O[i]:=ahn hi;have Zf:=hd.fee;have lC:=QX j;have yc:=qb j;have hrj:=hrt j;have yF:(T.take j).length<=j:=by rw [ahF];omega
  rw [rN] at *;unfold fee at h2;generalize O[i]=d at *;generalize gz d w=rc at *;generalize (dk (rk O w (T.take j))).length=sz at *;generalize fa O (T.take j)=fs at *;generalize rk O w (T.take j)=rs at *;repeat' first|(refine J.aN 3 rfl rfl ca rfl ?_)|refine aG ?_|refine aF (hD) ?_|(refine aK ?_ ?_<;>intro _<;>try exact aE)|fail
  all_goals try exact aE
  refine⟨j+1,?_,fM,ck⟩;all_goals omega
 ·obtain rfl:j=T.length:=ae;rw [oA];by_cases c3:4000<k.length+(dk (rk O w T)).length
  ·rw [if_pos c3,if_neg af,if_neg af,if_neg af,if_neg af,if_neg af];generalize rk O w T=rs at *;repeat' first|(refine J.aN 3 rfl rfl ca rfl ?_)|refine aG ?_|(refine aK ?_ ?_<;>intro _<;>try exact aE)|fail
   all_goals exact bw
  ·rw [if_neg c3,if_pos rfl,if_pos rfl,if_pos rfl,if_pos rfl,if_pos rfl];generalize Py:rk O w T=rs at *;repeat' first|(refine J.aN 3 rfl rfl ca rfl ?_)|refine aG ?_|(refine aK ?_ ?_<;>intro _<;>try exact aE)|fail
   all_goals try exact aE
   refine CW.loop (fun j:Nat=>[(92,.ref 9),(0,.av (km A O (k++dk (rk O w (T.take j))) n)),(4,.av (.pt true [.int 0,.int 0])),(6,.av (.sl true 1 ((T).map .int))),(7,.av (.sl true 3 (B.map bz))),(9,.av (strs true rs)),(12,.av (.int (fa O T))),(93,.av (.int (T.length))),(94,.av (.int (j)))]) (fun j=>j<=T.length) (fun j=>T.length-j) (0) ?_ (by(repeat' (first|exact ky|refine And.intro ?_ ?_|(simp only [List.take_zero,rk,List.map_nil,dk,ais])|exact bf (by rw [Dy])))) ?_
   ·exact ahQ _
   intro j hj;by_cases aA:j<T.length
   ·have hx:T[j]?=some T[j]:=ahn aA;obtain⟨i,hi,ei⟩:=Oi _ (ahB aA);rw [ei] at hx;have hd:=vh g1 (x:=(i:Int)) ⟨i,hi,rfl⟩;have hrd:=jr hd Oj.2;have hg:=qZ _ _ hx;have ha:=Zt _ _ hx;have Vh:=IM (j+1);rw [nO O w T hx,dB,oK,ahC,bO] at Vh;have Uw:(k++dk (rk O w (T.take j))).length<=4000:=by rw [ahC];omega
    have hP:=kT (k++dk (rk O w (T.take j))) (gz (fq O (i:Int)) w) n Uw ae;have ea:kS (k++dk (rk O w (T.take j))) (gz (fq O (i:Int)) w)=0:=by unfold kS;rw [if_neg ae,if_neg (by rw [ahC];omega)]
    have ed:wR (k++dk (rk O w (T.take j))) (gz (fq O (i:Int)) w)=k++dk (rk O w (T.take (j+1))):=by unfold wR;rw [if_neg ae,if_neg (by rw [ahC];omega),ha]
    rw [ea,ed] at hP;generalize gz (fq O (i:Int)) w=rc at *;generalize k++dk (rk O w (T.take j))=kj at *;generalize MG:k++dk (rk O w (T.take (j+1)))=kj1 at *;repeat' first|(refine J.aN 3 rfl rfl ca rfl ?_)|((with_reducible apply J.step);rfl;((with_reducible apply jS)<;>(first|rfl|exact AV.noConfusion)))|refine aG ?_|refine S4 (hP) ?_|(refine aK ?_ ?_<;>intro _<;>try exact aE)|fail
    all_goals try exact aE
    refine⟨j+1,?_,fM,by(repeat' (first|exact ky|refine And.intro ?_ ?_|exact congrArg (fun z=>TV.av (km A O z n)) MG.symm))⟩;all_goals omega
   ·obtain rfl:j=T.length:=ae;rw [oA,Py];generalize k++dk rs=kk at *;repeat' first|(refine J.aN 3 rfl rfl ca rfl ?_)|(refine J.aN 7 rfl rfl (bG (g:=bz) (fun _=>rfl)) rfl ?_)|(refine J.aN 117 rfl rfl (bG (g:=bL) (fun _=>rfl)) rfl ?_)|refine aG ?_|refine aF (eP) ?_|(refine aK ?_ ?_<;>intro _<;>try exact aE)|fail
    all_goals exact bw
end
section
variable (A:List Ac) (O:List Dl) (k:bd) (n n0:Int) (w:bd) (dl:Dl)
theorem do1(hA:kz A)(hk:k.length<=4000)(hw:w.length<=9223372036854775807):FnSpec Sy.P 40 [km A O k n,iE 1 n0 w dl] [km (KS A k w n0) O (KT A k w n0) n,iE 1 n0 w dl] (.tup [lV 0 0,.int (ID A k w n0)]):=by
 have h:=Rf A O k n n0 w dl 1 hA hk hw;generalize KS A k w n0=A' at *;generalize KT A k w n0=k' at *;generalize ID A k w n0=e at *;refine FnSpec.enter (S:=Sy) 1 func40 rfl rfl rfl ntmps40 rfl rfl rfl rfl fun v0=>?_;repeat' first|(refine J.aN 3 rfl rfl ca rfl ?_)|refine qf 0 6 ?_|(with_reducible refine JA.held ?_)|refine aI 5 1 ?_|refine aI 4 2 ?_|(with_reducible refine JAF.go ?_)|refine qi 3 0 3 ?_ ?_|refine bP 2 3 ?_|refine bP 2 0 ?_|refine bP 1 4 ?_|refine bn 0 5 ?_|refine iR ?_|refine aG ?_|refine Xe (h) ?_|fail
 all_goals exact bw
theorem do2(hO:qH O)(h1:dl.1.length<=9223372036854775807)(h2:dl.2.1.length<=9223372036854775807):FnSpec Sy.P 40 [km A O k n,iE 2 n0 w dl] [km A (if ve O dl=0 then Ef O dl else O) k n,iE 2 n0 w dl] (.tup [lV 0 0,.int (ve O dl)]):=by
 have hP:=(IB O dl hO h1 h2).le qK;by_cases c:ve O dl=0
 ·rw [if_pos c];rw [c,MF] at hP;rw [c];generalize Ef O dl=B at *;refine FnSpec.enter (S:=Sy) 1 func40 rfl rfl rfl ntmps40 rfl rfl rfl rfl fun v0=>?_;repeat' first|(refine J.aN 3 rfl rfl ca rfl ?_)|refine qf 0 12 ?_|(with_reducible refine JA.held ?_)|refine aI 11 0 ?_|refine aI 10 1 ?_|refine aI 9 2 ?_|refine aI 8 4 ?_|refine aI 7 5 ?_|(refine J.aN 7 rfl rfl (bG (g:=bL) (fun _=>rfl)) rfl ?_)|(with_reducible refine JAF.go ?_)|refine bP 6 3 ?_|refine bP 5 6 ?_|refine bn 4 7 ?_|refine bn 3 8 ?_|refine bn 2 9 ?_|refine bn 1 10 ?_|refine bn 0 11 ?_|refine iR ?_|refine aG ?_|refine aF (hP) ?_|(refine aK ?_ ?_<;>intro _<;>try exact aE)|fail
  all_goals exact bw
 ·rw [if_neg c];generalize Rb (ve O dl) (Ef O dl)=B at *;generalize ve O dl=e at *;refine FnSpec.enter (S:=Sy) 1 func40 rfl rfl rfl ntmps40 rfl rfl rfl rfl fun v0=>?_;repeat' first|(refine J.aN 3 rfl rfl ca rfl ?_)|refine qf 0 12 ?_|(with_reducible refine JA.held ?_)|refine aI 11 0 ?_|refine aI 10 1 ?_|refine aI 9 2 ?_|refine aI 8 4 ?_|refine aI 7 5 ?_|(with_reducible refine JAF.go ?_)|refine bP 6 3 ?_|refine bP 5 6 ?_|refine bn 4 7 ?_|refine bn 3 8 ?_|refine bn 2 9 ?_|refine bn 1 10 ?_|refine bn 0 11 ?_|refine iR ?_|refine aG ?_|refine aF (hP) ?_|(refine aK ?_ ?_<;>intro _<;>try exact aE)|fail
  all_goals exact bw
theorem do3(hA:kz A)(hO:qH O)(hk:k.length<=4000)(Zs:A.length<=6):FnSpec Sy.P 40 [km A O k n,iE 3 n0 w dl] [km (KU O A k w n0) (KV O A k w n0) (KW O A k w n0) n,iE 3 n0 w dl] (.tup [lV (Q6 O A k w n0) (Q7 O A k w n0),.int (zO O A k w n0)]):=by
 have h:=MH A O k n n0 w dl 3 hA hO hk Zs;generalize KU O A k w n0=A' at *;generalize KV O A k w n0=O' at *;generalize KW O A k w n0=k' at *;generalize zO O A k w n0=e at *;generalize Q6 O A k w n0=t at *;generalize Q7 O A k w n0=m at *;refine FnSpec.enter (S:=Sy) 1 func40 rfl rfl rfl ntmps40 rfl rfl rfl rfl fun v0=>?_;repeat' first|(refine J.aN 3 rfl rfl ca rfl ?_)|refine uc @jX ?_|refine aG ?_|refine Xe (h) ?_|fail
 all_goals exact bw
theorem do4:FnSpec Sy.P 40 [km A O k n,iE 4 n0 w dl] [km A O k k.length,iE 4 n0 w dl] (.tup [lV 0 0,.int 0]):=by
 have h:=wS k n;refine FnSpec.enter (S:=Sy) 1 func40 rfl rfl rfl ntmps40 rfl rfl rfl rfl fun v0=>?_;repeat' first|(refine J.aN 3 rfl rfl ca rfl ?_)|((with_reducible apply J.step);rfl;((with_reducible apply jS)<;>(first|rfl|exact AV.noConfusion)))|refine aG ?_|refine S4 (h) ?_|fail
 all_goals exact bw
theorem do5(R:List Rc)(hk:k.length<=4000)(hn:0<=n/\n<=k.length)(hR:wU k n n0=0->(∀ r∈R,r.ok)/\zh k n n0=dk (R.map Rc.str)/\R.length<=4000/\(dk (R.map Rc.str)).length<=4000):
  FnSpec Sy.P 40 [km A O k n,iE 5 n0 w dl] [if wU k n n0=0 then km (FY R) [] (zh k n n0) (Ea k n n0) else km A O k n,iE 5 n0 w dl] (.tup [lV 0 0,.int (wU k n n0)]):=by
 have hC:=ui k n n0 hk hn;by_cases c:wU k n n0=0
 ·obtain⟨h1,h2,h3,h4⟩:=hR c;rw [if_pos c];rw [c] at hC ⊢;have hS:=FZ A O (zh k n n0) (Ea k n n0) R (by rw [h2];exact h4) (by rw [h2,DX (xm h1)]) h1 h3;generalize zh k n n0=k' at *;generalize Ea k n n0=n' at *;generalize FY R=B at *;refine FnSpec.enter (S:=Sy) 1 func40 rfl rfl rfl ntmps40 rfl rfl rfl rfl fun v0=>?_;repeat' first|(refine J.aN 3 rfl rfl ca rfl ?_)|refine qf 0 8 ?_|(with_reducible refine JA.held ?_)|refine aI 7 0 ?_|refine aI 6 1 ?_|refine aI 5 2 ?_|refine aI 4 4 ?_|refine aI 3 5 ?_|(with_reducible refine JAF.go ?_)|refine bP 2 3 ?_|refine bP 1 6 ?_|refine bn 0 7 ?_|refine iR ?_|((with_reducible apply J.step);rfl;((with_reducible apply jS)<;>(first|rfl|exact AV.noConfusion)))|refine aG ?_|refine S4 (hC) ?_|refine Xe (hS) ?_|(refine aK ?_ ?_<;>intro _<;>try exact aE)|fail
  all_goals exact bw
 ·rw [if_neg c];have ed:zh k n n0=k:=by
   unfold wU at c;unfold zh;split at c
   ·rename_i h;rw [if_pos h]
   ·exact absurd rfl c
  have en:Ea k n n0=n:=by
   unfold wU at c;unfold Ea;split at c
   ·rename_i h;rw [if_pos h]
   ·exact absurd rfl c
  rw [ed,en] at hC;generalize wU k n n0=e at *;refine FnSpec.enter (S:=Sy) 1 func40 rfl rfl rfl ntmps40 rfl rfl rfl rfl fun v0=>?_;repeat' first|(refine J.aN 3 rfl rfl ca rfl ?_)|refine qf 0 8 ?_|(with_reducible refine JA.held ?_)|refine aI 7 0 ?_|refine aI 6 1 ?_|refine aI 5 2 ?_|refine aI 4 4 ?_|refine aI 3 5 ?_|(with_reducible refine JAF.go ?_)|refine bP 2 3 ?_|refine bP 1 6 ?_|refine bn 0 7 ?_|refine iR ?_|((with_reducible apply J.step);rfl;((with_reducible apply jS)<;>(first|rfl|exact AV.noConfusion)))|refine aG ?_|refine S4 (hC) ?_|(refine aK ?_ ?_<;>intro _<;>try exact aE)|fail
  all_goals exact bw
theorem do6(hA:A.length<=6):FnSpec Sy.P 40 [km A O k n,iE 6 n0 w dl] [km A O k n,iE 6 n0 w dl] (.tup [if fA A w<0 then lV 0 0 else lV (A.getD (fA A w).toNat ([],0,0,())).2.1 (A.getD (fA A w).toNat ([],0,0,())).2.2.1,.int (if fA A w<0 then 4 else 0)]):=by
 have hF:=sb A O k n w ae;have hr:=eF A w;by_cases c:fA A w<0
 ·rw [if_pos c,if_pos c];generalize fA A w=x at *;refine FnSpec.enter (S:=Sy) 1 func40 rfl rfl rfl ntmps40 rfl rfl rfl rfl fun v0=>?_;repeat' first|(refine J.aN 3 rfl rfl ca rfl ?_)|refine aG ?_|((with_reducible first|apply J.bq (hF)|apply J.dE (hF));rfl;rfl;(repeat' (first|exact aV.nil|exact aX.br rfl AV.noConfusion pJ|apply aV.cons|exact aX.pl rfl rfl|exact aX.br rfl AV.noConfusion (by first|rfl|exact dr|exact c7|exact cD|exact dL|exact bG (fun _=>rfl))));(first|rfl|exact Be|exact Bf))|(refine aK ?_ ?_<;>intro _<;>try exact aE)|fail
  all_goals exact bw
 ·rw [if_neg c,if_neg c];obtain⟨i,hi⟩:∃ i:Nat,fA A w=(i:Int):=⟨(fA A w).toNat,ae⟩;rw [hi] at hF hr ⊢;rw [ahN,ahK,ahn (show i<A.length by omega),ah8];have hg:A[i]?=some A[i]:=ahn ae;generalize A[i]=a at *;refine FnSpec.enter (S:=Sy) 1 func40 rfl rfl rfl ntmps40 rfl rfl rfl rfl fun v0=>?_;repeat' first|((with_reducible refine Xd ?_);first|refine Mq 1 17 ?_|refine BY 0 18 ?_|refine Mp ?_)|(refine J.aN 3 rfl rfl ca rfl ?_)|refine qf 17 2 ?_|refine aG ?_|((with_reducible first|apply J.bq (hF)|apply J.dE (hF));rfl;rfl;(repeat' (first|exact aV.nil|exact aX.br rfl AV.noConfusion pJ|apply aV.cons|exact aX.pl rfl rfl|exact aX.br rfl AV.noConfusion (by first|rfl|exact dr|exact c7|exact cD|exact dL|exact bG (fun _=>rfl))));(first|rfl|exact Be|exact Bf))|(refine aK ?_ ?_<;>intro _<;>try exact aE)|fail
  all_goals exact bw
theorem do7(hO:qH O):FnSpec Sy.P 40 [km A O k n,iE 7 n0 w dl] [km A (if xp O w n0=0 then zQ O w n0 else O) k n,iE 7 n0 w dl] (.tup [lV 0 0,.int (xp O w n0)]):=by
 have hP:=(F6 O w n0 hO).le qK;by_cases c:xp O w n0=0
 ·rw [if_pos c];rw [c,MF] at hP;rw [c];generalize zQ O w n0=B at *;refine FnSpec.enter (S:=Sy) 1 func40 rfl rfl rfl ntmps40 rfl rfl rfl rfl fun v0=>?_;repeat' first|(refine J.aN 3 rfl rfl ca rfl ?_)|refine qf 0 14 ?_|(with_reducible refine JA.held ?_)|refine aI 13 0 ?_|refine aI 12 1 ?_|refine aI 11 2 ?_|refine aI 10 4 ?_|refine aI 9 5 ?_|refine aI 8 6 ?_|refine aI 7 7 ?_|(refine J.aN 11 rfl rfl (bG (g:=bL) (fun _=>rfl)) rfl ?_)|(with_reducible refine JAF.go ?_)|refine bP 6 3 ?_|refine bP 5 8 ?_|refine bn 4 9 ?_|refine bn 3 10 ?_|refine bn 2 11 ?_|refine bn 1 12 ?_|refine bn 0 13 ?_|refine iR ?_|refine aG ?_|refine aF (hP) ?_|(refine aK ?_ ?_<;>intro _<;>try exact aE)|fail
  all_goals exact bw
 ·rw [if_neg c];generalize Rb (xp O w n0) (zQ O w n0)=B at *;generalize xp O w n0=e at *;refine FnSpec.enter (S:=Sy) 1 func40 rfl rfl rfl ntmps40 rfl rfl rfl rfl fun v0=>?_;repeat' first|(refine J.aN 3 rfl rfl ca rfl ?_)|refine qf 0 14 ?_|(with_reducible refine JA.held ?_)|refine aI 13 0 ?_|refine aI 12 1 ?_|refine aI 11 2 ?_|refine aI 10 4 ?_|refine aI 9 5 ?_|refine aI 8 6 ?_|refine aI 7 7 ?_|(with_reducible refine JAF.go ?_)|refine bP 6 3 ?_|refine bP 5 8 ?_|refine bn 4 9 ?_|refine bn 3 10 ?_|refine bn 2 11 ?_|refine bn 1 12 ?_|refine bn 0 13 ?_|refine iR ?_|refine aG ?_|refine aF (hP) ?_|(refine aK ?_ ?_<;>intro _<;>try exact aE)|fail
  all_goals exact bw
theorem do0(kd:Int)(hd:kd<1∨7<kd):FnSpec Sy.P 40 [km A O k n,iE kd n0 w dl] [km A O k n,iE kd n0 w dl] (.tup [lV 0 0,.int 1]):=by
 refine FnSpec.enter (S:=Sy) 1 func40 rfl rfl rfl ntmps40 rfl rfl rfl rfl fun v0=>?_;repeat' first|(refine J.aN 3 rfl rfl ca rfl ?_)|refine aG ?_|(refine aK ?_ ?_<;>intro _<;>try exact aE)|fail
 all_goals exact bw
end
end Go.Proofs.YtmbbagbhmjaedaaGreatDoor
namespace Go.Proofs.YtmbbagbhmjaedaaGreatDoor
open Go FM Go.Proofs
structure Rg(s:Hs)(d:De)(s':Hs)(t m e:Int):Prop where
 ok:k8 s'
 f:FnSpec Sy.P 40 [km s.A s.O s.k s.n,Ep d] [km s'.A s'.O s'.k s'.n,Ep d] (.tup [lV t m,.int e])
 g:FnSpec Sy.P 5 [js s.A s.O s.k s.n,Ep d] [js s.A s.O s.k s.n,Ep d] (.tup [js s'.A s'.O s'.k s'.n,lV t m,.int e])
theorem Zu{s:Hs}(h:k8 s)(n0:Int)(w:bd):∃ s':Hs,k8 s'/\s'.A=KS s.A s.k w n0/\s'.O=s.O/\s'.k=KT s.A s.k w n0/\s'.n=s.n:=by
 by_cases c:ID s.A s.k w n0=0
 ·have c0:=c;unfold ID at c0;by_cases c1:oy s.A w n0=0
  ·rw [if_neg (not_not_intro c1)] at c0;obtain⟨_,hn,hm,hl⟩:=xi c1;have hr:(Rc.o w n0).ok:=⟨hn,hm.1,hm.2⟩;have ek:dk ((s.R++[Rc.o w n0]).map Rc.str)=s.k++lF (gA w n0):=by rw [ah0,dB];exact congrArg _ (oK _)
   have hA:=Ix (A:=s.A) (r:=.o w n0) h.a hr;have hAe:KP s.A (.o w n0)=nI s.A w n0:=by show qI (oy s.A w n0) _=_;rw [c1,Re]
   rw [hAe] at hA;have gW:(s.k++lF (gA w n0)).length<=4000:=by
    unfold kS at c0;rw [ahC,bO];split at c0
    ·cases c0
    ·split at c0
     ·cases c0
     ·omega
   have hn:=h.n;refine⟨⟨nI s.A w n0,s.O,s.R++[.o w n0],s.n⟩,⟨hA,by show(nI s.A w n0).length<=6;rw [D7];omega,h.o,h.ol,fun x hx=>?_,?_,?_⟩,?_,rfl,?_,rfl⟩
   ·rcases aie.1 hx with hx|hx
    ·exact h.r x hx
    ·rw [ahL] at hx;subst hx;exact hr
   ·show(dk _).length<=4000;rw [ek];exact gW
   ·show 0<=s.n/\s.n<=(dk _).length;rw [ek,ahC];exact⟨hn.1,by have:=hn.2;unfold Hs.k at this ⊢;omega⟩
   ·show nI s.A w n0=KS s.A s.k w n0;unfold KS;rw [if_pos c]
   ·show dk _=KT s.A s.k w n0;unfold KT;rw [if_pos c,ek]
  ·rw [if_pos c1] at c0;exact absurd c0 c1
 ·exact⟨s,h,by unfold KS;rw [if_neg c],rfl,by unfold KT;rw [if_neg c],rfl⟩
theorem Zv{O:List Dl}{dl:Dl}(h:qH O)(hl:O.length<=20)(h1:dl.1.length<=9223372036854775807)(h2:dl.2.1.length<=9223372036854775807):qH (if ve O dl=0 then Ef O dl else O)/\(if ve O dl=0 then Ef O dl else O).length<=20:=by
 by_cases c:ve O dl=0
 ·rw [if_pos c];unfold ve at c;by_cases c1:gY O≠0
  ·rw [if_pos c1] at c;exact absurd c c1
  rw [if_neg c1] at c;by_cases c2:lT dl≠0
  ·rw [if_pos c2] at c;exact absurd c c2
  rw [if_neg c2] at c;unfold Ef;by_cases c3:0<=fD O dl.1 dl.2.2.1
  ·rw [if_pos c3];refine⟨⟨by rw [aiy];exact h.len,fun d hd=>?_,fun d hd=>?_⟩,by rw [aiy];exact hl⟩
   ·rcases aiF hd with hd|rfl
    ·exact h.s1 d hd
    ·exact h1
   ·rcases aiF hd with hd|rfl
    ·exact h.s2 d hd
    ·exact h2
  ·rw [if_neg c3] at c ⊢;by_cases c4:20<=O.length
   ·rw [if_pos c4] at c;cases c
   refine⟨⟨by rw [ahC];simp;omega,fun d hd=>?_,fun d hd=>?_⟩,by rw [ahC];simp;omega⟩
   ·rcases aie.1 hd with hd|hd
    ·exact h.s1 d hd
    ·rw [ahL] at hd;subst hd;exact h1
   ·rcases aie.1 hd with hd|hd
    ·exact h.s2 d hd
    ·rw [ahL] at hd;subst hd;exact h2
 ·rw [if_neg c];exact⟨h,hl⟩
theorem Zw{O:List Dl}{w:bd}{n0:Int}(h:qH O)(hl:O.length<=20):qH (if xp O w n0=0 then zQ O w n0 else O)/\(if xp O w n0=0 then zQ O w n0 else O).length<=20:=by
 have hm:∀ d∈zQ O w n0,d∈O:=fun d hd=>by
  unfold zQ at hd;rcases aie.1 hd with hd|hd
  ·exact aii hd
  ·exact List.mem_of_mem_drop hd
 by_cases c:xp O w n0=0
 ·rw [if_pos c];have Vb:(zQ O w n0).length<=O.length:=by unfold zQ;rw [ahC,ahF,ahV];omega
  exact⟨⟨by have:=h.len;omega,fun d hd=>h.s1 d (hm d hd),fun d hd=>h.s2 d (hm d hd)⟩,ae⟩
 ·rw [if_neg c];exact⟨h,hl⟩
theorem Zx{s:Hs}(h:k8 s)(n0:Int)(w:bd):∃ s':Hs,k8 s'/\s'.A=KU s.O s.A s.k w n0/\s'.O=KV s.O s.A s.k w n0/\s'.k=KW s.O s.A s.k w n0/\s'.n=s.n:=by
 by_cases c:zO s.O s.A s.k w n0=0
 ·obtain⟨c1,c2,c3⟩:=Q8 c;obtain⟨g1,g2,g3,g4⟩:=mI c2;have hB:=En (w:=w) c2 h.a;have hw:=Ca c1 g2;have hr:∀ x∈(bT s.O s.A w n0).map fun x=>Rc.d (fq s.O x) w,x.ok:=fun x hx=>by
   obtain⟨y,hy,rfl⟩:=ahY.1 hx;exact⟨vh g1 (B9 y hy),hw⟩
  have ek:dk ((s.R++(bT s.O s.A w n0).map fun x=>Rc.d (fq s.O x) w).map Rc.str)=s.k++dk (rk s.O w (bT s.O s.A w n0)):=by
   rw [ah0,dB,List.map_map];rfl
  have hm:∀ d∈KQ s.O (bA s.O s.A w n0),d∈s.O:=fun d hd=>(List.mem_filter.1 hd).1;have Vb:(KQ s.O (bA s.O s.A w n0)).length<=s.O.length:=List.length_filter_le ..;have hn:=h.n;have PE:=h.ol;refine⟨⟨bA s.O s.A w n0,KQ s.O (bA s.O s.A w n0),s.R++(bT s.O s.A w n0).map fun x=>Rc.d (fq s.O x) w,s.n⟩,⟨hB.2,(iN hB.1).len,⟨by have:=h.o.len;show(KQ s.O (bA s.O s.A w n0)).length<=_;omega,fun d hd=>h.o.s1 d (hm d hd),fun d hd=>h.o.s2 d (hm d hd)⟩,?_,fun x hx=>?_,?_,?_⟩,?_,?_,?_,rfl⟩
  ·show(KQ s.O (bA s.O s.A w n0)).length<=20;omega
  ·rcases aie.1 hx with hx|hx
   ·exact h.r x hx
   ·exact hr x hx
  ·show(dk _).length<=4000;rw [ek,ahC];exact c3
  ·show 0<=s.n/\s.n<=(dk _).length;rw [ek,ahC];exact⟨hn.1,by have:=hn.2;unfold Hs.k at this ⊢;omega⟩
  ·show _=KU s.O s.A s.k w n0;unfold KU;rw [if_pos c]
  ·show _=KV s.O s.A s.k w n0;unfold KV;rw [if_pos c]
  ·show dk _=KW s.O s.A s.k w n0;unfold KW;rw [if_pos c,ek]
 ·exact⟨s,h,by unfold KU;rw [if_neg c],by unfold KV;rw [if_neg c],by unfold KW;rw [if_neg c],rfl⟩
theorem MI(s:Hs)(h:k8 s)(d:De)(hw:d.2.2.1.length<=9223372036854775807)(h1:d.2.2.2.1.1.length<=9223372036854775807)(h2:d.2.2.2.1.2.1.length<=9223372036854775807):∃ s' t m e,Rg s d s' t m e:=by
 obtain⟨kd,n0,w,dl,⟨⟩⟩:=d;dsimp only at hw h1 h2;by_cases k1:kd=1
 ·subst k1;obtain⟨s',dz,e1,e2,e3,e4⟩:=Zu h n0 w;refine⟨s',0,0,ID s.A s.k w n0,dz,?_,?_⟩
  ·rw [e1,e2,e3,e4];exact do1 s.A s.O s.k s.n n0 w dl h.a h.k hw
  ·rw [e1,e2,e3,e4];exact Ve s.A s.O s.k s.n n0 w dl h.a h.k hw
 by_cases k2:kd=2
 ·subst k2;have hO:=Zv h.o h.ol h1 h2;exact⟨⟨s.A,if ve s.O dl=0 then Ef s.O dl else s.O,s.R,s.n⟩,0,0,ve s.O dl,⟨h.a,h.al,hO.1,hO.2,h.r,h.k,h.n⟩,do2 s.A s.O s.k s.n n0 w dl h.o h1 h2,Vf s.A s.O s.k s.n n0 w dl h.o h1 h2⟩
 by_cases k3:kd=3
 ·subst k3;obtain⟨s',dz,e1,e2,e3,e4⟩:=Zx h n0 w;refine⟨s',Q6 s.O s.A s.k w n0,Q7 s.O s.A s.k w n0,zO s.O s.A s.k w n0,dz,?_,?_⟩
  ·rw [e1,e2,e3,e4];exact do3 s.A s.O s.k s.n n0 w dl h.a h.o h.k h.al
  ·rw [e1,e2,e3,e4];exact Vg s.A s.O s.k s.n n0 w dl h.a h.o h.k h.al
 by_cases k4:kd=4
 ·subst k4;exact⟨⟨s.A,s.O,s.R,s.k.length⟩,0,0,0,⟨h.a,h.al,h.o,h.ol,h.r,h.k,⟨Int.natCast_nonneg _,Int.le_refl _⟩⟩,do4 s.A s.O s.k s.n n0 w dl,Vi s.A s.O s.k s.n n0 w dl⟩
 by_cases k5:kd=5
 ·subst k5;by_cases c:wU s.k s.n n0=0
  ·obtain⟨R',r1,r2,r3,r4,r5⟩:=IG h c;have hR:=Ra r1;have a1:=do5 s.A s.O s.k s.n n0 w dl R' h.k h.n fun _=>⟨r1,r2,r5,r4⟩;have a2:=Ol s.A s.O s.k s.n n0 w dl R' h.k h.n fun _=>⟨r1,r2,r5,r4⟩;rw [if_pos c,r2,r3] at a1 a2;exact⟨⟨FY R',[],R',((dk (R'.map Rc.str)).length:Nat)⟩,0,0,_,⟨hR.1,hR.2,⟨ag,fun d hd=>(by cases hd),fun d hd=>(by cases hd)⟩,ag,r1,r4,⟨Int.natCast_nonneg _,Int.le_refl _⟩⟩,a1,a2⟩
  ·have a1:=do5 s.A s.O s.k s.n n0 w dl [] h.k h.n fun e=>absurd e c;have a2:=Ol s.A s.O s.k s.n n0 w dl [] h.k h.n fun e=>absurd e c;rw [if_neg c] at a1 a2;exact⟨s,0,0,_,h,a1,a2⟩
 by_cases k6:kd=6
 ·subst k6;have a1:=do6 s.A s.O s.k s.n n0 w dl h.al;have a2:=Vk s.A s.O s.k s.n n0 w dl h.a;by_cases c:fA s.A w<0
  ·rw [if_pos c] at a1 a2;exact⟨s,0,0,_,h,a1,a2⟩
  ·rw [if_neg c] at a1 a2;exact⟨s,_,_,_,h,a1,a2⟩
 by_cases k7:kd=7
 ·subst k7;have hO:=Zw (w:=w) (n0:=n0) h.o h.ol;exact⟨⟨s.A,if xp s.O w n0=0 then zQ s.O w n0 else s.O,s.R,s.n⟩,0,0,xp s.O w n0,⟨h.a,h.al,hO.1,hO.2,h.r,h.k,h.n⟩,do7 s.A s.O s.k s.n n0 w dl h.o,Vj s.A s.O s.k s.n n0 w dl h.o⟩
 ·have hk:kd<1∨7<kd:=ae;exact⟨s,0,0,1,h,do0 s.A s.O s.k s.n n0 w dl kd hk,Vl s.A s.O s.k s.n n0 w dl kd hk⟩
end Go.Proofs.YtmbbagbhmjaedaaGreatDoor
