/- A stable sort of parts, walked: merging, whole. -/
import Derived.Test.YtkkcnppgcnmikaaGreatDoorAea
import Derived.Test.YtkkcnppgcnmikaaGreatDoorAdg
namespace Go.Proofs.YtkkcnppgcnmikaaGreatDoor
open Go FM Go.Proofs
set_option maxRecDepth 10000
set_option maxHeartbeats 6400000
set_option linter.all false
structure SymI(X Y:List Pt)(h s0 r0 s r:Nat):Prop where
 a:s0≤s
 b:s≤r
 c:r≤r0
 lo:∀ (_:s0<s) (h1:s-1<X.length) (h2:h-s<Y.length),tl X[s-1] Y[h-s]
 hi:∀ (_:r<r0) (h1:r<X.length) (h2:h-1-r<Y.length),tl Y[h-1-r] X[r]
theorem sym_end{X Y:List Pt}{h s0 r0 s:Nat}(hI:SymI X Y h s0 r0 s s)(hok:OkP (X++Y))(hX:X.Pairwise tl)(hY:Y.Pairwise tl)(hs:s≤X.length)(hh:s≤h)(hhy:h-s≤Y.length)
  (e1:s=s0→s=0∨h-s=Y.length) (e2:s=r0→h-s=0∨s=X.length):srtP (X++Y)=srtP (X.take s++Y.take (h-s))++srtP (X.drop s++Y.drop (h-s)):=by
 have hXe:X=X.take s++X.drop s:=(List.take_append_drop ..).symm
 have hYe:Y=Y.take (h-s)++Y.drop (h-s):=(List.take_append_drop ..).symm
 have:=srt_cross (A:=X.take s) (B:=X.drop s) (C:=Y.take (h-s)) (D:=Y.drop (h-s)) (by rw [List.take_append_drop,List.take_append_drop];exact hok) (by rw [List.take_append_drop];exact hX) (by rw [List.take_append_drop];exact hY) (fun h1 h2=>?_) (fun h1 h2=>?_)
 ·rw [List.take_append_drop,List.take_append_drop] at this;exact this
 ·have l1:=List.length_pos_iff.2 h1
  have l2:=List.length_pos_iff.2 h2
  rw [List.length_take] at l1
  rw [List.length_drop] at l2
  have hlt:s0<s:=by
   rcases Nat.lt_or_eq_of_le hI.a with h|h
   ·exact h
   ·rcases e1 h.symm with h|h<;>omega
  have:=hI.lo hlt (by omega) (by omega)
  rw [List.getLast_eq_getElem,List.head_eq_getElem,List.getElem_take,List.getElem_drop]
  have el:(X.take s).length-1=s-1:=by rw [List.length_take];omega
  simp only [el,Nat.add_zero]
  exact this
 ·have l1:=List.length_pos_iff.2 h1
  have l2:=List.length_pos_iff.2 h2
  rw [List.length_take] at l1
  rw [List.length_drop] at l2
  have hlt:s<r0:=by
   rcases Nat.lt_or_eq_of_le hI.c with h|h
   ·exact h
   ·rcases e2 h with h|h<;>omega
  have:=hI.hi hlt (by omega) (by omega)
  rw [List.getLast_eq_getElem,List.head_eq_getElem,List.getElem_take,List.getElem_drop]
  have el:(Y.take (h-s)).length-1=h-1-s:=by rw [List.length_take];omega
  simp only [el,Nat.add_zero]
  exact this
abbrev symF(P X Y R:List Pt):Prop:=FnSpec Sy.P 260 [ptO (P++(X++(Y++R))),.int P.length,.int ((P.length+X.length:Nat):Int),.int ((P.length+X.length+Y.length:Nat):Int),fnP] [ptO (P++(srtP (X++Y)++R)),.int P.length,.int ((P.length+X.length:Nat):Int),.int ((P.length+X.length+Y.length:Nat):Int),fnP] (.tup [])
theorem symF_at{P X Y R D D':List Pt}{a m b:Int}(h:symF P X Y R)(e1:P++(X++(Y++R))=D)(e2:P++(srtP (X++Y)++R)=D')(ea:(P.length:Int)=a)(em:((P.length+X.length:Nat):Int)=m)(eb:((P.length+X.length+Y.length:Nat):Int)=b) :
  FnSpec Sy.P 260 [ptO D,.int a,.int m,.int b,fnP] [ptO D',.int a,.int m,.int b,fnP] (.tup []):=by
 subst e1;subst e2;subst ea;subst em;subst eb;exact h
theorem rot_at{P X Y R D D':List Pt}{a m b:Int}(hx:0<X.length)(hy:0<Y.length)(hn:P.length+X.length+Y.length+R.length≤1000000)(e1:P++(X++(Y++R))=D)(e2:P++(Y++(X++R))=D')(ea:(P.length:Int)=a)(em:((P.length+X.length:Nat):Int)=m)(eb:((P.length+X.length+Y.length:Nat):Int)=b) :
  FnSpec Sy.P 272 [ptO D,.int a,.int m,.int b,fnP] [ptO D',.int a,.int m,.int b,fnP] (.tup []):=by
 subst e1;subst e2;subst ea;subst em;subst eb;exact rot_spec P X Y R hx hy hn
theorem sym_step(P X Y R:List Pt)(hx:1<X.length)(hy:1<Y.length)(hok:OkP (X++Y))(hX:X.Pairwise tl)(hY:Y.Pairwise tl)(hlx:∀ x∈X,∀ y∈Y,lx x y)(hn:P.length+X.length+Y.length+R.length≤1000000)
  (ih:∀ P' X' Y' R':List Pt,X'.length+Y'.length<X.length+Y.length→0<X'.length→0<Y'.length→OkP (X'++Y')→X'.Pairwise tl→Y'.Pairwise tl→(∀ x∈X',∀ y∈Y',lx x y)→P'.length+X'.length+Y'.length+R'.length≤1000000→symF P' X' Y' R'):symF P X Y R:=by
 have gX:∀ x∈X,Gd x:=fun x h=>hok.g x (by simp [h])
 have gY:∀ y∈Y,Gd y:=fun y h=>hok.g y (by simp [h])
 obtain⟨hf,hhf⟩:∃ hf,hf=(X.length+Y.length) / 2:=⟨_,rfl⟩
 obtain⟨s0,r0,hsr⟩:∃ s0 r0:Nat,(hf<X.length∧s0=hf-Y.length∧r0=hf)∨(X.length≤hf∧s0=0∧r0=X.length):=by
  by_cases c:hf<X.length
  ·exact⟨_,_,.inl ⟨c,rfl,rfl⟩⟩
  ·exact⟨_,_,.inr ⟨by omega,rfl,rfl⟩⟩
 have b1:s0≤r0:=by omega
 have b2:r0≤X.length:=by omega
 have b3:r0≤hf:=by omega
 have b4:hf-s0≤Y.length:=by omega
 have D0x:∀ (n:Int) (i:Nat) (hi:i<X.length),n=(P.length:Int)+(i:Nat)→(P++(X++(Y++R)))[n.toNat]?=some X[i]:=fun n i hi hn=>seg_get hn hi
 have D0y:∀ (n:Int) (i:Nat) (hi:i<Y.length),n=((P.length+X.length:Nat):Int)+(i:Nat)→(P++(X++(Y++R)))[n.toNat]?=some Y[i]:=fun n i hi hn=>by
  have:=seg_get (P:=P++X) (A:=Y) (R:=R) (n:=n) (i:=i) (by rw [List.length_append];omega) hi
  rw [List.append_assoc] at this;exact this
 have hDl:(P++(X++(Y++R))).length=P.length+X.length+Y.length+R.length:=by simp only [List.length_append];omega
 unfold symF
 generalize hD0:P++(X++(Y++R))=D0 at *
 generalize hD3:P++(srtP (X++Y)++R)=D3 at *
 obtain⟨m,hm⟩:∃ m,m=P.length+X.length:=⟨_,rfl⟩
 obtain⟨b,hb⟩:∃ b,b=P.length+X.length+Y.length:=⟨_,rfl⟩
 obtain⟨mid,hmid⟩:∃ mid,mid=P.length+hf:=⟨_,rfl⟩
 rw [← hb,←hm]
 rw [← hm] at D0y
 refine FnSpec.enter (S:=Sy) 1 Tryz.func260 rfl rfl rfl Tryz.ntmps260 rfl rfl rfl rfl fun v0=>?_
 repeat' first|(refine CW.cut (c:=.cond (.tmp 140) _ _) [(0,.av (ptO D0)),(1,.av (.int (P.length))),(2,.av (.int (m))),(3,.av (.int (b))),(4,.av fnP),(18,.av (.int (mid))),(19,.av (.int (((mid+m:Nat):Int)))),(20,.av (.int ((P.length:Int)+(s0:Nat)))),(21,.av (.int ((P.length:Int)+(r0:Nat))))] ?_ ?_)|exact w9g|((with_reducible apply J.step);rfl;((with_reducible apply s_cvIu)<;>(first|rfl|omega)))|((with_reducible apply J.step);rfl;((with_reducible apply s_cvuI)<;>(first|rfl|omega)))|refine w9S @s_shru1 ?_|refine w9x ?_|(refine w9c ?_ ?_<;>intro _<;>try exact w9o)|fail
 all_goals try exact w9o
 refine CW.loop (fun z:Nat×Nat=>[(0,.av (ptO D0)),(1,.av (.int (P.length))),(2,.av (.int (m))),(3,.av (.int (b))),(4,.av fnP),(18,.av (.int (mid))),(19,.av (.int (((mid+m:Nat):Int)))),(20,.av (.int ((P.length:Int)+(z.1:Nat)))),(21,.av (.int ((P.length:Int)+(z.2:Nat)))),(22,.av (.int (((mid+m:Nat):Int)-1)))]) (fun z=>SymI X Y hf s0 r0 z.1 z.2) (fun z=>z.2-z.1) ((s0,r0)) ?_ (w9a) ?_
 ·exact⟨Nat.le_refl _,b1,Nat.le_refl _,fun h=>absurd h (Nat.lt_irrefl _),fun h=>absurd h (Nat.lt_irrefl _)⟩
 rintro⟨s,r⟩ hI
 have i1:=hI.a
 have i2:=hI.b
 have i3:=hI.c
 dsimp only at i1 i2 i3 ⊢
 by_cases hsr2:s<r
 ·have hwx:(s+r) / 2<X.length:=by omega
  have hwy:hf-1-(s+r) / 2<Y.length:=by omega
  have q2:=D0x (((P.length:Int)+(s:Nat)+((P.length:Int)+(r:Nat))) / 2) ((s+r) / 2) hwx (by omega)
  have q1:=D0y (((mid+m:Nat):Int)-1-((P.length:Int)+(s:Nat)+((P.length:Int)+(r:Nat))) / 2) (hf-1-(s+r) / 2) hwy (by omega)
  have hgx:=gX _ (List.getElem_mem hwx)
  have hgy:=gY _ (List.getElem_mem hwy)
  have hlxy:=hlx _ (List.getElem_mem hwx) _ (List.getElem_mem hwy)
  have hkt:=kb_tl hlxy
  by_cases c:kb Y[hf-1-(s+r) / 2] X[(s+r) / 2]
  ·have c':=cfP_lt.2 c
   have hI':SymI X Y hf s0 r0 s ((s+r) / 2):=⟨hI.a,by omega,by omega,hI.lo,fun _ h1 h2=>hkt.1 c⟩
   generalize Y[hf-1-(s+r) / 2]=y at *
   generalize X[(s+r) / 2]=x at *
   repeat' first|((with_reducible apply J.step);rfl;((with_reducible apply s_cvIu)<;>(first|rfl|omega)))|((with_reducible apply J.step);rfl;((with_reducible apply s_cvuI)<;>(first|rfl|omega)))|refine w9S @s_shru1 ?_|refine w9x ?_|(refine J.callF [ptA y,ptA x] rfl rfl rfl ⟨y,x,rfl,hgy,hgx⟩ (by exact w9A) (by first|assumption|rfl|simp) rfl ?_)|(refine J.callFQ [ptA y,ptA x] rfl rfl rfl ⟨y,x,rfl,hgy,hgx⟩ (by exact w9A) (by first|assumption|rfl|simp) rfl ?_)|(refine w9c ?_ ?_<;>intro _<;>try exact w9o)|fail
   all_goals try exact w9o
   refine⟨(s,(s+r) / 2),?_,w9n,w9a⟩
   exact hI'
  ·have c':=mt cfP_lt.1 c
   have hne:Y[hf-1-(s+r) / 2]≠X[(s+r) / 2]:=fun e=>by rw [e] at hlxy;unfold lx at hlxy;omega
   have hxy:tl X[(s+r) / 2] Y[hf-1-(s+r) / 2]:=(tl_total hgy hgx hne).resolve_left fun h=>c (hkt.2 h)
   have hI':SymI X Y hf s0 r0 ((s+r) / 2+1) r:=⟨by omega,by omega,hI.c,fun _ h1 h2=>by simpa only [Nat.add_sub_cancel,show hf-((s+r) / 2+1)=hf-1-(s+r) / 2 by omega] using hxy,hI.hi⟩
   generalize Y[hf-1-(s+r) / 2]=y at *
   generalize X[(s+r) / 2]=x at *
   repeat' first|((with_reducible apply J.step);rfl;((with_reducible apply s_cvIu)<;>(first|rfl|omega)))|((with_reducible apply J.step);rfl;((with_reducible apply s_cvuI)<;>(first|rfl|omega)))|refine w9S @s_shru1 ?_|refine w9x ?_|(refine J.callF [ptA y,ptA x] rfl rfl rfl ⟨y,x,rfl,hgy,hgx⟩ (by exact w9A) (by first|assumption|rfl|simp) rfl ?_)|(refine J.callFQ [ptA y,ptA x] rfl rfl rfl ⟨y,x,rfl,hgy,hgx⟩ (by exact w9A) (by first|assumption|rfl|simp) rfl ?_)|(refine w9c ?_ ?_<;>intro _<;>try exact w9o)|fail
   all_goals try exact w9o
   refine⟨((s+r) / 2+1,r),?_,w9n,w9a⟩
   exact hI'
 ·obtain rfl:s=r:=by omega
  have hres:=sym_end hI hok hX hY (by omega) (by omega) (by omega) (fun e=>by omega) (fun e=>by omega)
  have hXe:X.take s++X.drop s=X:=List.take_append_drop ..
  have hYe:Y.take (hf-s)++Y.drop (hf-s)=Y:=List.take_append_drop ..
  have lA:(X.take s).length=s:=by rw [List.length_take];omega
  have lB:(X.drop s).length=X.length-s:=List.length_drop
  have lC:(Y.take (hf-s)).length=hf-s:=by rw [List.length_take];omega
  have lD:(Y.drop (hf-s)).length=Y.length-(hf-s):=List.length_drop
  have mA:∀ x∈X.take s,x∈X:=fun x h=>List.mem_of_mem_take h
  have mB:∀ x∈X.drop s,x∈X:=fun x h=>List.mem_of_mem_drop h
  have mC:∀ x∈Y.take (hf-s),x∈Y:=fun x h=>List.mem_of_mem_take h
  have mD:∀ x∈Y.drop (hf-s),x∈Y:=fun x h=>List.mem_of_mem_drop h
  have pA:=hX.sublist (List.take_sublist s X)
  have pB:=hX.sublist (List.drop_sublist s X)
  have pC:=hY.sublist (List.take_sublist (hf-s) Y)
  have pD:=hY.sublist (List.drop_sublist (hf-s) Y)
  have kAC:OkP (X.take s++Y.take (hf-s)):=hok.sub ((List.take_sublist ..).append (List.take_sublist ..))
  have kBD:OkP (X.drop s++Y.drop (hf-s)):=hok.sub ((List.drop_sublist ..).append (List.drop_sublist ..))
  have lS:(srtP (X.take s++Y.take (hf-s))).length=hf:=by rw [srt_len,List.length_append];omega
  generalize X.take s=A at *
  generalize X.drop s=B at *
  generalize Y.take (hf-s)=C at *
  generalize Y.drop (hf-s)=E at *
  obtain⟨D1,hD1⟩:∃ D1,D1=P++((A++C)++((B++E)++R)):=⟨_,rfl⟩
  obtain⟨D2,hD2⟩:∃ D2,D2=P++(srtP (A++C)++((B++E)++R)):=⟨_,rfl⟩
  have h1:(s<X.length∧0<hf-s)→FnSpec Sy.P 272 [ptO D0,.int ((P.length:Int)+(s:Nat)),.int (m:Nat),.int (((mid+m:Nat):Int)-((P.length:Int)+(s:Nat))),fnP] [ptO D1,.int ((P.length:Int)+(s:Nat)),.int (m:Nat),.int (((mid+m:Nat):Int)-((P.length:Int)+(s:Nat))),fnP] (.tup []):=fun c =>
   rot_at (P:=P++A) (X:=B) (Y:=C) (R:=E++R) (by omega) (by omega) (by simp only [List.length_append];omega) (by rw [← hD0,←hXe,←hYe];simp only [List.append_assoc]) (by rw [hD1];simp only [List.append_assoc]) (by rw [List.length_append];omega) (by rw [List.length_append];omega) (by rw [List.length_append];omega)
  have n1:¬ (s<X.length∧0<hf-s)→D0=D1:=fun c=>by
   rw [hD1,←hD0,←hXe,←hYe]
   by_cases c1:s<X.length
   ·have:C=[]:=List.eq_nil_of_length_eq_zero (by omega)
    subst this;simp only [List.append_nil,List.nil_append,List.append_assoc]
   ·have:B=[]:=List.eq_nil_of_length_eq_zero (by omega)
    subst this;simp only [List.append_nil,List.nil_append,List.append_assoc]
  have h2:(0<s∧s<hf)→FnSpec Sy.P 260 [ptO D1,.int P.length,.int ((P.length:Int)+(s:Nat)),.int (mid:Nat),fnP] [ptO D2,.int P.length,.int ((P.length:Int)+(s:Nat)),.int (mid:Nat),fnP] (.tup []):=fun c =>
   symF_at (ih P A C ((B++E)++R) (by omega) (by omega) (by omega) kAC pA pC (fun x hx y hy=>hlx x (mA x hx) y (mC y hy)) (by simp only [List.length_append];omega)) (by rw [hD1];simp only [List.append_assoc]) hD2.symm rfl (by omega) (by omega)
  have n2:¬ (0<s∧s<hf)→D1=D2:=fun c=>by
   rw [hD1,hD2]
   by_cases c1:0<s
   ·have:C=[]:=List.eq_nil_of_length_eq_zero (by omega)
    subst this
    rw [List.append_nil] at kAC ⊢
    rw [srt_self kAC pA]
   ·have:A=[]:=List.eq_nil_of_length_eq_zero (by omega)
    subst this
    rw [List.nil_append] at kAC ⊢
    rw [srt_self kAC pC]
  have h3:(s<X.length∧hf-s<Y.length)→FnSpec Sy.P 260 [ptO D2,.int (mid:Nat),.int (((mid+m:Nat):Int)-((P.length:Int)+(s:Nat))),.int (b:Nat),fnP] [ptO D3,.int (mid:Nat),.int (((mid+m:Nat):Int)-((P.length:Int)+(s:Nat))),.int (b:Nat),fnP] (.tup []):=fun c =>
   symF_at (ih (P++srtP (A++C)) B E R (by omega) (by omega) (by omega) kBD pB pD (fun x hx y hy=>hlx x (mB x hx) y (mD y hy)) (by rw [List.length_append];omega)) (by rw [hD2];simp only [List.append_assoc]) (by rw [← hD3,hres];simp only [List.append_assoc]) (by rw [List.length_append];omega) (by rw [List.length_append];omega) (by rw [List.length_append];omega)
  have n3:¬ (s<X.length∧hf-s<Y.length)→D2=D3:=fun c=>by
   have e:srtP (B++E)=B++E:=by
    by_cases c1:s<X.length
    ·have:E=[]:=List.eq_nil_of_length_eq_zero (by omega)
     subst this
     rw [List.append_nil] at kBD ⊢
     exact srt_self kBD pB
    ·have:B=[]:=List.eq_nil_of_length_eq_zero (by omega)
     subst this
     rw [List.nil_append] at kBD ⊢
     exact srt_self kBD pD
   rw [hD2,←hD3,hres,e]
   simp only [List.append_assoc]
  clear hD1 hD2 hD0 hD3 hres D0x D0y ih
  rcases Classical.em (s<X.length∧0<hf-s) with c1|c1<;>rcases Classical.em (0<s∧s<hf) with c2|c2<;>rcases Classical.em (s<X.length∧hf-s<Y.length) with c3|c3
  all_goals first|replace h1:=h1 c1|(have e:=n1 c1;subst e)
  all_goals first|replace h2:=h2 c2|(have e:=n2 c2;subst e)
  all_goals first|replace h3:=h3 c3|(have e:=n3 c3;subst e)
  all_goals clear n1 n2 n3
  all_goals
   repeat' first|refine w9x ?_|((with_reducible apply J.callM1 (h1));rfl;rfl;rfl;rfl;rfl;(repeat' (first|exact ArgsM.nil|apply ArgsM.cons|exact ArgM.pl rfl rfl|exact ArgM.br rfl rfl rfl (by first|rfl|exact sh_int|exact sh_rows|exact sh_rowsO|exact sh_box|exact sh_map (fun _=>rfl))));exact NoShI.out;exact NoShI.out)|((with_reducible apply J.callM1 (h2));rfl;rfl;rfl;rfl;rfl;(repeat' (first|exact ArgsM.nil|apply ArgsM.cons|exact ArgM.pl rfl rfl|exact ArgM.br rfl rfl rfl (by first|rfl|exact sh_int|exact sh_rows|exact sh_rowsO|exact sh_box|exact sh_map (fun _=>rfl))));exact NoShI.out;exact NoShI.out)|((with_reducible apply J.callM1 (h3));rfl;rfl;rfl;rfl;rfl;(repeat' (first|exact ArgsM.nil|apply ArgsM.cons|exact ArgM.pl rfl rfl|exact ArgM.br rfl rfl rfl (by first|rfl|exact sh_int|exact sh_rows|exact sh_rowsO|exact sh_box|exact sh_map (fun _=>rfl))));exact NoShI.out;exact NoShI.out)|(refine w9c ?_ ?_<;>intro _<;>try exact w9o)|fail
  all_goals exact w9e
theorem sym_spec:∀ (n:Nat) (P X Y R:List Pt),X.length+Y.length≤n→0<X.length→0<Y.length→OkP (X++Y)→X.Pairwise tl→Y.Pairwise tl→(∀ x∈X,∀ y∈Y,lx x y)→P.length+X.length+Y.length+R.length≤1000000→symF P X Y R
 | 0,P,X,Y,R,h,hx,hy,_,_,_,_,_=>by omega
 | n+1,P,X,Y,R,h,hx,hy,hok,hX,hY,hlx,hn=>by
  by_cases c1:X.length=1
  ·obtain⟨x,rfl⟩:∃ x,X=[x]:=List.length_eq_one_iff.1 c1
   exact sym_one P x Y R hy hok hY (fun y hy=>hlx x (List.mem_singleton.2 rfl) y hy) (by rw [List.length_singleton] at hn;exact hn)
  by_cases c2:Y.length=1
  ·obtain⟨y,rfl⟩:∃ y,Y=[y]:=List.length_eq_one_iff.1 c2
   exact sym_last P X y R (by omega) hok hX (fun x hx=>hlx x hx y (List.mem_singleton.2 rfl)) (by rw [List.length_singleton] at hn;exact hn)
  exact sym_step P X Y R (by omega) (by omega) hok hX hY hlx hn fun P' X' Y' R' h'=>sym_spec n P' X' Y' R' (by omega)
theorem ins_at{P l R D D':List Pt}{a b:Int}(hl:OkP l)(hx:l.Pairwise lx)(hn:P.length+l.length+R.length≤1000000)(e1:P++(l++R)=D)(e2:P++(srtP l++R)=D')(ea:(P.length:Int)=a)(eb:((P.length+l.length:Nat):Int)=b) :
  FnSpec Sy.P 259 [ptO D,.int a,.int b,fnP] [ptO D',.int a,.int b,fnP] (.tup []):=by
 subst e1;subst e2;subst ea;subst eb;exact ins_spec P l R hl hx hn
structure DT where
 D:List Pt
 T:List Pt
structure DTOk(k:Nat)(l:List Pt)(z:DT):Prop where
 e:z.D++z.T=l
 q:∃ q,z.D.length=k*q
theorem DTOk.zero(k:Nat)(l:List Pt):DTOk k l ⟨[],l⟩:=⟨rfl,0,rfl⟩
theorem DTOk.next{k:Nat}{l:List Pt}{z:DT}(h:DTOk k l z){X Z:List Pt}(hT:z.T=X++Z)(hX:X.length=k):DTOk k l ⟨z.D++X,Z⟩:=by
 obtain⟨q,hq⟩:=h.q
 refine⟨by rw [List.append_assoc,←hT,h.e],q+1,?_⟩
 rw [List.length_append,hq,hX,Nat.mul_succ]
theorem DTOk.chs{k:Nat}(hk:0<k){l:List Pt}{z:DT}(h:DTOk k l z)(B:List Pt):chs k (z.D++B)=chs k z.D++chs k B:=by
 obtain⟨q,hq⟩:=h.q
 exact chs_app hk q hq
theorem stable_spec(l:List Pt)(hl:OkP l)(hx:l.Pairwise lx)(hn:l.length≤100000):FnSpec Sy.P 246 [ptO l,.int l.length,fnP] [ptO (srtP l),.int l.length,fnP] (.tup []):=by
 have sub:∀ {A X B:List Pt},A++(X++B)=l→OkP X∧X.Pairwise lx:=fun{A X B} e=>by
  have hs:X.Sublist l:=by rw [← e];exact(List.sublist_append_left X B).trans (List.sublist_append_right A _)
  exact⟨hl.sub hs,hx.sublist hs⟩
 have e0:l=chs 20 []++l:=by rw [chs_nil];rfl
 refine FnSpec.enter (S:=Sy) 1 Tryz.func246 rfl rfl rfl Tryz.ntmps246 rfl rfl rfl rfl fun v0=>?_
 repeat' first|refine w9x ?_|(refine w9c ?_ ?_<;>intro _<;>try exact w9o)|fail
 refine CW.loop (fun z:DT=>[(0,.av (ptO (chs 20 z.D++z.T))),(1,.av (.int (l.length))),(2,.av fnP),(6,.av (.int (20))),(7,.av (.int (z.D.length))),(8,.av (.int ((z.D.length:Int)+20)))]) (fun z=>DTOk 20 l z) (fun z=>l.length-z.D.length) (⟨[],l⟩) ?_ (w9a) ?_
 ·exact .zero 20 l
 rintro⟨D,T⟩ hz
 have he:=hz.e
 have hc:=hz.chs (by decide)
 dsimp only at he hc ⊢
 have hDT:D.length+T.length=l.length:=by rw [← he,List.length_append]
 have hP:(chs 20 D).length=D.length:=chs_length (by decide) D
 by_cases c:20≤T.length
 ·obtain⟨X,Z,rfl,hX⟩:∃ X Z,T=X++Z∧X.length=20:=⟨T.take 20,T.drop 20,(List.take_append_drop ..).symm,by rw [List.length_take];omega⟩
  rw [List.length_append] at hDT
  obtain⟨s1,s2⟩:=sub he
  have hi:=ins_at (P:=chs 20 D) (l:=X) (R:=Z) (a:=D.length) (b:=(D.length:Int)+20) s1 s2 (by omega) rfl rfl (by rw [hP]) (by omega)
  have e2:chs 20 D++(srtP X++Z)=chs 20 (D++X)++Z:=by rw [hc,chs_le (l:=X) (by omega),List.append_assoc]
  rw [e2] at hi
  have hz':=hz.next rfl hX
  have hl':(D++X).length=D.length+20:=by rw [List.length_append,hX]
  generalize chs 20 D++(X++Z)=W at *
  repeat' first|refine w9x ?_|((with_reducible apply J.callM1 (hi));rfl;rfl;rfl;rfl;rfl;(repeat' (first|exact ArgsM.nil|apply ArgsM.cons|exact ArgM.pl rfl rfl|exact ArgM.br rfl rfl rfl (by first|rfl|exact sh_int|exact sh_rows|exact sh_rowsO|exact sh_box|exact sh_map (fun _=>rfl))));exact NoShI.out;exact NoShI.out)|(refine w9c ?_ ?_<;>intro _<;>try exact w9o)|fail
  all_goals try exact w9o
  refine⟨⟨D++X,Z⟩,?_,w9n,w9a⟩
  all_goals first|exact hz'|(dsimp only;omega)
 ·obtain⟨s1,s2⟩:=sub (B:=[]) (by rw [List.append_nil];exact he)
  have hi:=ins_at (P:=chs 20 D) (l:=T) (R:=[]) (a:=D.length) (b:=l.length) s1 s2 (by simp;omega) (by rw [List.append_nil]) rfl (by rw [hP]) (by omega)
  have e2:chs 20 D++(srtP T++[])=chs 20 l:=by rw [← he,hc,chs_le (l:=T) (by omega),List.append_nil]
  rw [e2] at hi
  generalize chs 20 D++T=W at *
  repeat' first|refine w9x ?_|((with_reducible apply J.callM1 (hi));rfl;rfl;rfl;rfl;rfl;(repeat' (first|exact ArgsM.nil|apply ArgsM.cons|exact ArgM.pl rfl rfl|exact ArgM.br rfl rfl rfl (by first|rfl|exact sh_int|exact sh_rows|exact sh_rowsO|exact sh_box|exact sh_map (fun _=>rfl))));exact NoShI.out;exact NoShI.out)|(refine w9c ?_ ?_<;>intro _<;>try exact w9o)|fail
  all_goals try exact w9o
  clear hi e2 hc hP he hz hDT
  refine CW.loop (fun bs:Nat=>[(0,.av (ptO (chs bs l))),(1,.av (.int (l.length))),(2,.av fnP),(6,.av (.int (bs)))]) (fun bs=>0<bs∧bs≤2*l.length+20) (fun bs=>l.length-bs) (20) ?_ (w9a) ?_
  ·exact⟨by decide,by omega⟩
  intro bs ⟨hb0,hb1⟩
  by_cases c1:bs<l.length
  ·have e1:chs bs l=chs (2*bs) []++chs bs l:=by rw [chs_nil];rfl
   repeat' first|refine w9x ?_|(refine w9c ?_ ?_<;>intro _<;>try exact w9o)|fail
   all_goals try exact w9o
   refine CW.loop (fun z:DT=>[(0,.av (ptO (chs (2*bs) z.D++chs bs z.T))),(1,.av (.int (l.length))),(2,.av fnP),(6,.av (.int (bs))),(7,.av (.int (z.D.length))),(8,.av (.int ((z.D.length:Int)+2*(bs:Int))))]) (fun z=>DTOk (2*bs) l z) (fun z=>l.length-z.D.length) (⟨[],l⟩) ?_ (by(repeat' (first|exact w9b|refine And.intro ?_ ?_|exact int_congr (by simp only [List.length_nil];omega)))) ?_
   ·exact .zero _ l
   rintro⟨D,T⟩ hz
   have he:=hz.e
   have hc:=hz.chs (by omega)
   dsimp only at he hc ⊢
   have hDT:D.length+T.length=l.length:=by rw [← he,List.length_append]
   have hP:(chs (2*bs) D).length=D.length:=chs_length (by omega) D
   by_cases c2:2*bs≤T.length
   ·obtain⟨X,Y,Z,rfl,hX,hY⟩:∃ X Y Z,T=X++(Y++Z)∧X.length=bs∧Y.length=bs :=
     ⟨T.take bs,(T.drop bs).take bs,(T.drop bs).drop bs,by rw [List.take_append_drop,List.take_append_drop],by rw [List.length_take];omega,by rw [List.length_take,List.length_drop];omega⟩
    rw [List.length_append,List.length_append] at hDT
    have he2:D++((X++Y)++Z)=l:=by rw [List.append_assoc];exact he
    obtain⟨s1,s2⟩:=sub he2
    have s3:=List.pairwise_append.1 s2
    have hp:(srtP X++srtP Y).Perm (X++Y):=(srt_perm X).append (srt_perm Y)
    have hR:(chs bs Z).length=Z.length:=chs_length hb0 Z
    have hi:=symF_at (a:=D.length) (m:=(D.length:Int)+bs) (b:=(D.length:Int)+2*(bs:Int)) (sym_spec (2*bs) (chs (2*bs) D) (srtP X) (srtP Y) (chs bs Z) (by rw [srt_len,srt_len];omega) (by rw [srt_len];omega) (by rw [srt_len];omega) (s1.perm hp) (srt_sorted (s1.sub (List.sublist_append_left ..))) (srt_sorted (s1.sub (List.sublist_append_right ..)))
     (fun x hx' y hy'=>s3.2.2 x ((srt_perm X).mem_iff.1 hx') y ((srt_perm Y).mem_iff.1 hy')) (by rw [srt_len,srt_len];omega)) rfl rfl (by rw [hP]) (by rw [srt_len];omega) (by rw [srt_len,srt_len];omega)
    have e2:chs (2*bs) D++(srtP (srtP X++srtP Y)++chs bs Z)=chs (2*bs) (D++(X++Y))++chs bs Z:=by
     rw [hc,chs_le (l:=X++Y) (by rw [List.length_append];omega),List.append_assoc,srt_congr s1 hp]
    rw [e2,←chs_two hb0 hX hY] at hi
    have hz':=hz.next (X:=X++Y) (Z:=Z) (by dsimp only;rw [List.append_assoc]) (by rw [List.length_append];omega)
    have hl':(D++(X++Y)).length=D.length+2*bs:=by rw [List.length_append,List.length_append];omega
    generalize chs (2*bs) D++chs bs (X++(Y++Z))=W at *
    repeat' first|refine w9x ?_|((with_reducible apply J.callM1 (hi));rfl;rfl;rfl;rfl;rfl;(repeat' (first|exact ArgsM.nil|apply ArgsM.cons|exact ArgM.pl rfl rfl|exact ArgM.br rfl rfl rfl (by first|rfl|exact sh_int|exact sh_rows|exact sh_rowsO|exact sh_box|exact sh_map (fun _=>rfl))));exact NoShI.out;exact NoShI.out)|(refine w9c ?_ ?_<;>intro _<;>try exact w9o)|fail
    all_goals try exact w9o
    refine⟨⟨D++(X++Y),Z⟩,?_,w9n,w9a⟩
    all_goals first|exact hz'|(dsimp only at *;omega)
   ·have hend:chs (2*bs) D++srtP T=chs (2*bs) l:=by rw [← he,hc,chs_le (l:=T) (by omega)]
    by_cases c3:bs<T.length
    ·obtain⟨X,Y,rfl,hX⟩:∃ X Y,T=X++Y∧X.length=bs:=⟨T.take bs,T.drop bs,(List.take_append_drop ..).symm,by rw [List.length_take];omega⟩
     rw [List.length_append] at hDT c2 c3
     obtain⟨s1,s2⟩:=sub (B:=[]) (by rw [List.append_nil];exact he)
     have s3:=List.pairwise_append.1 s2
     have hp:(srtP X++srtP Y).Perm (X++Y):=(srt_perm X).append (srt_perm Y)
     have e3:chs bs (X++Y)=srtP X++(srtP Y++[]):=by rw [chs_app hb0 1 (by omega),chs_le (l:=X) (by omega),chs_le (l:=Y) (by omega),List.append_nil]
     have hi:=symF_at (a:=D.length) (m:=(D.length:Int)+bs) (b:=l.length) (sym_spec (2*bs) (chs (2*bs) D) (srtP X) (srtP Y) [] (by rw [srt_len,srt_len];omega) (by rw [srt_len];omega) (by rw [srt_len];omega) (s1.perm hp) (srt_sorted (s1.sub (List.sublist_append_left ..))) (srt_sorted (s1.sub (List.sublist_append_right ..)))
      (fun x hx' y hy'=>s3.2.2 x ((srt_perm X).mem_iff.1 hx') y ((srt_perm Y).mem_iff.1 hy')) (by rw [srt_len,srt_len,List.length_nil];omega)) rfl rfl (by rw [hP]) (by rw [srt_len];omega) (by rw [srt_len,srt_len];omega)
     have e2:chs (2*bs) D++(srtP (srtP X++srtP Y)++[])=chs (2*bs) l:=by rw [← hend,List.append_nil,srt_congr s1 hp]
     rw [e2,←e3] at hi
     generalize chs (2*bs) D++chs bs (X++Y)=W at *
     repeat' first|refine w9x ?_|((with_reducible apply J.callM1 (hi));rfl;rfl;rfl;rfl;rfl;(repeat' (first|exact ArgsM.nil|apply ArgsM.cons|exact ArgM.pl rfl rfl|exact ArgM.br rfl rfl rfl (by first|rfl|exact sh_int|exact sh_rows|exact sh_rowsO|exact sh_box|exact sh_map (fun _=>rfl))));exact NoShI.out;exact NoShI.out)|(refine w9c ?_ ?_<;>intro _<;>try exact w9o)|fail
     all_goals try exact w9o
     refine⟨2*bs,?_,w9n,w9a⟩
     all_goals first|exact⟨by omega,by omega⟩|omega
    ·have e4:chs (2*bs) D++chs bs T=chs (2*bs) l:=by rw [← hend,chs_le (k:=bs) (l:=T) (by omega)]
     rw [e4]
     repeat' first|refine w9x ?_|(refine w9c ?_ ?_<;>intro _<;>try exact w9o)|fail
     all_goals try exact w9o
     refine⟨2*bs,?_,w9n,w9a⟩
     all_goals first|exact⟨by omega,by omega⟩|omega
  ·have e5:chs bs l=srtP l:=chs_le (by omega)
   rw [e5]
   repeat' first|refine w9x ?_|(refine w9c ?_ ?_<;>intro _<;>try exact w9o)|fail
   all_goals exact w9e
theorem sortStable_spec(l:List Pt)(hl:OkP l)(hx:l.Pairwise lx)(hn:l.length≤100000):FnSpec Sy.P 210 [ptO l,fnP] [ptO (srtP l),fnP] (.tup []):=by
 have hi:=stable_spec l hl hx hn
 refine FnSpec.enter (S:=Sy) 1 Tryz.func210 rfl rfl rfl Tryz.ntmps210 rfl rfl rfl rfl fun v0=>?_
 repeat' first|refine w9x ?_|((with_reducible apply J.callM1 (hi));rfl;rfl;rfl;rfl;rfl;(repeat' (first|exact ArgsM.nil|apply ArgsM.cons|exact ArgM.pl rfl rfl|exact ArgM.br rfl rfl rfl (by first|rfl|exact sh_int|exact sh_rows|exact sh_rowsO|exact sh_box|exact sh_map (fun _=>rfl))));exact NoShI.out;exact NoShI.out)
 exact⟨rfl,⟨_,rfl,.refl _⟩,rfl,args_start (args_mu rfl rfl (args_pl rfl args_nil))⟩
theorem cmpP_argM{M:Nat→Bool}{v:Nat→Value}{N:Nat}{σ:St}{ms:List (Nat×Nat)}{i:Nat}:ArgM (Sy.fixedF M v) N σ ms i (.func 211) fnP :=
 .fn fun w0 L0 a w L _=>beh_of_spec ⟨_,Tryz.func211,rfl,rfl⟩ (fun xs9 ⟨x,y,h,hx,hy⟩=>by subst h;exact cmpP_spec x y hx hy) (fun xs9 ⟨x,y,h,_,_⟩=>by subst h;rfl) w _
end Go.Proofs.YtkkcnppgcnmikaaGreatDoor
namespace Go.Proofs.YtkkcnppgcnmikaaGreatDoor
open Go FM
set_option maxRecDepth 10000
set_option maxHeartbeats 1600000
set_option linter.all false
def lmax(d:Int)(l:List Int):Int:=l.foldl max d
theorem lmax_cons(d x:Int)(l:List Int):lmax d (x::l)=lmax (max d x) l:=rfl
theorem lmax_append(d x:Int)(l:List Int):lmax d (l++[x])=max (lmax d l) x:=by unfold lmax;rw [List.foldl_append];rfl
theorem lmax_take{d:Int}{l:List Int}{k:Nat}(h:k<l.length):lmax d (l.take (k+1))=max (lmax d (l.take k)) l[k]:=by
 rw [List.take_succ_eq_append_getElem h,lmax_append]
theorem lmax_spec:∀ (l:List Int) (d:Int),d≤lmax d l∧(∀ y∈l,y≤lmax d l)∧(lmax d l=d∨lmax d l∈l)
 | [],d=>⟨Int.le_refl _,fun y hy=>(by cases hy),.inl rfl⟩
 | x::l,d=>by
  obtain⟨h1,h2,h3⟩:=lmax_spec l (max d x)
  rw [lmax_cons]
  refine⟨by omega,fun y hy=>?_,?_⟩
  ·rcases List.mem_cons.1 hy with rfl|hy
   ·omega
   ·exact h2 y hy
  ·rcases h3 with h3|h3
   ·by_cases c:d≤x
    ·right;rw [h3,show max d x=x by omega];exact List.mem_cons_self ..
    ·left;omega
   ·right;exact List.mem_cons_of_mem _ h3
def gmax(l:List Int):Int:=lmax (l.getD 0 0) l
theorem getD0_mem{l:List Int}(h:l≠[]):l.getD 0 0∈l:=by
 cases l with
 | nil=>exact absurd rfl h
 | cons x l=>exact List.mem_cons_self ..
theorem Max_spec(l:List Int)(h1:1≤l.length)(hl:l.length≤9223372036854775806):FnSpec Sy.P 209 [.sl false 1 ((l).map .int)] [.sl false 1 ((l).map .int)] (.int (gmax l)):=by
 have h0:l[0]?=some (l.getD 0 0):=by rw [List.getD_eq_getElem?_getD,List.getElem?_eq_getElem (by omega)];rfl
 unfold gmax
 have ht:lmax (l.getD 0 0) (l.take 1)=l.getD 0 0:=by
  rw [lmax_take (by omega)]
  have:l[0]'(by omega)=l.getD 0 0:=by rw [List.getElem?_eq_getElem (by omega)] at h0;exact Option.some.inj h0
  rw [this];simp [lmax]
 generalize l.getD 0 0=x0 at *
 refine enT Tryz.func209 Tryz.ntmps209 fun v0=>?_
 repeat' first|refine w9x ?_|(refine w9c ?_ ?_<;>intro _<;>try exact w9o)|fail
 refine CW.loop (fun k:Nat=>[(0,.av (.sl false 1 ((l).map .int))),(3,.av (.int (lmax x0 (l.take k)))),(4,.av (.int (k)))]) (fun k=>1≤k∧k≤l.length) (fun k=>l.length-k) (1) ?_ (by(repeat' (first|exact w9b|refine And.intro ?_ ?_|exact int_congr ht.symm))) ?_
 ·exact⟨Nat.le_refl _,h1⟩
 intro k ⟨hk1,hk⟩
 by_cases hlt:k<l.length
 ·have hx:l[k]?=some l[k]:=List.getElem?_eq_getElem hlt
  have hm:=lmax_take (d:=x0) hlt
  generalize l[k]=x at *
  repeat' first|refine w9x ?_|(refine w9c ?_ ?_<;>intro _<;>try exact w9o)|fail
  refine⟨k+1,?_,w9n,w9a⟩
  omega
 ·obtain rfl:k=l.length:=by omega
  rw [List.take_length]
  repeat' first|refine w9x ?_|(refine w9c ?_ ?_<;>intro _<;>try exact w9o)|fail
  exact .mk rfl rfl rfl
end Go.Proofs.YtkkcnppgcnmikaaGreatDoor
