/- Seats: people and houses checked; seats by divisors, walked. -/
import Derived.Test.YtkkcnppgcnmikaaGreatDoorAdj
import Derived.Test.YtkkcnppgcnmikaaGreatDoorAeb
import Derived.Test.YtkkcnppgcnmikaaGreatDoorAbe
namespace Go.Proofs.YtkkcnppgcnmikaaGreatDoor
open Go FM Go.Proofs
set_option maxRecDepth 10000
set_option maxHeartbeats 3200000
set_option linter.all false
def badPp(x:Int):Bool:=decide (x<0∨1000000<x)
theorem badPp_t{x:Int}(h:x<0∨1000000<x):badPp x=true:=decide_eq_true h
theorem badPp_f{x:Int}(h:¬ (x<0∨1000000<x)):badPp x=false:=decide_eq_false h
def peE(l:List Int)(H:Int):Int:=if l.length=0∨8<l.length then 2 else if l.any badPp=true then 1 else if gmax l=0 then 4 else if H<0∨100<H then 1 else 0
theorem sum_next{l:List Int}{k:Nat}(h:k<l.length):(l.take (k+1)).sum=(l.take k).sum+l[k]:=by
 rw [← List.take_append_getElem h,List.sum_append];simp
theorem pe_all{l:List Int}(h:l.any badPp=false):∀ x∈l,0≤x∧x≤1000000:=fun x hx=>by
 have:=List.any_eq_false.1 h x hx
 unfold badPp at this
 simp only [decide_eq_true_eq] at this
 omega
theorem sum_nn{l:List Int}(h:∀ x∈l,0≤x∧x≤1000000):0≤l.sum∧l.sum≤1000000*l.length:=by
 induction l with
 | nil=>simp
 | cons x l ih =>
  have h1:=h x (List.mem_cons_self ..)
  have h2:=ih fun y hy=>h y (List.mem_cons_of_mem _ hy)
  rw [List.sum_cons,List.length_cons];omega
theorem sum_zero{l:List Int}(h:∀ x∈l,0≤x∧x≤1000000):l.sum=0↔∀ x∈l,x=0:=by
 induction l with
 | nil=>simp
 | cons x l ih =>
  have h1:=h x (List.mem_cons_self ..)
  have h2:=sum_nn fun y hy=>h y (List.mem_cons_of_mem _ hy)
  have ih:=ih fun y hy=>h y (List.mem_cons_of_mem _ hy)
  rw [List.sum_cons]
  constructor
  ·intro e y hy
   rcases List.mem_cons.1 hy with rfl|hy
   ·omega
   ·exact ih.1 (by omega) y hy
  ·intro e
   have e1:=e x (List.mem_cons_self ..)
   have e2:=ih.2 fun y hy=>e y (List.mem_cons_of_mem _ hy)
   omega
theorem gmax_zero{l:List Int}(hl:l≠[])(h:∀ x∈l,0≤x∧x≤1000000):gmax l=0↔l.sum=0:=by
 rw [sum_zero h]
 have hm:=getD0_mem hl
 obtain⟨h1,h2,h3⟩:=lmax_spec l (l.getD 0 0)
 unfold gmax
 constructor
 ·intro e x hx
  have:=h2 x hx
  have:=h x hx
  omega
 ·intro e
  rcases h3 with h3|h3
  ·rw [h3];exact e _ hm
  ·exact e _ h3
theorem peopleErr1_spec(x:Int):FnSpec Sy.P 208 [.int x] [.int x] (.bool (badPp x)):=by
 refine enT Tryz.func208 Tryz.ntmps208 fun v0=>?_
 by_cases h:x<0∨1000000<x
 ·rw [badPp_t h]
  repeat' first|refine w9x ?_|(refine w9c ?_ ?_<;>intro _<;>try exact w9o)|fail
  all_goals first|exact .mk rfl rfl rfl|exact .mk rfl (congrArg AV.bool (by simp;omega)) rfl
 ·rw [badPp_f h]
  repeat' first|refine w9x ?_|(refine w9c ?_ ?_<;>intro _<;>try exact w9o)|fail
  all_goals first|exact .mk rfl rfl rfl|exact .mk rfl (congrArg AV.bool (by simp;omega)) rfl
theorem peopleErr1_arg{m:Nat}{v:Nat→Value}{N:Nat}{σ:St}:ArgOk (Sy.fixed m v) N σ (.func 208) true (fnI Sy.P (fun _=>True) badPp) :=
 .funI (peopleErr1_spec 0).ok fun x _=>peopleErr1_spec x
theorem peopleErr_spec(l:List Int)(H:Int)(hl:l.length≤9223372036854775807):FnSpec Sy.P 160 [.sl false 1 ((l).map .int),.int H] [.sl false 1 ((l).map .int),.int H] (.int (peE l H)):=by
 have hC:=containsI_spec l (fun _=>True) badPp (by omega) (fun _ _=>trivial)
 refine enT Tryz.func160 Tryz.ntmps160 fun v0=>?_
 unfold peE
 by_cases c1:l.length=0∨8<l.length
 ·rw [if_pos c1]
  repeat' first|refine w9x ?_|(refine w9c ?_ ?_<;>intro _<;>try exact w9o)|fail
  all_goals exact w9e
 rw [if_neg c1]
 have hM:=Max_spec l (by omega) (by omega)
 cases hb:l.any badPp with
 | true =>
  rw [if_pos rfl]
  rw [hb] at hC
  repeat' first|refine w9x ?_|((with_reducible first|apply J.callP (hC)|apply J.callPQ (hC));rfl;rfl;(repeat' (first|exact ArgsOk.nil|exact peopleErr1_arg|apply ArgsOk.cons|exact ArgOk.pl rfl rfl|exact ArgOk.br rfl AV.noConfusion (by first|rfl|exact sh_int|exact sh_rows|exact sh_rowsO|exact sh_box|exact sh_map (fun _=>rfl))));(first|rfl|exact gn0|exact gnI))|(refine w9c ?_ ?_<;>intro _<;>try exact w9o)|fail
  all_goals exact w9e
 | false =>
  rw [if_neg (by decide)]
  rw [hb] at hC
  generalize gmax l=g at *
  by_cases c2:g=0
  ·rw [if_pos c2]
   repeat' first|refine w9x ?_|((with_reducible first|apply J.callP (hC)|apply J.callPQ (hC));rfl;rfl;(repeat' (first|exact ArgsOk.nil|exact peopleErr1_arg|apply ArgsOk.cons|exact ArgOk.pl rfl rfl|exact ArgOk.br rfl AV.noConfusion (by first|rfl|exact sh_int|exact sh_rows|exact sh_rowsO|exact sh_box|exact sh_map (fun _=>rfl))));(first|rfl|exact gn0|exact gnI))|((with_reducible first|apply J.callP (hM)|apply J.callPQ (hM));rfl;rfl;(repeat' (first|exact ArgsOk.nil|exact peopleErr1_arg|apply ArgsOk.cons|exact ArgOk.pl rfl rfl|exact ArgOk.br rfl AV.noConfusion (by first|rfl|exact sh_int|exact sh_rows|exact sh_rowsO|exact sh_box|exact sh_map (fun _=>rfl))));(first|rfl|exact gn0|exact gnI))|(refine w9c ?_ ?_<;>intro _<;>try exact w9o)|fail
   all_goals exact w9e
  rw [if_neg c2]
  by_cases c3:H<0∨100<H
  ·rw [if_pos c3]
   repeat' first|refine w9x ?_|((with_reducible first|apply J.callP (hC)|apply J.callPQ (hC));rfl;rfl;(repeat' (first|exact ArgsOk.nil|exact peopleErr1_arg|apply ArgsOk.cons|exact ArgOk.pl rfl rfl|exact ArgOk.br rfl AV.noConfusion (by first|rfl|exact sh_int|exact sh_rows|exact sh_rowsO|exact sh_box|exact sh_map (fun _=>rfl))));(first|rfl|exact gn0|exact gnI))|((with_reducible first|apply J.callP (hM)|apply J.callPQ (hM));rfl;rfl;(repeat' (first|exact ArgsOk.nil|exact peopleErr1_arg|apply ArgsOk.cons|exact ArgOk.pl rfl rfl|exact ArgOk.br rfl AV.noConfusion (by first|rfl|exact sh_int|exact sh_rows|exact sh_rowsO|exact sh_box|exact sh_map (fun _=>rfl))));(first|rfl|exact gn0|exact gnI))|(refine w9c ?_ ?_<;>intro _<;>try exact w9o)|fail
   all_goals exact w9e
  ·rw [if_neg c3]
   repeat' first|refine w9x ?_|((with_reducible first|apply J.callP (hC)|apply J.callPQ (hC));rfl;rfl;(repeat' (first|exact ArgsOk.nil|exact peopleErr1_arg|apply ArgsOk.cons|exact ArgOk.pl rfl rfl|exact ArgOk.br rfl AV.noConfusion (by first|rfl|exact sh_int|exact sh_rows|exact sh_rowsO|exact sh_box|exact sh_map (fun _=>rfl))));(first|rfl|exact gn0|exact gnI))|((with_reducible first|apply J.callP (hM)|apply J.callPQ (hM));rfl;rfl;(repeat' (first|exact ArgsOk.nil|exact peopleErr1_arg|apply ArgsOk.cons|exact ArgOk.pl rfl rfl|exact ArgOk.br rfl AV.noConfusion (by first|rfl|exact sh_int|exact sh_rows|exact sh_rowsO|exact sh_box|exact sh_map (fun _=>rfl))));(first|rfl|exact gn0|exact gnI))|(refine w9c ?_ ?_<;>intro _<;>try exact w9o)|fail
   all_goals exact w9e
theorem any_drop{l:List Int}{p:Int→Bool}{k:Nat}(h:k<l.length):(l.drop k).any p=(p l[k]||(l.drop (k+1)).any p):=by
 rw [List.drop_eq_getElem_cons h,List.any_cons]
theorem sCheck_spec(l:List Int)(H:Int)(hl:l.length≤9223372036854775807):FnSpec Sy.P 200 [.sl false 1 ((l).map .int),.int H] [.sl false 1 ((l).map .int),.int H] (.int (peE l H)):=by
 refine enT Tryz.func200 Tryz.ntmps200 fun v0=>?_
 by_cases c1:l.length=0∨8<l.length
 ·unfold peE
  rw [if_pos c1]
  repeat' first|refine w9x ?_|(refine w9c ?_ ?_<;>intro _<;>try exact w9o)|fail
  all_goals exact w9e
 have hne:l≠[]:=fun e=>by subst e;exact c1 (.inl rfl)
 have hpe:peE l H=if l.any badPp=true then 1 else if gmax l=0 then 4 else if H<0∨100<H then 1 else 0:=if_neg c1
 repeat' first|refine w9x ?_|(refine w9c ?_ ?_<;>intro _<;>try exact w9o)|fail
 all_goals try exact w9o
 refine CW.loop (fun k:Nat=>[(1,.av (.int (H))),(5,.av (.int ((l.take k).sum))),(16,.av (.sl false 1 ((l).map .int))),(17,.av (.int (l.length))),(18,.av (.int (k)))]) (fun k=>k≤l.length∧l.any badPp=(l.drop k).any badPp∧0≤(l.take k).sum∧(l.take k).sum≤1000000*k) (fun k=>l.length-k) (0) ?_ (w9a) ?_
 ·exact⟨Nat.zero_le _,rfl,by simp,by simp⟩
 intro k ⟨hk,hp,hs1,hs2⟩
 by_cases hlt:k<l.length
 ·have hx:l[k]?=some l[k]:=List.getElem?_eq_getElem hlt
  have hsn:=sum_next hlt
  rw [any_drop hlt] at hp
  generalize l[k]=x at *
  by_cases h:x<0∨1000000<x
  ·rw [badPp_t h,Bool.true_or] at hp
   rw [hpe,if_pos hp]
   generalize (l.take k).sum=s at *
   repeat' first|refine w9x ?_|(refine w9c ?_ ?_<;>intro _<;>try exact w9o)|fail
   all_goals exact w9e
  ·rw [badPp_f h,Bool.false_or] at hp
   generalize (l.take k).sum=s at *
   repeat' first|refine w9x ?_|(refine w9c ?_ ?_<;>intro _<;>try exact w9o)|fail
   all_goals try exact w9o
   refine⟨k+1,?_,w9n,w9a⟩
   exact⟨by omega,hp,by omega,by omega⟩
 ·obtain rfl:k=l.length:=by omega
  rw [List.drop_length,List.any_nil] at hp
  rw [hpe,if_neg (by rw [hp];decide)]
  have hall:=pe_all hp
  have hg:=gmax_zero hne hall
  rw [List.take_length] at hs1 hs2 ⊢
  generalize gmax l=g at *
  generalize l.sum=s at *
  by_cases c2:g=0
  ·rw [if_pos c2]
   have c2':=hg.1 c2
   repeat' first|refine w9x ?_|(refine w9c ?_ ?_<;>intro _<;>try exact w9o)|fail
   all_goals exact w9e
  rw [if_neg c2]
  have c2':¬ s=0:=fun e=>c2 (hg.2 e)
  by_cases c3:H<0∨100<H
  ·rw [if_pos c3]
   repeat' first|refine w9x ?_|(refine w9c ?_ ?_<;>intro _<;>try exact w9o)|fail
   all_goals exact w9e
  ·rw [if_neg c3]
   repeat' first|refine w9x ?_|(refine w9c ?_ ?_<;>intro _<;>try exact w9o)|fail
   all_goals exact w9e
/-! ### ways 1 and 2 -/
theorem prodS{x f:Int}(h1:0≤x∧x≤1000000)(h2:1≤f∧f≤201):0≤x*f∧x*f≤201000000:=by
 have e1:=Int.mul_nonneg h1.1 (show 0≤f by omega)
 have e2:x*f≤1000000*201:=Int.mul_le_mul h1.2 h2.2 (by omega) (by omega)
 omega
theorem wayB{way:Int}(hw:1≤way∧way≤2){u:Nat}(h:u≤100):0≤way*(u:Int)∧way*(u:Int)≤200:=by
 rcases(show way=1∨way=2 by omega) with rfl|rfl<;>omega
theorem divided_spec(way:Int)(hw:1≤way∧way≤2)(H:Nat)(hH:H≤100)(l:List Int)(hl0:0<l.length)(hl8:l.length≤8)(hl:∀ x∈l,0≤x∧x≤1000000) :
  FnSpec Sy.P 201 [.sl false 1 ((l).map .int),.int H,.int way] [.sl false 1 ((l).map .int),.int H,.int way] (.sl true 1 ((cnts l.length ((srtP (pts way H 0 l)).take H)).map .int)):=by
 have hSl:(srtP (pts way H 0 l)).length=H*l.length:=by rw [srt_len,pts_len]
 have hSH:H≤(srtP (pts way H 0 l)).length:=by rw [hSl];exact Nat.le_mul_of_pos_right H hl0
 have hnx:=fun t s (ht:t<H) hs=>next_part hw hl hH (t:=t) (s:=s) ht hs
 have e0:List.replicate l.length (0:Int)=cnts l.length ((srtP (pts way H 0 l)).take 0):=(cnts_nil _).symm
 generalize srtP (pts way H 0 l)=S at *
 refine enT Tryz.func201 Tryz.ntmps201 fun v0=>?_
 repeat' first|refine w9x ?_|(refine w9c ?_ ?_<;>intro _<;>try exact w9o)|fail
 refine CW.loop (fun t:Nat=>[(0,.av (.sl false 1 ((l).map .int))),(1,.av (.int (H))),(2,.av (.int (way))),(7,.av (.sl true 1 ((cnts l.length (S.take t)).map .int))),(14,.av (.int (H))),(15,.av (.int (t)))]) (fun t=>t≤H) (fun t=>H-t) (0) ?_ (w9a) ?_
 ·exact Nat.zero_le _
 intro t ht
 by_cases hlt:t<H
 ·have hst:S[t]?=some S[t]:=List.getElem?_eq_getElem (by omega)
  obtain⟨w,hwl,hsw,hall⟩:=hnx t _ hlt hst
  have htk:S.take (t+1)=S.take t++[S[t]]:=(List.take_append_getElem (by omega)).symm
  have hcn:(cnts l.length (S.take t)).set w ((cw (S.take t) w:Int)+1)=cnts l.length (S.take (t+1)):=by
   rw [htk];exact(cnts_snoc (by rw [hsw]) hwl).symm
  have hTl:(S.take t).length=t:=by rw [List.length_take];omega
  have hcle:∀ j,cw (S.take t) j≤100:=fun j=>by have:=cw_le (S.take t) j;omega
  have hget:∀ j,j<l.length→(cnts l.length (S.take t))[j]?=some ((cw (S.take t) j:Nat):Int):=fun j hj=>cnts_get hj
  have hclen:=cnts_len l.length (S.take t)
  generalize hTe:S.take t=T at *
  repeat' first|refine w9x ?_|(refine w9c ?_ ?_<;>intro _<;>try exact w9o)|fail
  refine CW.loop (fun z:Nat×Nat=>[(0,.av (.sl false 1 ((l).map .int))),(1,.av (.int (H))),(2,.av (.int (way))),(7,.av (.sl true 1 ((cnts l.length T).map .int))),(8,.av (.int (z.2))),(14,.av (.int (H))),(15,.av (.int (t))),(17,.av (.sl false 1 ((l).map .int))),(18,.av (.int (l.length))),(19,.av (.int (z.1)))]) (fun z=>z.1≤l.length∧z.2<l.length∧Mx (cand way l T) z.1 z.2) (fun z=>l.length-z.1) ((0,0)) ?_ (w9a) ?_
  ·exact⟨Nat.zero_le _,hl0,Mx.zero _⟩
  rintro⟨i,b⟩ ⟨hi,hb,hM⟩
  dsimp only at hi hb hM ⊢
  by_cases hil:i<l.length
  ·have g1:l[i]?=some l[i]:=List.getElem?_eq_getElem hil
   have g2:l[b]?=some l[b]:=List.getElem?_eq_getElem hb
   have g3:=hget i hil
   have g4:=hget b hb
   have hst1:=hM.stay (i:=i)
   have hmv1:=hM.move (i:=i) (fun j=>by have:=wayB hw (hcle j);show 0<way*((cw T j:Nat):Int)+1;omega)
   have k1:l.getD i 0=l[i]:=by rw [List.getD_eq_getElem?_getD,g1];rfl
   have k2:l.getD b 0=l[b]:=by rw [List.getD_eq_getElem?_getD,g2];rfl
   have x1:=hl _ (List.getElem_mem hil)
   have x2:=hl _ (List.getElem_mem hb)
   have w1:=wayB hw (hcle i)
   have w2:=wayB hw (hcle b)
   unfold kb at hst1 hmv1
   dsimp only at hst1 hmv1
   rw [k1,k2] at hst1 hmv1
   generalize l[i]=x at *
   generalize l[b]=y at *
   have p1:=prodS (f:=way*((cw T b:Nat):Int)+1) x1 (by omega)
   have p2:=prodS (f:=way*((cw T i:Nat):Int)+1) x2 (by omega)
   by_cases c:y*(way*((cw T i:Nat):Int)+1)<x*(way*((cw T b:Nat):Int)+1)
   ·have hM':=hmv1 c
    generalize ((cw T i:Nat):Int)=u at *
    generalize ((cw T b:Nat):Int)=v at *
    repeat' first|refine w9x ?_|(refine w9c ?_ ?_<;>intro _<;>try exact w9o)|fail
    all_goals try exact w9o
    refine⟨(i+1,i),?_,w9n,w9a⟩
    exact⟨by dsimp only;omega,hil,hM'⟩
   ·have hM':=hst1 c
    generalize ((cw T i:Nat):Int)=u at *
    generalize ((cw T b:Nat):Int)=v at *
    repeat' first|refine w9x ?_|(refine w9c ?_ ?_<;>intro _<;>try exact w9o)|fail
    all_goals try exact w9o
    refine⟨(i+1,b),?_,w9n,w9a⟩
    exact⟨by dsimp only;omega,hb,hM'⟩
  ·obtain rfl:i=l.length:=by omega
   have hbw:b=w:=hM.is hl0 hwl (fun j hj=>rfl) hall
   subst hbw
   have g4:=hget b hb
   have hc1:=hcle b
   generalize cnts l.length T=C at *
   generalize cw T b=u at *
   repeat' first|refine w9x ?_|(refine w9c ?_ ?_<;>intro _<;>try exact w9o)|fail
   all_goals try exact w9o
   refine⟨t+1,?_,w9n,w9a⟩
   omega
 ·obtain rfl:t=H:=by omega
  repeat' first|refine w9x ?_|(refine w9c ?_ ?_<;>intro _<;>try exact w9o)|fail
  all_goals exact w9e
theorem sum_take_b{l:List Int}(hl8:l.length≤8)(hl:∀ x∈l,0≤x∧x≤1000000)(k:Nat):0≤(l.take k).sum∧(l.take k).sum≤8000000:=by
 have h:=sum_nn (l:=l.take k) fun x hx=>hl x (List.mem_of_mem_take hx)
 have:(l.take k).length≤8:=by rw [List.length_take];omega
 omega
theorem rep_get{n k:Nat}(h:k<n):(List.replicate n (0:Int))[k]?=some 0:=by rw [List.getElem?_replicate,if_pos h]
theorem sharesOf12(way:Int)(hw:1≤way∧way≤2)(H:Nat)(hH:H≤100)(l:List Int)(hl0:0<l.length)(hl8:l.length≤8)(hl:∀ x∈l,0≤x∧x≤1000000) :
  FnSpec Sy.P 161 [.int way,.sl false 1 ((l).map .int),.int H] [.int way,.sl false 1 ((l).map .int),.int H] (.sl true 1 ((cnts l.length ((srtP (pts way H 0 l)).take H)).map .int)):=by
 have hb:=sum_take_b hl8 hl
 have hpl:(pts way H 0 l).length=H*l.length:=pts_len way H 0 l
 have hSl:(srtP (pts way H 0 l)).length=H*l.length:=by rw [srt_len,hpl]
 have hSH:H≤(srtP (pts way H 0 l)).length:=by rw [hSl];exact Nat.le_mul_of_pos_right H hl0
 have hmul:H*l.length≤800:=Nat.mul_le_mul hH hl8
 have hok:=pts_ok hw hH hl
 have hS:=sortStable_spec (pts way H 0 l) hok (pts_lx hw.1 H 0 l) (by omega)
 have hnx:=fun t s (ht:t<H) hs=>next_part hw hl hH (t:=t) (s:=s) ht hs
 have e0:List.replicate l.length (0:Int)=cnts l.length ((srtP (pts way H 0 l)).take 0):=(cnts_nil _).symm
 have hZl:(List.replicate l.length (0:Int)).length=l.length:=List.length_replicate
 have hZ:=fun k (h:k<l.length)=>rep_get h
 refine enT Tryz.func161 Tryz.ntmps161 fun v0=>?_
 repeat' first|refine w9x ?_|(refine w9c ?_ ?_<;>intro _<;>try exact w9o)|fail
 refine CW.loop (fun k:Nat=>[(0,.av (.int (way))),(1,.av (.sl false 1 ((l).map .int))),(2,.av (.int (H))),(7,.av (.sl true 1 ((List.replicate l.length 0).map .int))),(8,.av (.int ((l.take k).sum))),(23,.av (.sl false 1 ((l).map .int))),(24,.av (.int (l.length))),(25,.av (.int (k)))]) (fun k=>k≤l.length) (fun k=>l.length-k) (0) ?_ (w9a) ?_
 ·exact Nat.zero_le _
 intro k hk
 by_cases hlt:k<l.length
 ·have hx:l[k]?=some l[k]:=List.getElem?_eq_getElem hlt
  have hsn:=sum_next hlt
  have hb1:=hb k
  have hb2:=hb (k+1)
  generalize l[k]=x at *
  generalize List.replicate l.length (0:Int)=Z at *
  generalize (l.take k).sum=s at *
  repeat' first|refine w9x ?_|(refine w9c ?_ ?_<;>intro _<;>try exact w9o)|fail
  all_goals try exact w9o
  refine⟨k+1,?_,w9n,w9a⟩
  omega
 ·obtain rfl:k=l.length:=by omega
  have hA:=hb l.length
  generalize (l.take l.length).sum=A at *
  repeat' first|refine w9x ?_|(refine w9c ?_ ?_<;>intro _<;>try exact w9o)|fail
  all_goals try exact w9o
  refine CW.leS (x:=.nil) 11 rfl (AV.le.nil (o:=true) (c:=3)) ?_
  refine CW.loop (fun i:Nat=>[(0,.av (.int (way))),(1,.av (.sl false 1 ((l).map .int))),(2,.av (.int (H))),(7,.av (.sl true 1 ((List.replicate l.length 0).map .int))),(8,.av (.int (A))),(11,.av (ptO (pts way H 0 (l.take i)))),(33,.av (.sl false 1 ((l).map .int))),(34,.av (.int (l.length))),(35,.av (.int (i)))]) (fun i=>i≤l.length) (fun i=>l.length-i) (0) ?_ (w9a) ?_
  ·exact Nat.zero_le _
  intro i hi
  by_cases hil:i<l.length
  ·have hx:l[i]?=some l[i]:=List.getElem?_eq_getElem hil
   have htk:l.take (i+1)=l.take i++[l[i]]:=(List.take_append_getElem hil).symm
   have hti:(l.take i).length=i:=by rw [List.length_take];omega
   have e1:pts way H 0 (l.take (i+1))=pts way H 0 (l.take i)++pl way H i l[i]:=by rw [htk,pts_snoc,hti,Nat.zero_add]
   have e2:pts way H 0 (l.take i)=pts way H 0 (l.take i)++pl way 0 i l[i]:=by simp [pl]
   have hLl:(pts way H 0 (l.take i)).length≤800:=by rw [pts_len,hti];exact Nat.le_trans (Nat.mul_le_mul hH (show i≤8 by omega)) (by decide)
   generalize l[i]=x at *
   generalize List.replicate l.length (0:Int)=Z at *
   generalize pts way H 0 (l.take i)=L at *
   repeat' first|refine w9x ?_|(refine w9c ?_ ?_<;>intro _<;>try exact w9o)|fail
   all_goals try exact w9o
   refine CW.loop (fun k:Nat=>[(0,.av (.int (way))),(1,.av (.sl false 1 ((l).map .int))),(2,.av (.int (H))),(7,.av (.sl true 1 ((Z).map .int))),(8,.av (.int (A))),(11,.av (ptO (L++pl way k i x))),(12,.av (.int (i))),(13,.av (.int (x))),(33,.av (.sl false 1 ((l).map .int))),(34,.av (.int (l.length))),(35,.av (.int (i))),(65,.av (.int (H))),(66,.av (.int (k)))]) (fun k=>k≤H) (fun k=>H-k) (0) ?_ (w9a) ?_
   ·exact Nat.zero_le _
   intro k hk
   by_cases hkH:k<H
   ·have e3:(L++pl way k i x)++[((i:Int),x,way*(k:Int)+1)]=L++pl way (k+1) i x:=by rw [pl_succ,List.append_assoc]
    have hwk:=wayB hw (u:=k) (by omega)
    have hll:(L++pl way k i x).length≤1000:=by rw [List.length_append,pl_len];omega
    generalize L++pl way k i x=W at *
    have e4:TV.av (.sl true 3 (W.map ptA++[.agg [.int (i:Int),.int x,.int (way*(k:Int)+1)]]))=.av (ptO (L++pl way (k+1) i x)):=by rw [← e3];simp only [ptO,List.map_append];rfl
    repeat' first|refine w9x ?_|(refine w9c ?_ ?_<;>intro _<;>try exact w9o)|fail
    all_goals try exact w9o
    refine⟨k+1,?_,w9n,by(repeat' (first|exact w9b|refine And.intro ?_ ?_|exact e4))⟩
    omega
   ·obtain rfl:k=H:=by omega
    rw [← e1]
    repeat' first|refine w9x ?_|(refine w9c ?_ ?_<;>intro _<;>try exact w9o)|fail
    all_goals try exact w9o
    refine⟨i+1,?_,w9n,w9a⟩
    omega
  ·obtain rfl:i=l.length:=by omega
   rw [List.take_length]
   have hmapS:∀ p∈srtP (pts way H 0 l),True:=fun _ _=>trivial
   generalize pts way H 0 l=L at *
   generalize srtP L=S at *
   generalize List.replicate l.length (0:Int)=Z at *
   repeat' first|(refine J.callM1 hS rfl rfl rfl rfl rfl (.cons cmpP_argM .nil) NoShI.out NoShI.out ?_)|refine w9x ?_|(refine w9c ?_ ?_<;>intro _<;>try exact w9o)|fail
   all_goals try exact w9o
   refine CW.loop (fun k:Nat=>[(2,.av (.int (H))),(84,.ref 7),(7,.av (.sl true 1 ((Z).map .int))),(11,.av (ptO S)),(15,.av (.int (H))),(85,.av (.int (l.length))),(86,.av (.int (k)))]) (fun k=>k≤l.length) (fun k=>l.length-k) (0) ?_ (w9a) ?_
   ·exact Nat.zero_le _
   intro k hk
   by_cases hkl:k<l.length
   ·have hz:=hZ k hkl
    repeat' first|refine w9x ?_|(refine w9c ?_ ?_<;>intro _<;>try exact w9o)|fail
    all_goals try exact w9o
    refine⟨k+1,?_,w9n,w9a⟩
    omega
   ·obtain rfl:k=l.length:=by omega
    have hTl:(S.take H).length=H:=by rw [List.length_take];omega
    repeat' first|(refine J.freezeO 11 rfl rfl (sh_map (g:=ptA) (fun _=>rfl)) rfl ?_)|refine w9x ?_|(refine w9c ?_ ?_<;>intro _<;>try exact w9o)|fail
    all_goals try exact w9o
    refine CW.loop (fun j:Nat=>[(7,.av (.sl true 1 ((cnts l.length (S.take j)).map .int))),(96,.av (.sl false 3 ((S.take H).map ptA))),(97,.av (.int (H))),(98,.av (.int (j)))]) (fun j=>j≤H) (fun j=>H-j) (0) ?_ (by(repeat' (first|exact w9b|refine And.intro ?_ ?_|exact int_congr (by rw [show((H:Int)).toNat=H from rfl,hTl])))) ?_
    ·exact Nat.zero_le _
    intro j hj
    by_cases hjH:j<H
    ·have hst:S[j]?=some S[j]:=List.getElem?_eq_getElem (by omega)
     obtain⟨w,hwl,hsw,_⟩:=hnx j _ hjH hst
     have htk:S.take (j+1)=S.take j++[S[j]]:=(List.take_append_getElem (by omega)).symm
     have hcn:(cnts l.length (S.take j)).set w ((cw (S.take j) w:Int)+1)=cnts l.length (S.take (j+1)):=by
      rw [htk];exact(cnts_snoc (by rw [hsw]) hwl).symm
     have hg:=cnts_get (S:=S.take j) hwl
     have hcl:=cnts_len l.length (S.take j)
     have hcb:cw (S.take j) w≤100:=by have:=cw_le (S.take j) w;rw [List.length_take] at this;omega
     have hTj:(S.take H)[j]?=some ((w:Int),l.getD w 0,way*((cw (S.take j) w:Nat):Int)+1):=by rw [List.getElem?_take,if_pos hjH,hst,hsw]
     generalize way*((cw (S.take j) w:Nat):Int)+1=pb at *
     generalize l.getD w 0=pq at *
     generalize cw (S.take j) w=u at *
     generalize cnts l.length (S.take j)=C at *
     repeat' first|refine w9x ?_|(refine w9c ?_ ?_<;>intro _<;>try exact w9o)|fail
     all_goals try exact w9o
     refine⟨j+1,?_,w9n,w9a⟩
     omega
    ·obtain rfl:j=H:=by omega
     repeat' first|refine w9x ?_|(refine w9c ?_ ?_<;>intro _<;>try exact w9o)|fail
     all_goals exact w9e
end Go.Proofs.YtkkcnppgcnmikaaGreatDoor
