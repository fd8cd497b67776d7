/- Seats by greatest rests: the plain law, and the reference's walk. -/
import Derived.Test.YtkkcnppgcnmikaaGreatDoorAec
import Derived.Test.YtkkcnppgcnmikaaGreatDoorAdh
namespace Go.Proofs.YtkkcnppgcnmikaaGreatDoor
open Go FM Go.Proofs
set_option maxRecDepth 10000
set_option maxHeartbeats 3200000
set_option linter.all false
/-! ### whole seats and rests -/
abbrev qS(H A x:Int):Int:=(x*H).tdiv A
abbrev mS(H A x:Int):Int:=x*H-(x*H).tdiv A*A
theorem qm_ok{H A x:Int}(hA:0<A)(hH:0≤H∧H≤100)(hx:0≤x∧x≤1000000):(0≤x*H∧x*H≤100000000)∧(0≤qS H A x∧qS H A x≤100000000)∧(0≤qS H A x*A∧qS H A x*A≤100000000)∧(0≤mS H A x∧mS H A x<A)∧(x*H).tmod A=mS H A x:=by
 have e1:=Int.mul_nonneg hx.1 hH.1
 have e2:x*H≤1000000*100:=Int.mul_le_mul hx.2 hH.2 hH.1 (by omega)
 have e3:=Int.tmod_def (x*H) A
 have e4:=Int.tmod_nonneg A e1
 have e5:=Int.tmod_lt_of_pos (x*H) hA
 have e6:0≤(x*H).tdiv A:=Int.tdiv_nonneg e1 (by omega)
 rw [Int.mul_comm A] at e3
 have e7:(x*H).tdiv A*1≤(x*H).tdiv A*A:=Int.mul_le_mul_of_nonneg_left (by omega) e6
 unfold qS mS
 rw [Int.mul_one] at e7
 omega
theorem qm_sum(H A:Int):∀ l:List Int,(l.map (qS H A)).sum*A+(l.map (mS H A)).sum=l.sum*H
 | []=>by simp
 | x::l=>by
  have ih:=qm_sum H A l
  rw [List.map_cons,List.map_cons,List.sum_cons,List.sum_cons,List.sum_cons,Int.add_mul,Int.add_mul]
  unfold mS qS at *
  omega
theorem sum_bd{f:Int→Int}{c:Int}:∀ {l:List Int},(∀ x∈l,0≤f x∧f x≤c)→0≤(l.map f).sum∧(l.map f).sum≤c*l.length
 | [],_=>by simp
 | x::l,h=>by
  have h1:=h x (List.mem_cons_self ..)
  have h2:=sum_bd (l:=l) fun y hy=>h y (List.mem_cons_of_mem _ hy)
  rw [List.map_cons,List.sum_cons,List.length_cons,Int.natCast_add,Int.mul_add]
  omega
theorem left_ok{H:Int}{l:List Int}(hl0:0<l.length)(hH:0≤H∧H≤100)(hl:∀ x∈l,0≤x∧x≤1000000)(hA:0<l.sum):0≤H-(l.map (qS H l.sum)).sum∧H-(l.map (qS H l.sum)).sum≤l.length:=by
 have h1:=qm_sum H l.sum l
 obtain⟨h2,h3⟩:=sum_bd (f:=mS H l.sum) (c:=l.sum-1) (l:=l) fun x hx=>by have:=(qm_ok hA hH (hl x hx)).2.2.2.1;omega
 generalize (l.map (qS H l.sum)).sum=Q at *
 generalize (l.map (mS H l.sum)).sum=M at *
 generalize l.sum=A at *
 have e:(H-Q)*A=M:=by rw [Int.sub_mul,Int.mul_comm H];omega
 constructor
 ·rcases Int.lt_or_le (H-Q) 0 with c|c
  ·have:=Int.mul_neg_of_neg_of_pos c hA
   omega
  ·exact c
 ·rcases Int.lt_or_le (l.length:Int) (H-Q) with c|c
  ·exfalso
   have h4:(l.length:Int)*A<(H-Q)*A:=Int.mul_lt_mul_of_pos_right c hA
   have h5:(A-1)*(l.length:Int)=(l.length:Int)*A-l.length:=by rw [Int.sub_mul,Int.mul_comm A];omega
   omega
  ·exact c
/-! ### what each has, above a base -/
def cntB(B:List Int)(S:List Pt):List Int:=(List.range B.length).map fun i=>B.getD i 0+(cw S i:Int)
theorem cntB_len(B:List Int)(S:List Pt):(cntB B S).length=B.length:=by simp [cntB]
theorem cntB_get{B:List Int}{S:List Pt}{i:Nat}(h:i<B.length):(cntB B S)[i]?=some (B.getD i 0+(cw S i:Int)):=by simp [cntB,h]
theorem cntB_nil(B:List Int):cntB B []=B:=by
 apply List.ext_getElem?
 intro j
 by_cases h:j<B.length
 ·rw [cntB_get h,cw_nil,List.getD_eq_getElem?_getD,List.getElem?_eq_getElem h];simp
 ·rw [List.getElem?_eq_none (by rw [cntB_len];omega),List.getElem?_eq_none (by omega)]
theorem cntB_snoc{B:List Int}{S:List Pt}{p:Pt}{w:Nat}(hp:p.1=(w:Int))(hw:w<B.length):cntB B (S++[p])=(cntB B S).set w (B.getD w 0+(cw S w:Int)+1):=by
 apply List.ext_getElem?
 intro j
 rw [List.getElem?_set,cntB_len]
 by_cases h:j<B.length
 ·rw [cntB_get h,cw_snoc,hp]
  by_cases e:w=j
  ·subst e;simp [hw];omega
  ·rw [if_neg (by omega),if_neg e,cntB_get h];simp
 ·rw [List.getElem?_eq_none (by rw [cntB_len];omega),if_neg (by omega),List.getElem?_eq_none (by rw [cntB_len];omega)]
def rstL(l:List Int)(T:List Pt):List Int:=(List.range l.length).map fun j=>rs3 l T j
theorem rstL_len(l:List Int)(T:List Pt):(rstL l T).length=l.length:=by simp [rstL]
theorem rstL_get{l:List Int}{T:List Pt}{i:Nat}(h:i<l.length):(rstL l T)[i]?=some (rs3 l T i):=by simp [rstL,h]
theorem rstL_nil(l:List Int):rstL l []=l:=by
 apply List.ext_getElem?
 intro j
 by_cases h:j<l.length
 ·rw [rstL_get h];unfold rs3;rw [cw_nil,if_pos rfl,List.getD_eq_getElem?_getD,List.getElem?_eq_getElem h];simp
 ·rw [List.getElem?_eq_none (by rw [rstL_len];omega),List.getElem?_eq_none (by omega)]
theorem rstL_snoc{l:List Int}{T:List Pt}{p:Pt}{w:Nat}(hp:p.1=(w:Int))(hw:w<l.length):rstL l (T++[p])=(rstL l T).set w (-1):=by
 apply List.ext_getElem?
 intro j
 rw [List.getElem?_set,rstL_len]
 by_cases h:j<l.length
 ·rw [rstL_get h]
  unfold rs3
  rw [cw_snoc,hp]
  by_cases e:w=j
  ·subst e;simp [hw]
  ·rw [if_neg (show ¬ (w:Int)=(j:Int) by omega),Nat.add_zero,if_neg e,rstL_get h];rfl
 ·rw [List.getElem?_eq_none (by rw [rstL_len];omega),if_neg (by omega),List.getElem?_eq_none (by rw [rstL_len];omega)]
def pfx(f:Int→Int)(l:List Int)(i:Nat):List Int:=(l.take i).map f++List.replicate (l.length-i) 0
theorem pfx_zero(f:Int→Int)(l:List Int):List.replicate l.length 0=pfx f l 0:=by simp [pfx]
theorem pfx_end(f:Int→Int)(l:List Int):pfx f l l.length=l.map f:=by simp [pfx]
theorem pfx_len{f:Int→Int}{l:List Int}{i:Nat}(h:i≤l.length):(pfx f l i).length=l.length:=by simp [pfx];omega
theorem pfx_step{f:Int→Int}{l:List Int}{i:Nat}(h:i<l.length):(pfx f l i)[i]?=some 0∧(pfx f l i).set i (f l[i])=pfx f l (i+1):=by
 unfold pfx
 have h1:((l.take i).map f).length=i:=by rw [List.length_map,List.length_take];omega
 obtain⟨m,hm⟩:∃ m,l.length-i=m+1:=⟨l.length-i-1,by omega⟩
 rw [hm,List.replicate_succ]
 refine⟨by rw [List.getElem?_append_right (by omega),h1,Nat.sub_self];rfl,?_⟩
 rw [List.set_append_right _ _ (by omega),h1,Nat.sub_self,List.set_cons_zero,←List.take_append_getElem h,List.map_append,List.append_assoc,show l.length-(i+1)=m by omega];rfl
abbrev lf3(H:Nat)(l:List Int):Nat:=((H:Int)-(l.map (qS H l.sum)).sum).toNat
abbrev sr3(H:Nat)(l:List Int):List Pt:=srtP (rm3 0 (l.map (mS H l.sum)))
theorem sharesOf3(H:Nat)(hH:H≤100)(l:List Int)(hl0:0<l.length)(hl8:l.length≤8)(hl:∀ x∈l,0≤x∧x≤1000000)(hA:0<l.sum) :
  FnSpec Sy.P 161 [.int 3,.sl false 1 ((l).map .int),.int H] [.int 3,.sl false 1 ((l).map .int),.int H] (.sl true 1 ((cntB (l.map (qS H l.sum)) ((sr3 H l).take (lf3 H l))).map .int)):=by
 have hb:=sum_take_b hl8 hl
 have hA8:=hb l.length
 rw [List.take_length] at hA8
 have hqm:=fun x hx=>qm_ok (H:=H) hA (by omega) (hl x hx)
 obtain⟨hlf0,hlf1⟩:=left_ok (H:=H) hl0 (by omega) hl hA
 have hrm:∀ x∈l.map (mS H l.sum),0≤x∧x≤1000000000:=fun x hx=>by
  obtain⟨y,hy,rfl⟩:=List.mem_map.1 hx
  have:=(hqm y hy).2.2.2.1
  omega
 have hok:=rm3_ok hrm
 have hrl:(rm3 0 (l.map (mS H l.sum))).length=l.length:=by rw [rm3_len,List.length_map]
 have hS:=sortStable_spec _ hok (rm3_lx 0 (l.map (mS H l.sum))) (by omega)
 have hSl:(srtP (rm3 0 (l.map (mS H l.sum)))).length=l.length:=by rw [srt_len,hrl]
 have hnx:=fun t s hs=>next_rm3 (t:=t) (s:=s) hrm hs
 rw [List.length_map] at hnx
 have e0:=pfx_zero (qS H l.sum) l
 have e9:=pfx_end (qS H l.sum) l
 have hqs:∀ k,0≤((l.map (qS H l.sum)).take k).sum∧((l.map (qS H l.sum)).take k).sum≤800000000:=fun k=>by
  rw [← List.map_take]
  have h1:=sum_bd (f:=qS H l.sum) (c:=100000000) (l:=l.take k) fun x hx=>(hqm x (List.mem_of_mem_take hx)).2.1
  have:(l.take k).length≤8:=by rw [List.length_take];omega
  omega
 have hZl:(l.map (qS H l.sum)).length=l.length:=List.length_map ..
 have hc0:l.map (qS H l.sum)=cntB (l.map (qS H l.sum)) ((srtP (rm3 0 (l.map (mS H l.sum)))).take 0):=(cntB_nil _).symm
 refine enT Tryz.func161 Tryz.ntmps161 fun v0=>?_
 repeat' first|refine w9x ?_|(refine w9c ?_ ?_<;>intro _<;>try exact w9o)|fail
 refine CW.loop (fun k:Nat=>[(0,.av (.int (3))),(1,.av (.sl false 1 ((l).map .int))),(2,.av (.int (H))),(7,.av (.sl true 1 ((List.replicate l.length 0).map .int))),(8,.av (.int ((l.take k).sum))),(23,.av (.sl false 1 ((l).map .int))),(24,.av (.int (l.length))),(25,.av (.int (k)))]) (fun k=>k≤l.length) (fun k=>l.length-k) (0) ?_ (w9a) ?_
 ·exact Nat.zero_le _
 intro k hk
 by_cases hlt:k<l.length
 ·have hx:l[k]?=some l[k]:=List.getElem?_eq_getElem hlt
  have hsn:=sum_next hlt
  have hb1:=hb k
  have hb2:=hb (k+1)
  generalize l[k]=x at *
  generalize (l.take k).sum=s at *
  repeat' first|refine w9x ?_|(refine w9c ?_ ?_<;>intro _<;>try exact w9o)|fail
  all_goals try exact w9o
  refine⟨k+1,?_,w9n,w9a⟩
  omega
 ·obtain rfl:k=l.length:=by omega
  rw [List.take_length]
  have eA:l.sum=l.sum:=rfl
  generalize hAe:l.sum=A at *
  repeat' first|refine w9x ?_|(refine w9c ?_ ?_<;>intro _<;>try exact w9o)|fail
  all_goals try exact w9o
  refine CW.leS (x:=.nil) 11 rfl (AV.le.nil (o:=true) (c:=3)) ?_
  refine CW.loop (fun i:Nat=>[(0,.av (.int (3))),(1,.av (.sl false 1 ((l).map .int))),(2,.av (.int (H))),(7,.av (.sl true 1 ((pfx (qS H A) l i).map .int))),(8,.av (.int (A))),(11,.av (ptO (rm3 0 ((l.take i).map (mS H A))))),(33,.av (.sl false 1 ((l).map .int))),(34,.av (.int (l.length))),(35,.av (.int (i)))]) (fun i=>i≤l.length) (fun i=>l.length-i) (0) ?_ (w9a) ?_
  ·exact Nat.zero_le _
  intro i hi
  by_cases hil:i<l.length
  ·have hx:l[i]?=some l[i]:=List.getElem?_eq_getElem hil
   have htk:l.take (i+1)=l.take i++[l[i]]:=(List.take_append_getElem hil).symm
   have hti:((l.take i).map (mS H A)).length=i:=by rw [List.length_map,List.length_take];omega
   have e1:rm3 0 ((l.take (i+1)).map (mS H A))=rm3 0 ((l.take i).map (mS H A))++[((i:Int),mS H A l[i],1)]:=by rw [htk,List.map_append,List.map_singleton,rm3_snoc,hti,Nat.zero_add]
   have hLl:(rm3 0 ((l.take i).map (mS H A))).length≤8:=by rw [rm3_len,hti];omega
   obtain⟨f1,f2⟩:=pfx_step (f:=qS H A) hil
   have f3:=pfx_len (f:=qS H A) (l:=l) hi
   have f4:((pfx (qS H A) l i).set i (qS H A l[i]))[i]?=some (qS H A l[i]):=List.getElem?_set_self (by omega)
   obtain⟨g1,g2,g3,g4,g5⟩:=hqm _ (List.getElem_mem hil)
   generalize l[i]=x at *
   unfold qS mS at *
   generalize rm3 0 ((l.take i).map fun x=>x*(H:Int)-(x*(H:Int)).tdiv A*A)=L at *
   have e4:TV.av (.sl true 3 (L.map ptA++[.agg [.int (i:Int),.int (x*(H:Int)-(x*(H:Int)).tdiv A*A),.int 1]]))=.av (ptO (rm3 0 ((l.take (i+1)).map fun x=>x*(H:Int)-(x*(H:Int)).tdiv A*A))):=by rw [e1];simp only [ptO,List.map_append];rfl
   repeat' first|refine w9x ?_|(refine w9c ?_ ?_<;>intro _<;>try exact w9o)|fail
   all_goals try exact w9o
   refine⟨i+1,?_,w9n,by(repeat' (first|exact w9b|refine And.intro ?_ ?_|exact e4))⟩
   omega
  ·obtain rfl:i=l.length:=by omega
   rw [List.take_length,e9]
   unfold lf3 sr3 at *
   rw [hAe] at *
   obtain⟨lf,hlf⟩:∃ lf:Nat,(H:Int)-(l.map (qS H A)).sum=lf:=⟨((H:Int)-(l.map (qS H A)).sum).toNat,by omega⟩
   rw [hlf] at hlf0 hlf1 ⊢
   rw [Int.toNat_natCast]
   generalize rm3 0 (l.map (mS H A))=L at *
   generalize srtP L=S at *
   have hZs:∀ k (h:k<l.length),(l.map (qS H A))[k]?=some ((l.map (qS H A)).getD k 0)∧((l.map (qS H A)).take (k+1)).sum=((l.map (qS H A)).take k).sum+(l.map (qS H A)).getD k 0∧0≤(l.map (qS H A)).getD k 0∧(l.map (qS H A)).getD k 0≤100000000:=fun k h=>by
    have h1:(l.map (qS H A))[k]?=some (l.map (qS H A))[k]:=List.getElem?_eq_getElem (by omega)
    have h2:=sum_next (l:=l.map (qS H A)) (k:=k) (by omega)
    have h3:=(hqm _ (List.getElem_mem h)).2.1
    rw [List.getD_eq_getElem?_getD,h1,Option.getD_some]
    exact⟨rfl,h2,by rw [List.getElem_map];exact h3⟩
   have hZt:((l.map (qS H A)).take l.length).sum=(l.map (qS H A)).sum:=by rw [List.take_of_length_le (by omega)]
   generalize l.map (qS H A)=Z at *
   repeat' first|(refine J.callM1 hS rfl rfl rfl rfl rfl (.cons cmpP_argM .nil) NoShI.out NoShI.out ?_)|refine w9x ?_|(refine w9c ?_ ?_<;>intro _<;>try exact w9o)|fail
   all_goals try exact w9o
   refine CW.loop (fun k:Nat=>[(2,.av (.int (H))),(84,.ref 7),(7,.av (.sl true 1 ((Z).map .int))),(11,.av (ptO S)),(15,.av (.int ((H:Int)-(Z.take k).sum))),(85,.av (.int (l.length))),(86,.av (.int (k)))]) (fun k=>k≤l.length) (fun k=>l.length-k) (0) ?_ (by(repeat' (first|exact w9b|refine And.intro ?_ ?_|exact int_congr (by rw [hZl])|exact int_congr (by simp)))) ?_
   ·exact Nat.zero_le _
   intro k hk
   by_cases hkl:k<l.length
   ·obtain⟨hz1,hz2,hz3⟩:=hZs k hkl
    have hb1:=hqs k
    have hb2:=hqs (k+1)
    generalize Z.getD k 0=z at *
    generalize (Z.take k).sum=s at *
    repeat' first|refine w9x ?_|(refine w9c ?_ ?_<;>intro _<;>try exact w9o)|fail
    all_goals try exact w9o
    refine⟨k+1,?_,w9n,w9a⟩
    omega
   ·obtain rfl:k=l.length:=by omega
    rw [hZt,hlf]
    have hTl:(S.take lf).length=lf:=by rw [List.length_take];omega
    repeat' first|(refine J.freezeO 11 rfl rfl (sh_map (g:=ptA) (fun _=>rfl)) rfl ?_)|refine w9x ?_|(refine w9c ?_ ?_<;>intro _<;>try exact w9o)|fail
    all_goals try exact w9o
    refine CW.loop (fun j:Nat=>[(7,.av (.sl true 1 ((cntB Z (S.take j)).map .int))),(96,.av (.sl false 3 ((S.take lf).map ptA))),(97,.av (.int (lf))),(98,.av (.int (j)))]) (fun j=>j≤lf) (fun j=>lf-j) (0) ?_ (by(repeat' (first|exact w9b|refine And.intro ?_ ?_|exact int_congr (by rw [show((lf:Int)).toNat=lf from rfl,hTl])))) ?_
    ·exact Nat.zero_le _
    intro j hj
    by_cases hjH:j<lf
    ·have hst:S[j]?=some S[j]:=List.getElem?_eq_getElem (by omega)
     obtain⟨w,hwl,hsw,hw0,_⟩:=hnx j _ hst
     have htk:S.take (j+1)=S.take j++[S[j]]:=(List.take_append_getElem (by omega)).symm
     have hwZ:w<Z.length:=by omega
     have hcn:(cntB Z (S.take j)).set w (Z.getD w 0+(cw (S.take j) w:Int)+1)=cntB Z (S.take (j+1)):=by
      rw [htk];exact(cntB_snoc (by rw [hsw]) hwZ).symm
     have hg:=cntB_get (S:=S.take j) hwZ
     have hcl:=cntB_len Z (S.take j)
     have hzb:0≤Z.getD w 0∧Z.getD w 0≤800000000:=by
      obtain⟨h1,h2,h3⟩:=hZs w hwl
      omega
     have hTj:(S.take lf)[j]?=some ((w:Int),rs3 (l.map (mS H A)) (S.take j) w,1):=by rw [List.getElem?_take,if_pos hjH,hst,hsw]
     rw [hw0] at hcn hg
     generalize rs3 (l.map (mS H A)) (S.take j) w=pq at *
     generalize cntB Z (S.take j)=C at *
     generalize Z.getD w 0=zw at *
     repeat' first|refine w9x ?_|(refine w9c ?_ ?_<;>intro _<;>try exact w9o)|fail
     all_goals try exact w9o
     refine⟨j+1,?_,w9n,w9a⟩
     omega
    ·obtain rfl:j=lf:=by omega
     repeat' first|refine w9x ?_|(refine w9c ?_ ?_<;>intro _<;>try exact w9o)|fail
     all_goals exact w9e
theorem share_way(way H:Int)(l:List Int)(hw:way<1∨3<way):FnSpec Sy.P 154 [.int way,.sl false 1 ((l).map .int),.int H] [.int way,.sl false 1 ((l).map .int),.int H] (.tup [.nil,.int 1]):=by
 refine enT Tryz.func154 Tryz.ntmps154 fun v0=>?_
 repeat' first|refine w9x ?_|(refine w9c ?_ ?_<;>intro _<;>try exact w9o)|fail
 all_goals exact w9e
theorem share_err(way H:Int)(l:List Int)(hw:1≤way∧way≤3)(hl:l.length≤9223372036854775807)(he:peE l H≠0):FnSpec Sy.P 154 [.int way,.sl false 1 ((l).map .int),.int H] [.int way,.sl false 1 ((l).map .int),.int H] (.tup [.nil,.int (peE l H)]):=by
 have hC:=sCheck_spec l H hl
 generalize peE l H=e at *
 refine enT Tryz.func154 Tryz.ntmps154 fun v0=>?_
 repeat' first|refine w9x ?_|refine w9p (hC) ?_|(refine w9c ?_ ?_<;>intro _<;>try exact w9o)|fail
 all_goals exact w9e
theorem share12(way:Int)(hw:1≤way∧way≤2)(H:Nat)(hH:H≤100)(l:List Int)(hl0:0<l.length)(hl8:l.length≤8)(hl:∀ x∈l,0≤x∧x≤1000000)(he:peE l H=0) :
  FnSpec Sy.P 154 [.int way,.sl false 1 ((l).map .int),.int H] [.int way,.sl false 1 ((l).map .int),.int H] (.tup [.sl true 1 ((cnts l.length ((srtP (pts way H 0 l)).take H)).map .int),.int 0]):=by
 have hC:=sCheck_spec l H (by omega)
 rw [he] at hC
 have hD:=divided_spec way hw H hH l hl0 hl8 hl
 generalize cnts l.length ((srtP (pts way H 0 l)).take H)=R at *
 rcases(show way=1∨way=2 by omega) with rfl|rfl
 ·refine enT Tryz.func154 Tryz.ntmps154 fun v0=>?_
  repeat' first|refine w9x ?_|refine w9p (hC) ?_|refine w9p (hD) ?_|fail
  all_goals exact w9e
 ·refine enT Tryz.func154 Tryz.ntmps154 fun v0=>?_
  repeat' first|refine w9x ?_|refine w9p (hC) ?_|refine w9p (hD) ?_|fail
  all_goals exact w9e
theorem share3(H:Nat)(hH:H≤100)(l:List Int)(hl0:0<l.length)(hl8:l.length≤8)(hl:∀ x∈l,0≤x∧x≤1000000)(hA:0<l.sum)(he:peE l H=0) :
  FnSpec Sy.P 154 [.int 3,.sl false 1 ((l).map .int),.int H] [.int 3,.sl false 1 ((l).map .int),.int H] (.tup [.sl true 1 ((cntB (l.map (qS H l.sum)) ((sr3 H l).take (lf3 H l))).map .int),.int 0]):=by
 have hC:=sCheck_spec l H (by omega)
 rw [he] at hC
 have hb:=sum_take_b hl8 hl
 have hA8:=hb l.length
 rw [List.take_length] at hA8
 have hqm:=fun x hx=>qm_ok (H:=H) hA (by omega) (hl x hx)
 obtain⟨hlf0,hlf1⟩:=left_ok (H:=H) hl0 (by omega) hl hA
 have hrm:∀ x∈l.map (mS H l.sum),0≤x∧x≤1000000000:=fun x hx=>by
  obtain⟨y,hy,rfl⟩:=List.mem_map.1 hx
  have:=(hqm y hy).2.2.2.1
  omega
 have hrl:(rm3 0 (l.map (mS H l.sum))).length=l.length:=by rw [rm3_len,List.length_map]
 have hSl:(srtP (rm3 0 (l.map (mS H l.sum)))).length=l.length:=by rw [srt_len,hrl]
 have hnx:=fun t s hs=>next_rm3 (t:=t) (s:=s) hrm hs
 rw [List.length_map] at hnx
 have e0:=pfx_zero (qS H l.sum) l
 have e1:=pfx_zero (mS H l.sum) l
 have e9:=pfx_end (qS H l.sum) l
 have e8:=pfx_end (mS H l.sum) l
 have hqs:∀ k,0≤((l.map (qS H l.sum)).take k).sum∧((l.map (qS H l.sum)).take k).sum≤800000000:=fun k=>by
  rw [← List.map_take]
  have h1:=sum_bd (f:=qS H l.sum) (c:=100000000) (l:=l.take k) fun x hx=>(hqm x (List.mem_of_mem_take hx)).2.1
  have:(l.take k).length≤8:=by rw [List.length_take];omega
  omega
 have hZl:(l.map (qS H l.sum)).length=l.length:=List.length_map ..
 have hMl:(l.map (mS H l.sum)).length=l.length:=List.length_map ..
 have hc0:l.map (qS H l.sum)=cntB (l.map (qS H l.sum)) ((srtP (rm3 0 (l.map (mS H l.sum)))).take 0):=(cntB_nil _).symm
 have hr0:l.map (mS H l.sum)=rstL (l.map (mS H l.sum)) ((srtP (rm3 0 (l.map (mS H l.sum)))).take 0):=(rstL_nil _).symm
 refine enT Tryz.func154 Tryz.ntmps154 fun v0=>?_
 repeat' first|refine w9x ?_|refine w9p (hC) ?_|(refine w9c ?_ ?_<;>intro _<;>try exact w9o)|fail
 all_goals try exact w9o
 refine CW.loop (fun k:Nat=>[(1,.av (.sl false 1 ((l).map .int))),(2,.av (.int (H))),(9,.av (.int ((l.take k).sum))),(42,.av (.sl false 1 ((l).map .int))),(43,.av (.int (l.length))),(44,.av (.int (k)))]) (fun k=>k≤l.length) (fun k=>l.length-k) (0) ?_ (w9a) ?_
 ·exact Nat.zero_le _
 intro k hk
 by_cases hlt:k<l.length
 ·have hx:l[k]?=some l[k]:=List.getElem?_eq_getElem hlt
  have hsn:=sum_next hlt
  have hb1:=hb k
  have hb2:=hb (k+1)
  generalize l[k]=x at *
  generalize (l.take k).sum=s at *
  repeat' first|refine w9x ?_|(refine w9c ?_ ?_<;>intro _<;>try exact w9o)|fail
  all_goals try exact w9o
  refine⟨k+1,?_,w9n,w9a⟩
  omega
 ·obtain rfl:k=l.length:=by omega
  rw [List.take_length]
  generalize hAe:l.sum=A at *
  repeat' first|refine w9x ?_|(refine w9c ?_ ?_<;>intro _<;>try exact w9o)|fail
  all_goals try exact w9o
  refine CW.loop (fun i:Nat=>[(1,.av (.sl false 1 ((l).map .int))),(2,.av (.int (H))),(9,.av (.int (A))),(12,.av (.sl true 1 ((pfx (qS H A) l i).map .int))),(13,.av (.sl true 1 ((pfx (mS H A) l i).map .int))),(14,.av (.int ((H:Int)-((l.map (qS H A)).take i).sum))),(59,.av (.sl false 1 ((l).map .int))),(60,.av (.int (l.length))),(61,.av (.int (i)))]) (fun i=>i≤l.length) (fun i=>l.length-i) (0) ?_ (by(repeat' (first|exact w9b|refine And.intro ?_ ?_|exact int_congr (by simp)))) ?_
  ·exact Nat.zero_le _
  intro i hi
  by_cases hil:i<l.length
  ·have hx:l[i]?=some l[i]:=List.getElem?_eq_getElem hil
   obtain⟨f1,f2⟩:=pfx_step (f:=qS H A) hil
   have f3:=pfx_len (f:=qS H A) (l:=l) hi
   have f4:((pfx (qS H A) l i).set i (qS H A l[i]))[i]?=some (qS H A l[i]):=List.getElem?_set_self (by omega)
   obtain⟨k1,k2⟩:=pfx_step (f:=mS H A) hil
   have k3:=pfx_len (f:=mS H A) (l:=l) hi
   obtain⟨g1,g2,g3,g4,g5⟩:=hqm _ (List.getElem_mem hil)
   rw [← g5] at k2
   have hsn:((l.map (qS H A)).take (i+1)).sum=((l.map (qS H A)).take i).sum+qS H A l[i]:=by rw [sum_next (by omega),List.getElem_map]
   have hb1:=hqs i
   have hb2:=hqs (i+1)
   generalize hQ:((l.map (qS H A)).take i).sum=Q at *
   generalize hQ':((l.map (qS H A)).take (i+1)).sum=Q' at *
   generalize l[i]=x at *
   rw [f2] at f4
   generalize hC1:pfx (qS H A) l (i+1)=C1 at *
   generalize hM1:pfx (mS H A) l (i+1)=M1 at *
   generalize pfx (qS H A) l i=C at *
   generalize pfx (mS H A) l i=M at *
   unfold qS at f2 f4 hsn g2 g3
   repeat' first|refine w9z ?_|(refine w9c ?_ ?_<;>intro _<;>try exact w9o)|fail
   all_goals try exact w9o
   refine CW.cut [(1,.av (.sl false 1 ((l).map .int))),(2,.av (.int (H))),(9,.av (.int (A))),(12,.av (.sl true 1 ((C1).map .int))),(13,.av (.sl true 1 ((M1).map .int))),(14,.av (.int ((H:Int)-Q))),(15,.av (.int (i))),(16,.av (.int (x))),(59,.av (.sl false 1 ((l).map .int))),(60,.av (.int (l.length))),(61,.av (.int (i)))] ?_ ?_
   ·refine CW.reg0 18 rfl [false,false,false,false,false,false,false,false,false,false,false,false,false,false,false,false,false,false] (by kernel_rfl) rfl ?_
    refine w9jt 0 ?_
    refine w9jt 1 ?_
    refine w9jt 2 ?_
    refine w9jt 3 ?_
    refine w9jt 4 ?_
    refine w9jt 5 ?_
    refine w9jt 7 ?_
    refine w9jt 9 ?_
    refine w9jt 10 ?_
    refine w9jt 12 ?_
    refine w9j2 6 11 ?_ ?_
    ·repeat' first|refine w9j ?_|fail
     refine w9j2 8 11 ?_ ?_
     ·repeat' first|refine w9j ?_|fail
      apply JA.takeW (i:=14);rfl;rfl;kernel_rfl;(first|((with_reducible apply w_add)<;>exact w9l)|((with_reducible apply w_sub)<;>exact w9l)|((with_reducible apply w_ixaO)<;>exact w9l))
      refine w9j2 11 15 ?_ ?_
      ·repeat' first|refine w9j ?_|fail
       refine w9j2 13 15 ?_ ?_
       ·repeat' first|refine w9j ?_|fail
        refine w9j1 15 ?_
        repeat' first|refine w9j ?_|fail
        refine w9j1 16 ?_
        repeat' first|refine w9j ?_|fail
        refine w9j1 17 ?_
        repeat' first|refine w9j ?_|fail
        refine JA.done (by kernel_rfl) ?_
        exact⟨rfl,w9a⟩
       ·repeat' first|refine w9j ?_|fail
        refine w9j1 13 ?_
        repeat' first|refine w9j ?_|fail
        refine w9j1 16 ?_
        repeat' first|refine w9j ?_|fail
        refine w9j1 17 ?_
        repeat' first|refine w9j ?_|fail
        refine JA.done (by kernel_rfl) ?_
        exact⟨rfl,w9a⟩
      ·repeat' first|refine w9j ?_|fail
       refine w9j1 11 ?_
       repeat' first|refine w9j ?_|fail
       refine w9j1 13 ?_
       repeat' first|refine w9j ?_|fail
       refine w9j1 16 ?_
       repeat' first|refine w9j ?_|fail
       refine w9j1 17 ?_
       repeat' first|refine w9j ?_|fail
       refine JA.done (by kernel_rfl) ?_
       exact⟨rfl,w9a⟩
     ·repeat' first|refine w9j ?_|fail
      refine w9j2 8 13 ?_ ?_
      ·repeat' first|refine w9j ?_|fail
       apply JA.takeW (i:=14);rfl;rfl;kernel_rfl;(first|((with_reducible apply w_add)<;>exact w9l)|((with_reducible apply w_sub)<;>exact w9l)|((with_reducible apply w_ixaO)<;>exact w9l))
       refine w9j2 13 15 ?_ ?_
       ·repeat' first|refine w9j ?_|fail
        refine w9j1 15 ?_
        repeat' first|refine w9j ?_|fail
        refine w9j1 16 ?_
        repeat' first|refine w9j ?_|fail
        refine w9j1 17 ?_
        repeat' first|refine w9j ?_|fail
        refine JA.done (by kernel_rfl) ?_
        exact⟨rfl,w9a⟩
       ·repeat' first|refine w9j ?_|fail
        refine w9j1 13 ?_
        repeat' first|refine w9j ?_|fail
        refine w9j1 16 ?_
        repeat' first|refine w9j ?_|fail
        refine w9j1 17 ?_
        repeat' first|refine w9j ?_|fail
        refine JA.done (by kernel_rfl) ?_
        exact⟨rfl,w9a⟩
      ·repeat' first|refine w9j ?_|fail
       refine w9j1 8 ?_
       repeat' first|refine w9j ?_|fail
       refine w9j1 14 ?_
       repeat' first|refine w9j ?_|fail
       refine w9j1 15 ?_
       repeat' first|refine w9j ?_|fail
       refine w9j1 16 ?_
       repeat' first|refine w9j ?_|fail
       refine w9j1 17 ?_
       repeat' first|refine w9j ?_|fail
       refine JA.done (by kernel_rfl) ?_
       exact⟨rfl,w9a⟩
    ·repeat' first|refine w9j ?_|fail
     refine w9j2 6 13 ?_ ?_
     ·repeat' first|refine w9j ?_|fail
      refine w9j2 8 13 ?_ ?_
      ·repeat' first|refine w9j ?_|fail
       apply JA.takeW (i:=14);rfl;rfl;kernel_rfl;(first|((with_reducible apply w_add)<;>exact w9l)|((with_reducible apply w_sub)<;>exact w9l)|((with_reducible apply w_ixaO)<;>exact w9l))
       refine w9j2 13 15 ?_ ?_
       ·repeat' first|refine w9j ?_|fail
        refine w9j1 15 ?_
        repeat' first|refine w9j ?_|fail
        refine w9j1 16 ?_
        repeat' first|refine w9j ?_|fail
        refine w9j1 17 ?_
        repeat' first|refine w9j ?_|fail
        refine JA.done (by kernel_rfl) ?_
        exact⟨rfl,w9a⟩
       ·repeat' first|refine w9j ?_|fail
        refine w9j1 13 ?_
        repeat' first|refine w9j ?_|fail
        refine w9j1 16 ?_
        repeat' first|refine w9j ?_|fail
        refine w9j1 17 ?_
        repeat' first|refine w9j ?_|fail
        refine JA.done (by kernel_rfl) ?_
        exact⟨rfl,w9a⟩
      ·repeat' first|refine w9j ?_|fail
       refine w9j1 8 ?_
       repeat' first|refine w9j ?_|fail
       refine w9j1 14 ?_
       repeat' first|refine w9j ?_|fail
       refine w9j1 15 ?_
       repeat' first|refine w9j ?_|fail
       refine w9j1 16 ?_
       repeat' first|refine w9j ?_|fail
       refine w9j1 17 ?_
       repeat' first|refine w9j ?_|fail
       refine JA.done (by kernel_rfl) ?_
       exact⟨rfl,w9a⟩
     ·repeat' first|refine w9j ?_|fail
      refine w9j1 6 ?_
      repeat' first|refine w9j ?_|fail
      refine w9j1 8 ?_
      repeat' first|refine w9j ?_|fail
      refine w9j1 14 ?_
      repeat' first|refine w9j ?_|fail
      refine w9j1 15 ?_
      repeat' first|refine w9j ?_|fail
      refine w9j1 16 ?_
      repeat' first|refine w9j ?_|fail
      refine w9j1 17 ?_
      repeat' first|refine w9j ?_|fail
      refine JA.done (by kernel_rfl) ?_
      exact⟨rfl,w9a⟩
   repeat' first|refine w9x ?_|(refine w9c ?_ ?_<;>intro _<;>try exact w9o)|fail
   all_goals try exact w9o
   refine⟨i+1,?_,w9n,w9a⟩
   omega
  ·obtain rfl:i=l.length:=by omega
   rw [e9,e8]
   unfold lf3 sr3 at *
   rw [hAe] at *
   obtain⟨lf,hlf⟩:∃ lf:Nat,(H:Int)-(l.map (qS H A)).sum=lf:=⟨((H:Int)-(l.map (qS H A)).sum).toNat,by omega⟩
   have hZt:((l.map (qS H A)).take l.length).sum=(l.map (qS H A)).sum:=by rw [List.take_of_length_le (by omega)]
   rw [hZt]
   rw [hlf] at hlf0 hlf1 ⊢
   rw [Int.toNat_natCast]
   have hZb:∀ w,w<l.length→0≤(l.map (qS H A)).getD w 0∧(l.map (qS H A)).getD w 0≤100000000:=fun w hw=>by
    have h1:(l.map (qS H A))[w]?=some (qS H A l[w]):=by rw [List.getElem?_map,List.getElem?_eq_getElem hw];rfl
    rw [List.getD_eq_getElem?_getD,h1,Option.getD_some]
    exact(hqm _ (List.getElem_mem hw)).2.1
   generalize rm3 0 (l.map (mS H A))=L at *
   generalize srtP L=S at *
   generalize l.map (qS H A)=Z at *
   generalize l.map (mS H A)=M at *
   repeat' first|refine w9x ?_|(refine w9c ?_ ?_<;>intro _<;>try exact w9o)|fail
   all_goals try exact w9o
   refine CW.loop (fun t:Nat=>[(12,.av (.sl true 1 ((cntB Z (S.take t)).map .int))),(13,.av (.sl true 1 ((rstL M (S.take t)).map .int))),(89,.av (.int (lf))),(90,.av (.int (t)))]) (fun t=>t≤lf) (fun t=>lf-t) (0) ?_ (w9a) ?_
   ·exact Nat.zero_le _
   intro t ht
   by_cases htl:t<lf
   ·have hst:S[t]?=some S[t]:=List.getElem?_eq_getElem (by omega)
    obtain⟨w,hwl,hsw,hw0,hall⟩:=hnx t _ hst
    have htk:S.take (t+1)=S.take t++[S[t]]:=(List.take_append_getElem (by omega)).symm
    have hwZ:w<Z.length:=by omega
    have hwM:w<M.length:=by omega
    have hcn:(cntB Z (S.take t)).set w (Z.getD w 0+(cw (S.take t) w:Int)+1)=cntB Z (S.take (t+1)):=by
     rw [htk];exact(cntB_snoc (by rw [hsw]) hwZ).symm
    have hrn:(rstL M (S.take t)).set w (-1)=rstL M (S.take (t+1)):=by rw [htk];exact(rstL_snoc (by rw [hsw]) hwM).symm
    rw [hw0] at hcn
    have hgw:=cntB_get (S:=S.take t) hwZ
    rw [hw0] at hgw
    have hzb:=hZb w hwl
    have hcl:=cntB_len Z (S.take t)
    have hrl2:=rstL_len M (S.take t)
    have hrg:=fun i (h:i<M.length)=>rstL_get (T:=S.take t) h
    generalize Z.getD w 0=zw at *
    generalize hT:S.take t=T at *
    generalize cntB Z T=C at *
    generalize rstL M T=D at *
    repeat' first|refine w9x ?_|(refine w9c ?_ ?_<;>intro _<;>try exact w9o)|fail
    refine CW.loop (fun z:Nat×Nat=>[(12,.av (.sl true 1 ((C).map .int))),(92,.ref 13),(13,.av (.sl true 1 ((D).map .int))),(17,.av (.int (z.2))),(89,.av (.int (lf))),(90,.av (.int (t))),(93,.av (.int (l.length))),(94,.av (.int (z.1)))]) (fun z=>z.1≤l.length∧z.2<l.length∧Mx (cand3 M T) z.1 z.2) (fun z=>l.length-z.1) ((0,0)) ?_ (w9a) ?_
    ·exact⟨Nat.zero_le _,hl0,Mx.zero _⟩
    rintro⟨i,b⟩ ⟨hi,hb',hM⟩
    dsimp only at hi hb' hM ⊢
    by_cases hil:i<l.length
    ·have g3:=hrg i (by omega)
     have g4:=hrg b (by omega)
     have hst1:=hM.stay (i:=i)
     have hmv1:=hM.move (i:=i) (fun j=>by show(0:Int)<1;omega)
     unfold kb at hst1 hmv1
     dsimp only at hst1 hmv1
     rw [Int.mul_one,Int.mul_one] at hst1 hmv1
     by_cases c:rs3 M T b<rs3 M T i
     ·have hM':=hmv1 c
      generalize rs3 M T i=x at *
      generalize rs3 M T b=y at *
      repeat' first|refine w9x ?_|(refine w9c ?_ ?_<;>intro _<;>try exact w9o)|fail
      all_goals try exact w9o
      refine⟨(i+1,i),?_,w9n,w9a⟩
      exact⟨by dsimp only;omega,hil,hM'⟩
     ·have hM':=hst1 c
      generalize rs3 M T i=x at *
      generalize rs3 M T b=y at *
      repeat' first|refine w9x ?_|(refine w9c ?_ ?_<;>intro _<;>try exact w9o)|fail
      all_goals try exact w9o
      refine⟨(i+1,b),?_,w9n,w9a⟩
      exact⟨by dsimp only;omega,hb',hM'⟩
    ·obtain rfl:i=l.length:=by omega
     have hbw:b=w:=hM.is hl0 hwl (fun j hj=>rfl) hall
     subst hbw
     have g4:=hrg b hwM
     repeat' first|refine w9x ?_|(refine w9c ?_ ?_<;>intro _<;>try exact w9o)|fail
     all_goals try exact w9o
     refine⟨t+1,?_,w9n,w9a⟩
     omega
   ·obtain rfl:t=lf:=by omega
    repeat' first|refine w9x ?_|(refine w9c ?_ ?_<;>intro _<;>try exact w9o)|fail
    all_goals exact w9e
end Go.Proofs.YtkkcnppgcnmikaaGreatDoor
namespace Go.Proofs.YtkkcnppgcnmikaaGreatDoor
open Go FM
set_option maxRecDepth 10000
set_option maxHeartbeats 3200000
set_option linter.all false
def secP(l:List Int)(r:Int):AV:=if bidE l r≠0 then .tup [.int 0,.int 0,.int (bidE l r)] else if bst l r l.length<0 then .tup [.int 0,.int 0,.int 4] else .tup [.int (bst l r l.length),.int (oth l r (bst l r l.length) l.length),.int 0]
theorem second_spec(l:List Int)(r:Int)(hl:l.length≤9223372036854775807):FnSpec Sy.P 153 [.sl false 1 ((l).map .int),.int r] [.sl false 1 ((l).map .int),.int r] (secP l r):=by
 have hC:=bidCheck_spec l r hl
 unfold secP
 refine enT Tryz.func153 Tryz.ntmps153 fun v0=>?_
 by_cases he:bidE l r=0
 ·have hT:=two_spec l r (bidE_ok he)
  rw [he] at hC
  rw [if_neg (fun h=>h he)]
  generalize bst l r l.length=b at *
  generalize oth l r b l.length=o at *
  by_cases hb:b<0
  ·rw [if_pos hb]
   repeat' first|refine w9x ?_|refine w9p (hC) ?_|refine w9p (hT) ?_|(refine w9c ?_ ?_<;>intro _<;>try exact w9o)|fail
   all_goals exact w9e
  ·rw [if_neg hb]
   repeat' first|refine w9x ?_|refine w9p (hC) ?_|refine w9p (hT) ?_|(refine w9c ?_ ?_<;>intro _<;>try exact w9o)|fail
   all_goals exact w9e
 ·rw [if_pos he]
  generalize bidE l r=e at *
  repeat' first|refine w9x ?_|refine w9p (hC) ?_|(refine w9c ?_ ?_<;>intro _<;>try exact w9o)|fail
  all_goals exact w9e
def fuel:Nat:=1000001
end Go.Proofs.YtkkcnppgcnmikaaGreatDoor
