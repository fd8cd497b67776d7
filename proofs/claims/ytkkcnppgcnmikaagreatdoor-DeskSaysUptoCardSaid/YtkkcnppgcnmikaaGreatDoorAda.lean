/- The reference: what records tell, walked. -/
import Derived.Test.YtkkcnppgcnmikaaGreatDoorAch
import Derived.Test.YtkkcnppgcnmikaaGreatDoorAcj
import Derived.Test.YtkkcnppgcnmikaaGreatDoorAci
namespace Go.Proofs.YtkkcnppgcnmikaaGreatDoor
open Go FM Go.Proofs
set_option maxRecDepth 10000
set_option maxHeartbeats 3200000
set_option linter.all false
theorem told_spec(R:List Rc)(hR:∀ r∈R,r.ok)(hRl:R.length≤4000):FnSpec Sy.P 46 [.sl false 1 ((R.map Rc.str).map .str)] [.sl false 1 ((R.map Rc.str).map .str)] (.sl true 3 ((rcs R).map acA)):=by
 have hz:=rrd_zero R
 have hfin:∀ A,Rrd R R.length A→A=rcs R:=fun A h=>by rw [h.eq,List.take_length]
 have hml:(R.map Rc.str).length=R.length:=List.length_map ..
 have hget:∀ i (h:i<R.length),(R.map Rc.str)[i]?=some R[i].str:=fun i h=>by rw [List.getElem?_map,List.getElem?_eq_getElem h];rfl
 generalize R.map Rc.str=rs at *
 refine enT Tryz.func46 Tryz.ntmps46 fun v0=>?_
 repeat' first|refine w9x ?_|(refine w9c ?_ ?_<;>intro _<;>try exact w9o)|fail
 refine CW.leS (x:=.nil) 3 rfl (AV.le.nil (o:=true) (c:=3)) ?_
 refine CW.loop (fun z:Nat×List Ac=>[(0,.av (.sl false 1 (rs.map .str))),(3,.av (.sl true 3 (z.2.map acA))),(12,.av (.sl false 1 (rs.map .str))),(13,.av (.int (R.length))),(14,.av (.int (z.1)))]) (fun z=>Rrd R z.1 z.2) (fun z=>R.length-z.1) ((0,[])) ?_ (by(repeat' (first|exact w9b|refine And.intro ?_ ?_|exact int_congr (by rw [hml])))) ?_
 ·exact hz
 rintro⟨i,B⟩ hS
 dsimp only at hS ⊢
 by_cases hi:i<R.length
 ·have hg:=hget i hi
  have hok:=hR R[i] (List.getElem_mem hi)
  have hS2:=rrd_succ hS (List.getElem?_eq_getElem hi) hok
  have hF:=fields_spec R[i].str (by have:=str_len hok;omega) (str_ascii hok)
  rw [fields_str hok] at hF
  have hBl:=hS.al
  have hws:=wsR_wd hok
  have hwl:(wsR R[i]).length≤8:=by cases R[i]<;>simp [wsR]
  generalize R[i]=r at *
  obtain⟨ws,hwe⟩:∃ ws,ws=wsR r:=⟨_,rfl⟩
  rw [← hwe] at hF hws hwl
  generalize r.str=rstr at *
  repeat' first|refine w9x ?_|refine w9p (hF) ?_|(refine w9c ?_ ?_<;>intro _<;>try exact w9o)|fail
  all_goals try exact w9o
  refine CW.leS (x:=.nil) 7 rfl (AV.le.nil (o:=true) (c:=1)) ?_
  refine CW.loop (fun j:Nat=>[(20,.ref 6),(0,.av (.sl false 1 (rs.map .str))),(3,.av (.sl true 3 (B.map acA))),(6,.av (strs true ws)),(7,.av (.sl true 1 (((ws.take j).map numOf).map .int))),(12,.av (.sl false 1 (rs.map .str))),(13,.av (.int (R.length))),(14,.av (.int (i))),(21,.av (.int (ws.length))),(22,.av (.int (j)))]) (fun j=>j≤ws.length) (fun j=>ws.length-j) (0) ?_ (w9a) ?_
  ·exact Nat.zero_le _
  intro j hj
  by_cases hjl:j<ws.length
  ·have hgj:ws[j]?=some ws[j]:=List.getElem?_eq_getElem hjl
   have hA:=atoi_spec ws[j] (by have:=(hws _ (List.getElem_mem hjl)).2;omega)
   have hsucc:(ws.take (j+1)).map numOf=(ws.take j).map numOf++[numOf ws[j]]:=by rw [List.take_add_one,hgj,List.map_append];rfl
   have hll:((ws.take j).map numOf).length=j:=by rw [List.length_map,List.length_take];omega
   generalize (ws.take j).map numOf=y at *
   generalize numOf ws[j]=q at *
   generalize ws[j]=wj at *
   repeat' first|refine w9x ?_|refine w9p (hA) ?_|(refine w9c ?_ ?_<;>intro _<;>try exact w9o)|fail
   all_goals try exact w9o
   refine⟨j+1,?_,w9n,w9a⟩
   exact hjl
  ·obtain rfl:j=ws.length:=by omega
   rw [List.take_length]
   subst hwe
   cases r with
   | o s m =>
    have hO:=(openOf_spec B s m hBl (by have:=nm_len hok.1;omega)).le resA_le
    have hrc:rcS B (.o s m)=ifA (opE B s m) (opM B s m):=rfl
    rw [hrc] at hS2
    generalize ifA (opE B s m) (opM B s m)=B2 at *
    generalize opE B s m=e at *
    have w0:(wsR (.o s m))[0]?=some [111]:=rfl
    have w1:(wsR (.o s m))[1]?=some s:=rfl
    have y2:((wsR (.o s m)).map numOf)[2]?=some m:=by show some (numOf (Lib.itoa m))=_;rw [numOf_itoa hok.2.1]
    generalize (wsR (.o s m)).map numOf=y at *
    generalize wsR (.o s m)=ws at *
    repeat' first|((with_reducible refine w9i ?_);first|refine w9J1 4 7 ?_|refine w9Jt 3 8 ?_|refine w9Jw 2 9 ?_|refine w9Jt 1 11 ?_|refine w9Jw 0 10 ?_|refine w9J0 ?_)|refine w9U 7 5 ?_|refine w9x ?_|refine w9p (hO) ?_|(refine w9c ?_ ?_<;>intro _<;>try exact w9o)|fail
    all_goals try exact w9o
    refine⟨(i+1,B2),?_,w9n,w9a⟩
    all_goals first|exact hS2|omega
   | d x w =>
    have n1:=hok.1.num;have n2:=hok.1.much;have n3:=hok.1.fee;have n4:=hok.1.size
    have hT:=(takeOf_spec B x w hBl (by have:=nm_len hok.1.f;omega) (by have:=nm_len hok.1.t;omega)).le resA_le
    have hrc:rcS B (.d x w)=ifA (tkE B x w) (tkM B x w):=rfl
    rw [hrc] at hS2
    generalize ifA (tkE B x w) (tkM B x w)=B2 at *
    generalize tkE B x w=e at *
    have w0:(wsR (.d x w))[0]?=some [100]:=rfl
    have w1:(wsR (.d x w))[1]?=some x.1:=rfl
    have w2:(wsR (.d x w))[2]?=some x.2.1:=rfl
    have w7:(wsR (.d x w))[7]?=some w:=rfl
    have y3:((wsR (.d x w)).map numOf)[3]?=some x.2.2.1:=by show some (numOf (Lib.itoa _))=_;rw [numOf_itoa n1.1]
    have y4:((wsR (.d x w)).map numOf)[4]?=some x.2.2.2.1:=by show some (numOf (Lib.itoa _))=_;rw [numOf_itoa n2.1]
    have y5:((wsR (.d x w)).map numOf)[5]?=some x.2.2.2.2.1:=by show some (numOf (Lib.itoa _))=_;rw [numOf_itoa n3.1]
    have y6:((wsR (.d x w)).map numOf)[6]?=some x.2.2.2.2.2.1:=by show some (numOf (Lib.itoa _))=_;rw [numOf_itoa (by omega)]
    generalize (wsR (.d x w)).map numOf=y at *
    generalize wsR (.d x w)=ws at *
    repeat' first|((with_reducible refine w9i ?_);first|refine w9J1 4 23 ?_|refine w9Jt 3 24 ?_|refine w9Jw 2 25 ?_|refine w9Jt 1 27 ?_|refine w9Jw 0 26 ?_|refine w9J0 ?_)|refine w9U 23 5 ?_|refine w9x ?_|refine w9p (hT) ?_|(refine w9c ?_ ?_<;>intro _<;>try exact w9o)|fail
    all_goals try exact w9o
    refine⟨(i+1,B2),?_,w9n,w9a⟩
    all_goals first|exact hS2|omega
 ·obtain rfl:i=R.length:=by have:=hS.le;omega
  have hB:=hfin B hS
  subst hB
  repeat' first|refine w9x ?_|(refine w9c ?_ ?_<;>intro _<;>try exact w9o)|fail
  all_goals exact w9e
def kp(L:List Ac)(d:Dl):Bool:=decide (fA L d.1<0∨(L.getD (fA L d.1).toNat ([],0,0,())).2.2.1≤d.2.2.1)
theorem kp_late{L:List Ac}(h:AcOk L)(d:Dl):kp L d=!late L d:=by
 have hin:∀ a∈L,∀ b∈L,a.1=b.1→a=b:=fun a ha b hb e=>by
  obtain⟨i,hi,rfl⟩:=List.mem_iff_getElem.1 ha
  obtain⟨j,hj,rfl⟩:=List.mem_iff_getElem.1 hb
  rcases Nat.lt_trichotomy i j with c|c|c
  ·have:=List.pairwise_iff_getElem.1 h.srt i j hi hj c
   rw [e] at this;exact absurd this (List.lt_irrefl _)
  ·subst c;rfl
  ·have:=List.pairwise_iff_getElem.1 h.srt j i hj hi c
   rw [e] at this;exact absurd this (List.lt_irrefl _)
 unfold kp late
 rw [← decide_not,decide_eq_decide]
 by_cases c:fA L d.1<0
 ·have hno:=fidx_none (p:=fun a:Ac=>decide (a.1=d.1)) c
  refine⟨fun _ h0=>?_,fun _=>.inl c⟩
  obtain⟨i,hi,_,hp,_⟩:=fidx_first h0
  have h2:=hno _ (List.getElem_mem hi)
  unfold tA at hp
  rw [h2,Bool.false_and] at hp;cases hp
 ·obtain⟨i,hi,e1,n1⟩:=fA_at (l:=L) (s:=d.1) (by omega)
  rw [e1,Int.toNat_natCast,List.getD_eq_getElem?_getD,List.getElem?_eq_getElem hi,Option.getD_some]
  constructor
  ·rintro(h1|h1) h0
   ·omega
   ·obtain⟨j,hj,_,hp,_⟩:=fidx_first h0
    unfold tA at hp
    rw [Bool.and_eq_true,decide_eq_true_eq,decide_eq_true_eq] at hp
    have:=hin _ (List.getElem_mem hj) _ (List.getElem_mem hi) (hp.1.trans n1.symm)
    rw [this] at hp;omega
  ·intro h0
   refine .inr (Classical.byContradiction fun h1=>h0 ?_)
   refine fidx_some (List.getElem_mem hi) ?_
   unfold tA
   rw [decide_eq_true n1,decide_eq_true (by omega)];rfl
theorem cleanOf_spec(l:List Dl)(L:List Ac)(hl:l.length≤1000)(hL:L.length≤9223372036854775807):FnSpec Sy.P 43 [.sl false 6 (l.map dlA),.sl false 3 (L.map acA)] [.sl false 6 (l.map dlA),.sl false 3 (L.map acA)] (.sl true 6 ((l.filter (kp L)).map dlA)):=by
 refine enT Tryz.func43 Tryz.ntmps43 fun v0=>?_
 repeat' first|refine w9x ?_|(refine w9c ?_ ?_<;>intro _<;>try exact w9o)|fail
 refine CW.leS (x:=.nil) 5 rfl (AV.le.nil (o:=true) (c:=6)) ?_
 refine CW.loop (fun k:Nat=>[(1,.av (.sl false 3 (L.map acA))),(5,.av (.sl true 6 (((l.take k).filter (kp L)).map dlA))),(9,.av (.sl false 6 (l.map dlA))),(10,.av (.int (l.length))),(11,.av (.int (k)))]) (fun k=>k≤l.length) (fun k=>l.length-k) (0) ?_ (w9a) ?_
 ·exact Nat.zero_le _
 intro k hk
 by_cases hlt:k<l.length
 ·have hx:l[k]?=some l[k]:=List.getElem?_eq_getElem hlt
  have hF:=accOf_spec L l[k].1 hL
  have hfr:=fA_range L l[k].1
  have hf:(l.take (k+1)).filter (kp L)=(l.take k).filter (kp L)++(if kp L l[k] then [l[k]] else []):=by
   rw [List.take_succ_eq_append_getElem hlt,List.filter_append]
   congr 1
   cases hp:kp L l[k]<;>simp [hp]
  have hfl:=List.length_filter_le (kp L) (l.take k)
  rw [List.length_take] at hfl
  generalize hd0:l[k]=d at *
  by_cases c:fA L d.1<0
  ·have hkp:kp L d=true:=decide_eq_true (.inl c)
   rw [hkp,if_pos rfl] at hf
   repeat' first|refine w9x ?_|refine w9p (hF) ?_|(refine w9c ?_ ?_<;>intro _<;>try exact w9o)|fail
   all_goals try exact w9o
   refine⟨k+1,?_,w9n,by(repeat' (first|exact w9b|refine And.intro ?_ ?_|(refine(congrArg (fun z=>TV.av (AV.sl true 6 z)) ?_);rw [hf,List.map_append];rfl)))⟩
   all_goals omega
  ·obtain⟨i,hi,e1,n1⟩:=fA_at (l:=L) (s:=d.1) (by omega)
   have ga:L[i]?=some L[i]:=List.getElem?_eq_getElem hi
   rw [e1] at hF
   have hkp:kp L d=decide (L[i].2.2.1≤d.2.2.1):=by
    unfold kp
    rw [decide_eq_decide,e1,Int.toNat_natCast,List.getD_eq_getElem?_getD,ga,Option.getD_some]
    constructor
    ·rintro(h|h)
     ·omega
     ·exact h
    ·exact .inr
   generalize L[i]=a at *
   by_cases c2:a.2.2.1≤d.2.2.1
   ·rw [hkp,decide_eq_true c2,if_pos rfl] at hf
    repeat' first|refine w9x ?_|refine w9p (hF) ?_|(refine w9c ?_ ?_<;>intro _<;>try exact w9o)|fail
    all_goals try exact w9o
    refine⟨k+1,?_,w9n,by(repeat' (first|exact w9b|refine And.intro ?_ ?_|(refine(congrArg (fun z=>TV.av (AV.sl true 6 z)) ?_);rw [hf,List.map_append];rfl)))⟩
    all_goals omega
   ·rw [hkp,decide_eq_false c2,if_neg (by decide),List.append_nil] at hf
    repeat' first|refine w9x ?_|refine w9p (hF) ?_|(refine w9c ?_ ?_<;>intro _<;>try exact w9o)|fail
    all_goals try exact w9o
    refine⟨k+1,?_,w9n,w9a⟩
    all_goals omega
 ·obtain rfl:k=l.length:=by omega
  rw [List.take_length]
  repeat' first|refine w9x ?_|(refine w9c ?_ ?_<;>intro _<;>try exact w9o)|fail
  exact .mk rfl rfl rfl
theorem addOf_spec(l:List Dl)(d:Dl)(hL:DlL l)(h1:d.1.length≤9223372036854775807)(h2:d.2.1.length≤9223372036854775807):FnSpec Sy.P 39 [.sl false 6 (l.map dlA),dlA d] [.sl false 6 (l.map dlA),dlA d] (resD (adM l d) (adE l d)):=by
 have hC:=offerErr_spec l hL
 have hR:=dealErr_spec d h1 h2
 have hCr:=ofE_range l
 have hRr:=dlE_range d
 have hF:=offerOf_spec l d.1 d.2.2.1 hL.len
 unfold adE resD adM
 by_cases c1:ofE l=0
 ·have hok:=ofE_ok c1
  rw [c1] at hC
  rw [if_neg (not_not_intro c1)]
  by_cases c2:dlE d=0
  ·have hdk:=dlE_ok c2
   rw [c2] at hR
   rw [if_neg (not_not_intro c2)]
   have hl20:=hok.len
   have hCl:=cloneDl_spec l (by omega)
   by_cases c3:0≤fD l d.1 d.2.2.1
   ·rw [if_pos c3,if_pos c3]
    obtain⟨i,hi,e1,n1⟩:=fD_at c3
    have ga:l[i]?=some l[i]:=List.getElem?_eq_getElem hi
    rw [e1] at hF ⊢
    rw [Int.toNat_natCast,getDl_at ga]
    generalize l[i]=a at *
    by_cases c4:d.2.2.2.2.1≤a.2.2.2.2.1
    ·rw [if_pos c4,if_neg (by decide)]
     refine enT Tryz.func39 Tryz.ntmps39 fun v0=>?_
     repeat' first|refine w9x ?_|refine w9p (hC) ?_|refine w9p (hR) ?_|refine w9p (hF) ?_|(refine w9c ?_ ?_<;>intro _<;>try exact w9o)|fail
     all_goals exact w9e
    ·rw [if_neg c4,if_pos rfl]
     refine enT Tryz.func39 Tryz.ntmps39 fun v0=>?_
     repeat' first|((with_reducible apply J.eff);rfl;(exact e_stM (x:=d) rfl rfl rfl rfl rfl rfl))|refine w9x ?_|refine w9p (hC) ?_|refine w9p (hR) ?_|refine w9p (hF) ?_|refine w9p (hCl) ?_|(refine w9c ?_ ?_<;>intro _<;>try exact w9o)|fail
     all_goals exact w9e
   ·rw [if_neg c3,if_neg c3]
    have hfr:=fD_range l d.1 d.2.2.1
    by_cases c5:20≤l.length
    ·rw [if_pos c5,if_neg (by decide)]
     refine enT Tryz.func39 Tryz.ntmps39 fun v0=>?_
     repeat' first|refine w9x ?_|refine w9p (hC) ?_|refine w9p (hR) ?_|refine w9p (hF) ?_|(refine w9c ?_ ?_<;>intro _<;>try exact w9o)|fail
     all_goals exact w9e
    ·rw [if_neg c5,if_pos rfl]
     have hmap0:TV.av (AV.sl true 6 (l.map dlA++[dlA d]))=TV.av (AV.sl true 6 ((l++[d]).map dlA)):=by rw [List.map_append];rfl
     refine enT Tryz.func39 Tryz.ntmps39 fun v0=>?_
     repeat' first|refine w9y ?_|refine w9p (hC) ?_|refine w9p (hR) ?_|refine w9p (hF) ?_|(refine w9c ?_ ?_<;>intro _<;>try exact w9o)|fail
     all_goals try exact w9o
     refine CW.cut [(4,.av (.sl true 6 ((l++[d]).map dlA))),(5,.av (.int (0)))] ?_ ?_
     ·refine CW.reg0 7 rfl [false,false,false,false,false,false,false] (by kernel_rfl) rfl ?_
      refine w9jt 0 ?_
      refine w9j2 1 2 ?_ ?_
      ·repeat' first|((with_reducible apply J.step);rfl;exact FM.st)|((with_reducible apply J.eff);rfl;exact FM.ef)|((with_reducible apply J.callP (hCl));rfl;rfl;exact w9A;(first|exact(fun _=>NoSh.int)|exact(fun h=>Bool.noConfusion h)))|with_reducible refine J.nil ?_
       refine w9j1 2 ?_
       repeat' first|((with_reducible apply J.step);rfl;exact FM.st)|((with_reducible apply J.eff);rfl;exact FM.ef)|((with_reducible apply J.callP (hCl));rfl;rfl;exact w9A;(first|exact(fun _=>NoSh.int)|exact(fun h=>Bool.noConfusion h)))|with_reducible refine J.nil ?_
       refine w9j1 3 ?_
       repeat' first|((with_reducible apply J.step);rfl;exact FM.st)|((with_reducible apply J.eff);rfl;exact FM.ef)|((with_reducible apply J.callP (hCl));rfl;rfl;exact w9A;(first|exact(fun _=>NoSh.int)|exact(fun h=>Bool.noConfusion h)))|with_reducible refine J.nil ?_
       refine w9j1 4 ?_
       repeat' first|((with_reducible apply J.step);rfl;exact FM.st)|((with_reducible apply J.eff);rfl;exact FM.ef)|((with_reducible apply J.callP (hCl));rfl;rfl;exact w9A;(first|exact(fun _=>NoSh.int)|exact(fun h=>Bool.noConfusion h)))|with_reducible refine J.nil ?_
       refine w9jt 5 ?_
       refine w9jt 6 ?_
       refine JA.done (by kernel_rfl) ?_
       exact⟨rfl,by(repeat' (first|exact w9b|refine And.intro ?_ ?_|exact hmap0))⟩
      ·repeat' first|((with_reducible apply J.step);rfl;exact FM.st)|((with_reducible apply J.eff);rfl;exact FM.ef)|((with_reducible apply J.callP (hCl));rfl;rfl;exact w9A;(first|exact(fun _=>NoSh.int)|exact(fun h=>Bool.noConfusion h)))|with_reducible refine J.nil ?_
       refine w9j2 1 3 ?_ ?_
       ·repeat' first|((with_reducible apply J.step);rfl;exact FM.st)|((with_reducible apply J.eff);rfl;exact FM.ef)|((with_reducible apply J.callP (hCl));rfl;rfl;exact w9A;(first|exact(fun _=>NoSh.int)|exact(fun h=>Bool.noConfusion h)))|with_reducible refine J.nil ?_
        refine w9j1 3 ?_
        repeat' first|((with_reducible apply J.step);rfl;exact FM.st)|((with_reducible apply J.eff);rfl;exact FM.ef)|((with_reducible apply J.callP (hCl));rfl;rfl;exact w9A;(first|exact(fun _=>NoSh.int)|exact(fun h=>Bool.noConfusion h)))|with_reducible refine J.nil ?_
        refine w9j1 4 ?_
        repeat' first|((with_reducible apply J.step);rfl;exact FM.st)|((with_reducible apply J.eff);rfl;exact FM.ef)|((with_reducible apply J.callP (hCl));rfl;rfl;exact w9A;(first|exact(fun _=>NoSh.int)|exact(fun h=>Bool.noConfusion h)))|with_reducible refine J.nil ?_
        refine w9jt 5 ?_
        refine w9jt 6 ?_
        refine JA.done (by kernel_rfl) ?_
        exact⟨rfl,by(repeat' (first|exact w9b|refine And.intro ?_ ?_|exact hmap0))⟩
       ·repeat' first|((with_reducible apply J.step);rfl;exact FM.st)|((with_reducible apply J.eff);rfl;exact FM.ef)|((with_reducible apply J.callP (hCl));rfl;rfl;exact w9A;(first|exact(fun _=>NoSh.int)|exact(fun h=>Bool.noConfusion h)))|with_reducible refine J.nil ?_
        refine w9j1 1 ?_
        repeat' first|((with_reducible apply J.step);rfl;exact FM.st)|((with_reducible apply J.eff);rfl;exact FM.ef)|((with_reducible apply J.callP (hCl));rfl;rfl;exact w9A;(first|exact(fun _=>NoSh.int)|exact(fun h=>Bool.noConfusion h)))|with_reducible refine J.nil ?_
        refine w9j1 4 ?_
        repeat' first|((with_reducible apply J.step);rfl;exact FM.st)|((with_reducible apply J.eff);rfl;exact FM.ef)|((with_reducible apply J.callP (hCl));rfl;rfl;exact w9A;(first|exact(fun _=>NoSh.int)|exact(fun h=>Bool.noConfusion h)))|with_reducible refine J.nil ?_
        refine w9jt 5 ?_
        refine w9jt 6 ?_
        refine JA.done (by kernel_rfl) ?_
        exact⟨rfl,by(repeat' (first|exact w9b|refine And.intro ?_ ?_|exact hmap0))⟩
     repeat' first|refine w9x ?_|(refine w9c ?_ ?_<;>intro _<;>try exact w9o)|fail
     all_goals exact w9e
  ·rw [if_pos c2,if_neg c2]
   generalize dlE d=e at *
   refine enT Tryz.func39 Tryz.ntmps39 fun v0=>?_
   repeat' first|refine w9x ?_|refine w9p (hC) ?_|refine w9p (hR) ?_|(refine w9c ?_ ?_<;>intro _<;>try exact w9o)|fail
   all_goals exact w9e
 ·rw [if_pos c1,if_neg c1]
  generalize ofE l=e at *
  refine enT Tryz.func39 Tryz.ntmps39 fun v0=>?_
  repeat' first|refine w9x ?_|refine w9p (hC) ?_|refine w9p (hR) ?_|(refine w9c ?_ ?_<;>intro _<;>try exact w9o)|fail
  all_goals exact w9e
def drE(l:List Dl)(s:Str)(n:Int):Int:=if ofE l≠0 then ofE l else if fD l s n<0 then 4 else 0
def drM(l:List Dl)(s:Str)(n:Int):List Dl:=l.take (fD l s n).toNat++l.drop ((fD l s n).toNat+1)
theorem drop_spec(l:List Dl)(s:Str)(n:Int)(hL:DlL l):FnSpec Sy.P 34 [.sl false 6 (l.map dlA),.str s,.int n] [.sl false 6 (l.map dlA),.str s,.int n] (resD (drM l s n) (drE l s n)):=by
 have hC:=qcheck_spec l hL
 have hCr:=ofE_range l
 have hF:=findD_spec l s n hL.len
 unfold drE resD drM
 by_cases c1:ofE l=0
 ·have hok:=ofE_ok c1
  rw [c1] at hC
  rw [if_neg (not_not_intro c1)]
  have hl20:=hok.len
  have hCl:=cloneDl_spec l (by omega)
  by_cases c3:fD l s n<0
  ·rw [if_pos c3,if_neg (by decide)]
   refine enT Tryz.func34 Tryz.ntmps34 fun v0=>?_
   repeat' first|refine w9x ?_|refine w9p (hC) ?_|refine w9p (hF) ?_|(refine w9c ?_ ?_<;>intro _<;>try exact w9o)|fail
   all_goals exact w9e
  ·rw [if_neg c3,if_pos rfl]
   obtain⟨i,hi,e1,n1⟩:=fD_at (l:=l) (s:=s) (n:=n) (by omega)
   rw [e1] at hF ⊢
   rw [Int.toNat_natCast]
   have hl3:l.length≤1000:=by omega
   refine enT Tryz.func34 Tryz.ntmps34 fun v0=>?_
   repeat' first|(refine delDJ (l:=l) (k:=i) rfl rfl rfl hi hl3 rfl rfl rfl ?_)|refine w9x ?_|refine w9p (hC) ?_|refine w9p (hF) ?_|refine w9p (hCl) ?_|(refine w9c ?_ ?_<;>intro _<;>try exact w9o)|fail
   all_goals exact w9e
 ·rw [if_pos c1,if_neg c1]
  generalize ofE l=e at *
  refine enT Tryz.func34 Tryz.ntmps34 fun v0=>?_
  repeat' first|refine w9x ?_|refine w9p (hC) ?_|(refine w9c ?_ ?_<;>intro _<;>try exact w9o)|fail
  all_goals exact w9e
theorem dropOf_spec(l:List Dl)(s:Str)(n:Int)(hL:DlL l):FnSpec Sy.P 47 [.sl false 6 (l.map dlA),.str s,.int n] [.sl false 6 (l.map dlA),.str s,.int n] (resD (drM l s n) (drE l s n)):=by
 have hC:=offerErr_spec l hL
 have hCr:=ofE_range l
 have hF:=offerOf_spec l s n hL.len
 unfold drE resD drM
 by_cases c1:ofE l=0
 ·have hok:=ofE_ok c1
  rw [c1] at hC
  rw [if_neg (not_not_intro c1)]
  have hl20:=hok.len
  by_cases c3:fD l s n<0
  ·rw [if_pos c3,if_neg (by decide)]
   refine enT Tryz.func47 Tryz.ntmps47 fun v0=>?_
   repeat' first|refine w9x ?_|refine w9p (hC) ?_|refine w9p (hF) ?_|(refine w9c ?_ ?_<;>intro _<;>try exact w9o)|fail
   all_goals exact w9e
  ·rw [if_neg c3,if_pos rfl]
   obtain⟨i,hi,e1,n1⟩:=fD_at (l:=l) (s:=s) (n:=n) (by omega)
   rw [e1] at hF ⊢
   rw [Int.toNat_natCast]
   have hCl:=cloneDl_spec (l.take i) (by rw [List.length_take];omega)
   refine enT Tryz.func47 Tryz.ntmps47 fun v0=>?_
   repeat' first|refine w9z ?_|refine w9p (hC) ?_|refine w9p (hF) ?_|(refine w9c ?_ ?_<;>intro _<;>try exact w9o)|fail
   all_goals try exact w9o
   refine CW.cut [(6,.av (.sl true 6 ((l.take i++l.drop (i+1)).map dlA))),(7,.av (.int (0)))] ?_ ?_
   ·refine CW.reg0 11 rfl [false,false,false,false,false,false,false,false,false,false,false] (by kernel_rfl) rfl ?_
    refine w9jt 0 ?_
    refine w9jt 1 ?_
    refine w9jt 4 ?_
    refine w9jt 5 ?_
    apply JA.takeW (i:=6);rfl;rfl;kernel_rfl;(first|((with_reducible apply w_add)<;>exact w9l)|((with_reducible apply w_sub)<;>exact w9l)|((with_reducible apply w_ixaO)<;>exact w9l)|((with_reducible apply w_ixaS)<;>exact w9l)|((with_reducible apply w_fadD)<;>exact w9l))
    refine w9j2 2 7 ?_ ?_
    ·repeat' first|((with_reducible apply J.step);rfl;exact FM.st)|((with_reducible apply J.eff);rfl;exact FM.ef)|((with_reducible apply J.callP (hCl));rfl;rfl;exact w9A;(first|exact(fun _=>NoSh.int)|exact(fun h=>Bool.noConfusion h)))|with_reducible refine J.nil ?_
     refine w9j2 3 7 ?_ ?_
     ·repeat' first|((with_reducible apply J.step);rfl;exact FM.st)|((with_reducible apply J.eff);rfl;exact FM.ef)|((with_reducible apply J.callP (hCl));rfl;rfl;exact w9A;(first|exact(fun _=>NoSh.int)|exact(fun h=>Bool.noConfusion h)))|with_reducible refine J.nil ?_
      refine w9j1 7 ?_
      repeat' first|((with_reducible apply J.step);rfl;exact FM.st)|((with_reducible apply J.eff);rfl;exact FM.ef)|((with_reducible apply J.callP (hCl));rfl;rfl;exact w9A;(first|exact(fun _=>NoSh.int)|exact(fun h=>Bool.noConfusion h)))|with_reducible refine J.nil ?_
      refine w9j1 8 ?_
      repeat' first|((with_reducible apply J.step);rfl;exact FM.st)|((with_reducible apply J.eff);rfl;exact FM.ef)|((with_reducible apply J.callP (hCl));rfl;rfl;exact w9A;(first|exact(fun _=>NoSh.int)|exact(fun h=>Bool.noConfusion h)))|with_reducible refine J.nil ?_
      refine w9jt 9 ?_
      refine w9jt 10 ?_
      refine JA.done (by kernel_rfl) ?_
      exact⟨rfl,w9a⟩
     ·repeat' first|((with_reducible apply J.step);rfl;exact FM.st)|((with_reducible apply J.eff);rfl;exact FM.ef)|((with_reducible apply J.callP (hCl));rfl;rfl;exact w9A;(first|exact(fun _=>NoSh.int)|exact(fun h=>Bool.noConfusion h)))|with_reducible refine J.nil ?_
      refine w9j1 3 ?_
      repeat' first|((with_reducible apply J.step);rfl;exact FM.st)|((with_reducible apply J.eff);rfl;exact FM.ef)|((with_reducible apply J.callP (hCl));rfl;rfl;exact w9A;(first|exact(fun _=>NoSh.int)|exact(fun h=>Bool.noConfusion h)))|with_reducible refine J.nil ?_
      refine w9j1 8 ?_
      repeat' first|((with_reducible apply J.step);rfl;exact FM.st)|((with_reducible apply J.eff);rfl;exact FM.ef)|((with_reducible apply J.callP (hCl));rfl;rfl;exact w9A;(first|exact(fun _=>NoSh.int)|exact(fun h=>Bool.noConfusion h)))|with_reducible refine J.nil ?_
      refine w9jt 9 ?_
      refine w9jt 10 ?_
      refine JA.done (by kernel_rfl) ?_
      exact⟨rfl,w9a⟩
    ·repeat' first|((with_reducible apply J.step);rfl;exact FM.st)|((with_reducible apply J.eff);rfl;exact FM.ef)|((with_reducible apply J.callP (hCl));rfl;rfl;exact w9A;(first|exact(fun _=>NoSh.int)|exact(fun h=>Bool.noConfusion h)))|with_reducible refine J.nil ?_
     refine w9j1 2 ?_
     repeat' first|((with_reducible apply J.step);rfl;exact FM.st)|((with_reducible apply J.eff);rfl;exact FM.ef)|((with_reducible apply J.callP (hCl));rfl;rfl;exact w9A;(first|exact(fun _=>NoSh.int)|exact(fun h=>Bool.noConfusion h)))|with_reducible refine J.nil ?_
     refine w9j1 3 ?_
     repeat' first|((with_reducible apply J.step);rfl;exact FM.st)|((with_reducible apply J.eff);rfl;exact FM.ef)|((with_reducible apply J.callP (hCl));rfl;rfl;exact w9A;(first|exact(fun _=>NoSh.int)|exact(fun h=>Bool.noConfusion h)))|with_reducible refine J.nil ?_
     refine w9j1 8 ?_
     repeat' first|((with_reducible apply J.step);rfl;exact FM.st)|((with_reducible apply J.eff);rfl;exact FM.ef)|((with_reducible apply J.callP (hCl));rfl;rfl;exact w9A;(first|exact(fun _=>NoSh.int)|exact(fun h=>Bool.noConfusion h)))|with_reducible refine J.nil ?_
     refine w9jt 9 ?_
     refine w9jt 10 ?_
     refine JA.done (by kernel_rfl) ?_
     exact⟨rfl,w9a⟩
   repeat' first|refine w9x ?_|(refine w9c ?_ ?_<;>intro _<;>try exact w9o)|fail
   all_goals exact w9e
 ·rw [if_pos c1,if_neg c1]
  generalize ofE l=e at *
  refine enT Tryz.func47 Tryz.ntmps47 fun v0=>?_
  repeat' first|refine w9x ?_|refine w9p (hC) ?_|(refine w9c ?_ ?_<;>intro _<;>try exact w9o)|fail
  all_goals exact w9e
set_option maxHeartbeats 6400000
theorem nextOf_spec(l:List Dl)(L:List Ac)(w:Str)(room:Int)(hl:DlL l)(hL:AcL L):FnSpec Sy.P 88 [.sl false 6 (l.map dlA),.sl false 3 (L.map acA),.str w,.int room] [.sl false 6 (l.map dlA),.sl false 3 (L.map acA),.str w,.int room] (.tup [.int (nxK l L w room),.int (nxE l L w room)]):=by
 have hC:=offerErr_spec l hl
 have hC2:=accErr_spec L hL
 have hCr:=ofE_range l
 have hCr2:=acE_range L
 by_cases c1:ofE l=0
 ·have hok:=ofE_ok c1
  have hl20:=hok.len
  rw [c1] at hC
  by_cases c2:acE L=0
  ·rw [c2] at hC2
   by_cases c3:room<0∨1000<room
   ·have e1:nxE l L w room=1:=by unfold nxE;rw [if_neg (not_not_intro c1),if_neg (not_not_intro c2),if_pos c3]
    rw [show nxK l L w room=0 from if_neg (by rw [e1];decide),e1]
    refine enT Tryz.func88 Tryz.ntmps88 fun v0=>?_
    repeat' first|refine w9x ?_|refine w9p (hC) ?_|refine w9p (hC2) ?_|(refine w9c ?_ ?_<;>intro _<;>try exact w9o)|fail
    all_goals exact w9e
   ·have e0:nxE l L w room=if bF l L w room l.length<0 then 4 else 0:=by unfold nxE;rw [if_neg (not_not_intro c1),if_neg (not_not_intro c2),if_neg c3]
    have hbr:=bF_range (l:=l) (L:=L) (w:=w) (room:=room) l.length
    have hFB:=bF_bB (l:=l) (L:=L) (w:=w) (room:=room) (fun d hd=>by have:=(hok.ok d hd).size;show 0<d.2.2.2.2.2.1;omega)
    refine enT Tryz.func88 Tryz.ntmps88 fun v0=>?_
    repeat' first|refine w9x ?_|refine w9p (hC) ?_|refine w9p (hC2) ?_|(refine w9c ?_ ?_<;>intro _<;>try exact w9o)|fail
    all_goals try exact w9o
    refine CW.loop (fun m:Nat=>[(0,.av (.sl false 6 (l.map dlA))),(1,.av (.sl false 3 (L.map acA))),(2,.av (.str w)),(3,.av (.int (room))),(11,.av (.int (bB l L w room m))),(12,.av (.int ((l.length:Int)-1-m)))]) (fun m=>m≤l.length) (fun m=>l.length-m) (0) ?_ (w9a) ?_
    ·exact Nat.zero_le _
    intro m hm
    by_cases hml:m<l.length
    ·obtain⟨k,hkd⟩:∃ k,k=l.length-(m+1):=⟨_,rfl⟩
     have hkl:k<l.length:=by omega
     have hki:(l.length:Int)-1-m=(k:Int):=by omega
     have hkj:(l.length:Int)-1-((m+1:Nat):Int)=(k:Int)-1:=by omega
     rw [hki]
     have hx:l[k]?=some l[k]:=List.getElem?_eq_getElem hkl
     have hT:=takeOf_spec L l[k] w hL (hl.s1 _ (List.getElem_mem hkl)) (hl.s2 _ (List.getElem_mem hkl))
     have hdk:=hok.ok _ (List.getElem_mem hkl)
     have hb:bB l L w room (m+1)=if elg L w room l[k]=true∧(bB l L w room m<0∨fee (at0 l (bB l L w room m))*siz l[k]≤fee l[k]*siz (at0 l (bB l L w room m))) then(k:Int) else bB l L w room m:=by
      rw [bB,←hkd,getD_of hkl]
     have hbr:=bB_range (l:=l) (L:=L) (w:=w) (room:=room) m hm
     have hsz:=hdk.size
     have hfe:=hdk.fee
     generalize l[k]=d at *
     generalize bB l L w room m=b at *
     unfold resA at hT
     by_cases s1:d.2.2.2.2.2.1≤room
     ·have hlo:elg L w room d=decide (tkE L d w=0):=by unfold elg;rw [decide_eq_true s1,Bool.true_and]
      rw [hlo] at hb
      by_cases s2:tkE L d w=0
      ·rw [if_pos s2] at hT
       rw [decide_eq_true s2] at hb
       by_cases s3:b<0
       ·rw [if_pos ⟨rfl,.inl s3⟩] at hb
        repeat' first|refine w9x ?_|refine w9p (hT) ?_|(refine w9c ?_ ?_<;>intro _<;>try exact w9o)|fail
        all_goals try exact w9o
        refine⟨m+1,?_,w9n,by(repeat' (first|exact w9b|refine And.intro ?_ ?_|exact int_congr hb.symm|exact int_congr hkj.symm))⟩
        all_goals omega
       ·obtain⟨i,rfl⟩:∃ i:Nat,b=(i:Int):=⟨b.toNat,by omega⟩
        have hil:i<l.length:=by omega
        have hxi:l[i]?=some l[i]:=List.getElem?_eq_getElem hil
        have hdi:=hok.ok _ (List.getElem_mem hil)
        have ha:at0 l (i:Int)=l[i]:=by unfold at0;rw [Int.toNat_natCast,getD_of hil]
        rw [ha] at hb
        have z1:=hdi.size
        have z2:=hdi.fee
        generalize l[i]=a at *
        have m1:=mulB (x:=d.2.2.2.2.1) (y:=a.2.2.2.2.2.1) (a:=1000000) (b:=100) (by omega) (by omega)
        have m2:=mulB (x:=a.2.2.2.2.1) (y:=d.2.2.2.2.2.1) (a:=1000000) (b:=100) (by omega) (by omega)
        by_cases s4:a.2.2.2.2.1*d.2.2.2.2.2.1≤d.2.2.2.2.1*a.2.2.2.2.2.1
        ·rw [if_pos ⟨rfl,.inr s4⟩] at hb
         repeat' first|refine w9x ?_|refine w9p (hT) ?_|(refine w9c ?_ ?_<;>intro _<;>try exact w9o)|fail
         all_goals try exact w9o
         refine⟨m+1,?_,w9n,by(repeat' (first|exact w9b|refine And.intro ?_ ?_|exact int_congr hb.symm|exact int_congr hkj.symm))⟩
         all_goals omega
        ·rw [if_neg (fun h=>h.2.elim (fun h=>s3 h) s4)] at hb
         repeat' first|refine w9x ?_|refine w9p (hT) ?_|(refine w9c ?_ ?_<;>intro _<;>try exact w9o)|fail
         all_goals try exact w9o
         refine⟨m+1,?_,w9n,by(repeat' (first|exact w9b|refine And.intro ?_ ?_|exact int_congr hb.symm|exact int_congr hkj.symm))⟩
         all_goals omega
      ·rw [if_neg s2] at hT
       rw [decide_eq_false s2,if_neg (fun h=>by cases h.1)] at hb
       generalize tkE L d w=e at *
       repeat' first|refine w9x ?_|refine w9p (hT) ?_|(refine w9c ?_ ?_<;>intro _<;>try exact w9o)|fail
       all_goals try exact w9o
       refine⟨m+1,?_,w9n,by(repeat' (first|exact w9b|refine And.intro ?_ ?_|exact int_congr hb.symm|exact int_congr hkj.symm))⟩
       all_goals omega
     ·have hlo:elg L w room d=false:=by unfold elg;rw [decide_eq_false s1,Bool.false_and]
      rw [hlo,if_neg (fun h=>by cases h.1)] at hb
      have s1:room<d.2.2.2.2.2.1:=by omega
      by_cases s2:tkE L d w=0
      ·rw [if_pos s2] at hT
       repeat' first|refine w9x ?_|refine w9p (hT) ?_|(refine w9c ?_ ?_<;>intro _<;>try exact w9o)|fail
       all_goals try exact w9o
       refine⟨m+1,?_,w9n,by(repeat' (first|exact w9b|refine And.intro ?_ ?_|exact int_congr hb.symm|exact int_congr hkj.symm))⟩
       all_goals omega
      ·rw [if_neg s2] at hT
       generalize tkE L d w=e at *
       repeat' first|refine w9x ?_|refine w9p (hT) ?_|(refine w9c ?_ ?_<;>intro _<;>try exact w9o)|fail
       all_goals try exact w9o
       refine⟨m+1,?_,w9n,by(repeat' (first|exact w9b|refine And.intro ?_ ?_|exact int_congr hb.symm|exact int_congr hkj.symm))⟩
       all_goals omega
    ·obtain rfl:l.length=m:=by omega
     rw [hFB]
     by_cases c4:bF l L w room l.length<0
     ·rw [if_pos c4] at e0
      rw [show nxK l L w room=0 from if_neg (by rw [e0];decide),e0]
      generalize bF l L w room l.length=b at *
      repeat' first|refine w9x ?_|(refine w9c ?_ ?_<;>intro _<;>try exact w9o)|fail
      all_goals exact w9e
     ·rw [if_neg c4] at e0
      rw [show nxK l L w room=bF l L w room l.length from if_pos e0,e0]
      generalize bF l L w room l.length=b at *
      repeat' first|refine w9x ?_|(refine w9c ?_ ?_<;>intro _<;>try exact w9o)|fail
      all_goals exact w9e
  ·have e1:nxE l L w room=acE L:=by unfold nxE;rw [if_neg (not_not_intro c1),if_pos c2]
   rw [show nxK l L w room=0 from if_neg (by rw [e1];exact c2),e1]
   generalize acE L=e at *
   refine enT Tryz.func88 Tryz.ntmps88 fun v0=>?_
   repeat' first|refine w9x ?_|refine w9p (hC) ?_|refine w9p (hC2) ?_|(refine w9c ?_ ?_<;>intro _<;>try exact w9o)|fail
   all_goals exact w9e
 ·have e1:nxE l L w room=ofE l:=by unfold nxE;rw [if_pos c1]
  rw [show nxK l L w room=0 from if_neg (by rw [e1];exact c1),e1]
  generalize ofE l=e at *
  refine enT Tryz.func88 Tryz.ntmps88 fun v0=>?_
  repeat' first|refine w9x ?_|refine w9p (hC) ?_|refine w9p (hC2) ?_|(refine w9c ?_ ?_<;>intro _<;>try exact w9o)|fail
  all_goals exact w9e
theorem buildOf_spec(l:List Dl)(w:Str)(hl:DlL l):∀ (f:Nat) (L:List Ac) (room:Int),room<f→AcL L→FnSpec Sy.P 41 [.sl false 6 (l.map dlA),.sl false 3 (L.map acA),.str w,.int room] [.sl false 6 (l.map dlA),.sl false 3 (L.map acA),.str w,.int room] (.tup [.sl true 1 ((bdT l L w room f).map .int),.sl false 3 ((bdL l L w room f).map acA),.int (bdE l L w room)]):=by
 intro f
 induction f with
 | zero =>
  intro L room hf hL
  have hN:=nextOf_spec l L w room hl hL
  have hc:¬ (nxE l L w room=0∨nxE l L w room=4):=fun h=>by have:=(nxE_04 h).2.2.1;omega
  unfold bdT bdL
  have e0:bdE l L w room=nxE l L w room:=if_neg hc
  have hne:¬ nxE l L w room=0:=fun h=>hc (.inl h)
  have hne4:¬ nxE l L w room=4:=fun h=>hc (.inr h)
  rw [e0,if_neg hne,if_neg hne]
  generalize nxE l L w room=e at *
  refine enT Tryz.func41 Tryz.ntmps41 fun v0=>?_
  repeat' first|refine w9x ?_|refine w9p (hN) ?_|(refine w9c ?_ ?_<;>intro _<;>try exact w9o)|fail
  all_goals first|(exfalso;omega)|exact .mkL rfl (le_tup3 .nil .nil (.refl _)) rfl
 | succ f ih =>
  intro L room hf hL
  have hN:=nextOf_spec l L w room hl hL
  unfold bdT bdL
  by_cases hc:nxE l L w room=0∨nxE l L w room=4
  ·have e0:bdE l L w room=0:=if_pos hc
   rw [e0,if_pos rfl,if_pos rfl]
   obtain⟨g1,g2,g3⟩:=nxE_04 hc
   by_cases c2:nxE l L w room=0
   ·obtain⟨_,_,_,i,hi,hk,hd,htk,hs1,hs2⟩:=nx_at c2
    have hac:=(tkE_ok htk).2.2
    have hx:l[i]?=some l[i]:=List.getElem?_eq_getElem hi
    have hT:=takeOf_spec L l[i] w hL (hl.s1 _ (List.getElem_mem hi)) (hl.s2 _ (List.getElem_mem hi))
    unfold resA at hT
    rw [if_pos htk] at hT
    have hI:=ih (tkM L l[i] w) (room-siz l[i]) (by omega) (tkM_L hL)
    have hbl:=bld_len (l:=l) (w:=w) f (tkM L l[i] w) (room-siz l[i]) (by omega)
    have e2:bdE l (tkM L l[i] w) w (room-siz l[i])=0:=if_pos (nxE_next g1 hac (by omega))
    unfold bdT bdL at hI
    rw [e2,if_pos rfl,if_pos rfl] at hI
    rw [bld_step c2 hk hd]
    rw [hk,c2] at hN
    have hs1:1≤l[i].2.2.2.2.2.1:=hs1
    have hs2:l[i].2.2.2.2.2.1≤room:=hs2
    have hI:FnSpec Sy.P 41 [.sl false 6 (l.map dlA),.sl false 3 ((tkM L l[i] w).map acA),.str w,.int (room-l[i].2.2.2.2.2.1)] [.sl false 6 (l.map dlA),.sl false 3 ((tkM L l[i] w).map acA),.str w,.int (room-l[i].2.2.2.2.2.1)] _:=hI
    generalize bld l w f (tkM L l[i] w) (room-siz l[i])=R at *
    generalize l[i]=d at *
    refine enT Tryz.func41 Tryz.ntmps41 fun v0=>?_
    repeat' first|(refine J.freezeO 13 rfl rfl (sh_map (fun _=>rfl)) rfl ?_)|refine w9x ?_|refine w9p (hN) ?_|refine w9p (hT) ?_|refine w9p (hI) ?_|(refine w9c ?_ ?_<;>intro _<;>try exact w9o)|fail
    all_goals exact w9e
   ·have c4:nxE l L w room=4:=by omega
    rw [bld_end c2]
    rw [c4] at hN
    generalize nxK l L w room=k at *
    refine enT Tryz.func41 Tryz.ntmps41 fun v0=>?_
    repeat' first|refine w9x ?_|refine w9p (hN) ?_|(refine w9c ?_ ?_<;>intro _<;>try exact w9o)|fail
    all_goals first|(exfalso;omega)|exact .mkL rfl (le_tup3 .nil (.refl _) (.refl _)) rfl
  ·have e0:bdE l L w room=nxE l L w room:=if_neg hc
   have hne:¬ nxE l L w room=0:=fun h=>hc (.inl h)
   have hne4:¬ nxE l L w room=4:=fun h=>hc (.inr h)
   rw [e0,if_neg hne,if_neg hne]
   generalize nxE l L w room=e at *
   refine enT Tryz.func41 Tryz.ntmps41 fun v0=>?_
   repeat' first|refine w9x ?_|refine w9p (hN) ?_|(refine w9c ?_ ?_<;>intro _<;>try exact w9o)|fail
   all_goals first|(exfalso;omega)|exact .mkL rfl (le_tup3 .nil .nil (.refl _)) rfl
end Go.Proofs.YtkkcnppgcnmikaaGreatDoor
