/- The reference's counts: the walk. -/
import Derived.Test.YtkkcnppgcnmikaaGreatDoorAee
import Derived.Test.YtkkcnppgcnmikaaGreatDoorAdg
import Derived.Test.YtkkcnppgcnmikaaGreatDoorAdh
import Derived.Test.YtkkcnppgcnmikaaGreatDoorAdi
import Derived.Test.YtkkcnppgcnmikaaGreatDoorAed
import Derived.Test.YtkkcnppgcnmikaaGreatDoorChecked
import Derived.Shelf.Strings.FieldsFuncAny
import Derived.Test.YtkkcnppgcnmikaaGreatDoorAdc
import Derived.Test.YtkkcnppgcnmikaaGreatDoorAde
namespace Go.Proofs.YtkkcnppgcnmikaaGreatDoor
open Go FM
set_option maxRecDepth 10000
set_option maxHeartbeats 800000
set_option linter.all false
theorem SwingsOf_spec(w:List Int)(q:Int)(hw:okW w)(hq:1≤q)(hn:1≤w.length):FnSpec Sy.P 163 [.sl false 1 ((w).map .int),.int q] [.sl false 1 ((w).map .int),.int q] (.tup [.sl true 1 ((swingsL w q).map .int),.sl true 1 ((pivL w q).map .int)]):=by
 refine enT Tryz.func163 Tryz.ntmps163 fun v0=>?_
 have hl:=hw.1
 have hp:=pow_len hl
 have hlen:w.length≤62:=by omega
 repeat' first|refine w9z ?_|(refine w9c ?_ ?_<;>intro _<;>try exact w9o)|fail
 refine CW.cut [(0,.av (.sl false 1 ((w).map .int))),(1,.av (.int (q))),(6,.av (.sl true 1 ((List.replicate w.length 0).map .int))),(7,.av (.sl true 1 ((List.replicate w.length 0).map .int)))] ?_ ?_
 ·refine CW.reg0 8 rfl [false,false,false,false,false,false,false,false] (by kernel_rfl) rfl ?_
  refine w9jt 0 ?_
  refine w9jt 3 ?_
  refine w9j2 1 4 ?_ ?_
  ·repeat' first|refine w9j ?_|fail
   refine w9j2 2 4 ?_ ?_
   ·repeat' first|refine w9j ?_|fail
    refine w9jt 6 ?_
    refine w9j1 4 ?_
    repeat' first|refine w9j ?_|fail
    refine w9j1 5 ?_
    repeat' first|refine w9j ?_|fail
    refine w9jt 7 ?_
    refine JA.done (by kernel_rfl) ?_
    exact⟨rfl,w9a⟩
   ·repeat' first|refine w9j ?_|fail
    refine w9j2 2 5 ?_ ?_
    ·repeat' first|refine w9j ?_|fail
     refine w9jt 6 ?_
     refine w9j1 5 ?_
     repeat' first|refine w9j ?_|fail
     refine w9jt 7 ?_
     refine JA.done (by kernel_rfl) ?_
     exact⟨rfl,w9a⟩
    ·repeat' first|refine w9j ?_|fail
     refine w9j1 2 ?_
     repeat' first|refine w9j ?_|fail
     refine w9jt 6 ?_
     refine w9jt 7 ?_
     refine JA.done (by kernel_rfl) ?_
     exact⟨rfl,w9a⟩
  ·repeat' first|refine w9j ?_|fail
   refine w9j2 1 5 ?_ ?_
   ·repeat' first|refine w9j ?_|fail
    refine w9j2 2 5 ?_ ?_
    ·repeat' first|refine w9j ?_|fail
     refine w9jt 6 ?_
     refine w9j1 5 ?_
     repeat' first|refine w9j ?_|fail
     refine w9jt 7 ?_
     refine JA.done (by kernel_rfl) ?_
     exact⟨rfl,w9a⟩
    ·repeat' first|refine w9j ?_|fail
     refine w9j1 2 ?_
     repeat' first|refine w9j ?_|fail
     refine w9jt 6 ?_
     refine w9jt 7 ?_
     refine JA.done (by kernel_rfl) ?_
     exact⟨rfl,w9a⟩
   ·repeat' first|refine w9j ?_|fail
    refine w9j1 1 ?_
    repeat' first|refine w9j ?_|fail
    refine w9j1 2 ?_
    repeat' first|refine w9j ?_|fail
    refine w9jt 6 ?_
    refine w9jt 7 ?_
    refine JA.done (by kernel_rfl) ?_
    exact⟨rfl,w9a⟩
 repeat' first|refine w9x ?_|(refine w9c ?_ ?_<;>intro _<;>try exact w9o)|fail
 refine CW.loop (fun s:Nat=>[(0,.av (.sl false 1 ((w).map .int))),(1,.av (.int (q))),(6,.av (.sl true 1 ((accW (gS w q) w.length s 0).map .int))),(7,.av (.sl true 1 ((List.replicate w.length 0).map .int))),(23,.av (.int (((2 ^ w.length:Nat):Int)))),(24,.av (.int (s)))]) (fun s=>s≤2 ^ w.length) (fun s=>2 ^ w.length-s) (0) ?_ (by(repeat' (first|exact w9b|refine And.intro ?_ ?_|exact ints_congr accW_zero))) ?_
 ·exact Nat.zero_le _
 intro s hs
 by_cases hlt:s<2 ^ w.length
 ·repeat' first|refine w9x ?_|(refine w9c ?_ ?_<;>intro _<;>try exact w9o)|fail
  refine CW.loop (fun i:Nat=>[(0,.av (.sl false 1 ((w).map .int))),(1,.av (.int (q))),(6,.av (.sl true 1 ((accW (gS w q) w.length s i).map .int))),(7,.av (.sl true 1 ((List.replicate w.length 0).map .int))),(8,.av (.int (s))),(23,.av (.int (((2 ^ w.length:Nat):Int)))),(24,.av (.int (s))),(28,.av (.int (w.length))),(29,.av (.int (i)))]) (fun i=>i≤w.length) (fun i=>w.length-i) (0) ?_ (w9a) ?_
  ·exact Nat.zero_le _
  intro i hi
  by_cases hil:i<w.length
  ·have hi62:i≤62:=by omega
   have hsl:=shr_le s i
   have hat:=accW_at (g:=gS w q) (s:=s) hil
   have hbd:=sum_range_bound (f:=fun s'=>gS w q s' i) (m:=1) s fun k _=>gS_le w q k i
   have hlen2:=accW_length (gS w q) w.length s i
   have hil2:i<(accW (gS w q) w.length s i).length:=by omega
   have hx:w[i]?=some w[i]:=List.getElem?_eq_getElem hil
   have hxb:=hw.2 _ (List.getElem_mem hil)
   have hvb:=hv_bound w s hw.2
   have hh:=heavy_spec w s hw (by omega)
   by_cases c1:shr s i%2=1
   ·have hoff:=hv_off w s i hil c1
    by_cases c2:q≤hv w s
    ·by_cases c3:hv w s-w[i]<q
     ·have hk:=accW_succ (g:=gS w q) (s:=s) hil (v:=1) (gS_pos ⟨c1,c2,by omega⟩).symm
      repeat' first|refine w9x ?_|refine w9p (hh) ?_|(refine w9c ?_ ?_<;>intro _<;>try exact w9o)|fail
      refine⟨i+1,?_,w9n,w9a⟩
      omega
     ·have hk:=accW_skip (g:=gS w q) (s:=s) hil (gS_neg fun h=>h.2.2 (by omega))
      repeat' first|refine w9x ?_|refine w9p (hh) ?_|(refine w9c ?_ ?_<;>intro _<;>try exact w9o)|fail
      refine⟨i+1,?_,w9n,w9a⟩
      omega
    ·have hk:=accW_skip (g:=gS w q) (s:=s) hil (gS_neg fun h=>c2 h.2.1)
     repeat' first|refine w9x ?_|refine w9p (hh) ?_|(refine w9c ?_ ?_<;>intro _<;>try exact w9o)|fail
     refine⟨i+1,?_,w9n,w9a⟩
     omega
   ·have hk:=accW_skip (g:=gS w q) (s:=s) hil (gS_neg fun h=>c1 h.1)
    repeat' first|refine w9x ?_|refine w9p (hh) ?_|(refine w9c ?_ ?_<;>intro _<;>try exact w9o)|fail
    refine⟨i+1,?_,w9n,w9a⟩
    omega
  ·obtain rfl:i=w.length:=by omega
   rw [accW_end]
   repeat' first|refine w9x ?_|(refine w9c ?_ ?_<;>intro _<;>try exact w9o)|fail
   refine⟨s+1,?_,w9n,w9a⟩
   omega
 ·obtain rfl:s=2 ^ w.length:=by omega
  have hsd:=SidesP_spec w.length (by omega)
  have hao:=AllOrders_spec w.length (iotaP w.length) (iotaP_length _) hl
  have hRl:=allOrders_length w.length _ (iotaP_length _)
  have hRr:=allOrders_row w.length _ (iotaP_length _)
  have hRm:=allOrders_mem w.length (iotaP w.length)
  have hpv:pivL w q=(allOrders w.length (iotaP w.length)).foldl (runP w q) (List.replicate w.length 0):=rfl
  generalize allOrders w.length (iotaP w.length)=R at *
  have hfl:=factP_le w.length hl
  repeat' first|refine w9x ?_|refine w9p (hsd) ?_|refine w9p (hao) ?_|(refine J.freezeO 66 rfl rfl sh_int rfl ?_)|(refine w9c ?_ ?_<;>intro _<;>try exact w9o)|fail
  refine CW.loop (fun k:Nat=>[(0,.av (.sl false 1 ((w).map .int))),(1,.av (.int (q))),(6,.av (.sl true 1 ((accW (gS w q) w.length (2 ^ w.length) 0).map .int))),(7,.av (.sl true 1 (((R.take k).foldl (runP w q) (List.replicate w.length 0)).map .int))),(67,.av (.sl true 1 (R.map rowS))),(68,.av (.int (R.length))),(69,.av (.int (k)))]) (fun k=>k≤R.length) (fun k=>R.length-k) (0) ?_ (w9a) ?_
  ·exact Nat.zero_le _
  intro k hk
  by_cases hkl:k<R.length
  ·have hr:R[k]?=some R[k]:=List.getElem?_eq_getElem hkl
   have hrl:=hRr _ (List.getElem_mem hkl)
   have hrm:=hRm _ (List.getElem_mem hkl)
   have hB:=foldR_inB (w:=w) (q:=q) (n:=w.length) (m:=w.length) (R.take k) 0 (List.replicate w.length 0) (fun r hr=>hRr r (List.mem_of_mem_take hr)) ⟨by simp,fun v hv=>by rw [List.eq_of_mem_replicate hv];simp⟩
   have hfold:=foldl_take_succ (runP w q) (List.replicate w.length 0) R k hkl
   have hm6:0+(R.take k).length*w.length≤4320:=by
    have h1:(R.take k).length≤720:=by rw [List.length_take];omega
    have:=Nat.mul_le_mul h1 hl
    omega
   generalize (R.take k).foldl (runP w q) (List.replicate w.length 0)=B at *
   generalize 0+(R.take k).length*w.length=M at *
   repeat' first|refine w9x ?_|(refine w9c ?_ ?_<;>intro _<;>try exact w9o)|fail
   refine CW.loop (fun j:Nat=>[(0,.av (.sl false 1 ((w).map .int))),(1,.av (.int (q))),(6,.av (.sl true 1 ((accW (gS w q) w.length (2 ^ w.length) 0).map .int))),(7,.av (.sl true 1 ((((R[k].take j).foldl (stepP w q) (B,0)).1).map .int))),(12,.av (.int (((R[k].take j).foldl (stepP w q) (B,0)).2))),(67,.av (.sl true 1 (R.map rowS))),(68,.av (.int (R.length))),(69,.av (.int (k))),(73,.av (.sl false 1 ((R[k]).map .int))),(74,.av (.int (R[k].length))),(75,.av (.int (j)))]) (fun j=>j≤R[k].length) (fun j=>R[k].length-j) (0) ?_ (w9a) ?_
   ·exact Nat.zero_le _
   intro j hj
   by_cases hjl:j<R[k].length
   ·have hy:R[k][j]?=some R[k][j]:=List.getElem?_eq_getElem hjl
    have hym:=iota_mem (hrm _ (List.getElem_mem hjl))
    have hS:=foldl_take_succ (stepP w q) (B,0) R[k] j hjl
    have hIB:=foldP_inB (w:=w) (q:=q) (n:=w.length) (R[k].take j) M (B,0) hB
    have hsum:=foldP_sum (q:=q) hw (R[k].take j) (B,0)
    have htl:(R[k].take j).length≤6:=by rw [List.length_take];omega
    have e1:((R[k].take (j+1)).foldl (stepP w q) (B,0)).1=(if ((R[k].take j).foldl (stepP w q) (B,0)).2<q∧q≤((R[k].take j).foldl (stepP w q) (B,0)).2+w.getD R[k][j].toNat 0 then((R[k].take j).foldl (stepP w q) (B,0)).1.set R[k][j].toNat (((R[k].take j).foldl (stepP w q) (B,0)).1.getD R[k][j].toNat 0+1) else((R[k].take j).foldl (stepP w q) (B,0)).1):=by rw [hS];rfl
    have e2:((R[k].take (j+1)).foldl (stepP w q) (B,0)).2=((R[k].take j).foldl (stepP w q) (B,0)).2+w.getD R[k][j].toNat 0:=by rw [hS];rfl
    generalize (R[k].take j).foldl (stepP w q) (B,0)=st at *
    generalize R[k][j]=x at *
    have hxl:x.toNat<w.length:=by omega
    have hxw:w[x.toNat]?=some w[x.toNat]:=List.getElem?_eq_getElem hxl
    have hxd:w.getD x.toNat 0=w[x.toNat]:=by rw [List.getD_eq_getElem?_getD,hxw];rfl
    have hwb:=hw.2 _ (List.getElem_mem hxl)
    have hbl:x.toNat<st.1.length:=by rw [hIB.1];exact hxl
    have hxb:st.1[x.toNat]?=some st.1[x.toNat]:=List.getElem?_eq_getElem hbl
    have hbd:st.1.getD x.toNat 0=st.1[x.toNat]:=by rw [List.getD_eq_getElem?_getD,hxb];rfl
    have hbb:=hIB.2 _ (List.getElem_mem hbl)
    have hs2:0≤st.2∧st.2≤6000:=⟨hsum.1,by have:=hsum.2;simp only at this;omega⟩
    rw [hxd] at e1 e2
    rw [hbd] at e1
    by_cases c:st.2<q∧q≤st.2+w[x.toNat]
    ·rw [if_pos c] at e1
     repeat' first|refine w9x ?_|(refine w9c ?_ ?_<;>intro _<;>try exact w9o)|fail
     refine⟨j+1,?_,w9n,w9a⟩
     omega
    ·rw [if_neg c] at e1
     repeat' first|refine w9x ?_|(refine w9c ?_ ?_<;>intro _<;>try exact w9o)|fail
     all_goals (refine⟨j+1,?_,w9n,w9a⟩;omega)
   ·obtain rfl:j=R[k].length:=by omega
    rw [List.take_length]
    have hrun:runP w q B R[k]=(R[k].foldl (stepP w q) (B,0)).1:=rfl
    rw [hrun] at hfold
    repeat' first|refine w9x ?_|(refine w9c ?_ ?_<;>intro _<;>try exact w9o)|fail
    refine⟨k+1,?_,w9n,w9a⟩
    omega
  ·obtain rfl:k=R.length:=by omega
   rw [List.take_length,←hpv]
   repeat' first|refine w9x ?_|(refine w9c ?_ ?_<;>intro _<;>try exact w9o)|fail
   exact .mk rfl rfl rfl
end Go.Proofs.YtkkcnppgcnmikaaGreatDoor
namespace Go.Proofs.YtkkcnppgcnmikaaGreatDoor
open Go FM Go.Proofs
set_option maxRecDepth 10000
set_option maxHeartbeats 3200000
set_option linter.all false
inductive Num(w:Str)(l:List Str):Prop
 | ok (t:Str) (a:FnSpec Sy.P 95 [.str w,swS l] [.str w,swS l] (.str t)) (b:FnSpec Sy.P 100 [.str w,.sl false 1 ((l.map nuV).map .int)] [.str w,.sl false 1 ((l.map nuV).map .int)] (.tup [.str t,.bool true]))
 | err (e:Int) (he:0<e∧e≤100) (a:FnDies Sy.P 95 [.str w,swS l] [.str w,swS l] (refd e)) (b:FnSpec Sy.P 100 [.str w,.sl false 1 ((l.map nuV).map .int)] [.str w,.sl false 1 ((l.map nuV).map .int)] (.tup [.str (rfS e),.bool true]))
 | no (a:FnDies Sy.P 95 [.str w,swS l] [.str w,swS l] (refd 12)) (b:FnSpec Sy.P 100 [.str w,.sl false 1 ((l.map nuV).map .int)] [.str w,.sl false 1 ((l.map nuV).map .int)] (.tup [.str [],.bool false]))
theorem mvF_rng{X:Nat}:∀ {m:List Nat} {i:Nat} {r:Nat×Nat},mvF X m i=some r→r.1<i+m.length∧∃ x∈m,r.2≤x
 | [],_,_,h=>by cases h
 | x::m,i,r,h=>by
  unfold mvF at h
  by_cases c:x ^^^ X<x
  ·rw [if_pos c] at h
   cases h
   exact⟨by rw [List.length_cons];omega,x,List.mem_cons_self ..,Nat.sub_le ..⟩
  ·rw [if_neg c] at h
   obtain⟨h1,y,hy,h2⟩:=mvF_rng h
   exact⟨by rw [List.length_cons];omega,y,List.mem_cons_of_mem _ hy,h2⟩
theorem num_piles(l:List Str)(h:l.all nuB=true)(hl:l.length≤10000):Num [112,105,108,101,115] l:=by
 have hxl:(l.map nuV).length=l.length:=List.length_map _
 have hP:=pileErr_spec (l.map nuV) (by omega)
 by_cases c:pileE (l.map nuV)=0
 ·obtain⟨m,e,h6,h40⟩:=pileE_ok c
  rw [c] at hP
  have hC:=pilesCheck_spec (l.map nuV) (by omega)
  rw [c,e] at hC
  have hA:=pilesMove_spec m h6 h40 hC
  have hB:=moveOf_spec m h6 h40
  cases hr:mvF (xr m) m 0 with
  | none =>
   rw [hr] at hA hB
   rw [← e] at hA hB
   exact .err 4 (by decide) (asked_piles_e l h (by omega) _ rfl 0 0 4 (by decide) hA) (reck_piles_no _ hP hB)
  | some r =>
   obtain⟨i,k⟩:=r
   obtain⟨h1,y,hy,h2⟩:=mvF_rng hr
   have:=h40 y hy
   dsimp only at h1 h2
   rw [hr] at hA hB
   rw [← e] at hA hB
   have hrng:∀ x∈[(i:Int),(k:Int)],0≤x∧x≤1000000000:=fun x hx=>by
    simp only [List.mem_cons,List.not_mem_nil,or_false] at hx
    rcases hx with rfl|rfl<;>omega
   exact .ok _ (asked_piles l h (by omega) _ rfl i k hrng hA) (reck_piles _ i k hrng hP hB)
 ·have hr:0≤pileE (l.map nuV)∧pileE (l.map nuV)≤100:=by
   unfold pileE;repeat' split
   all_goals omega
  exact .err _ (by omega) (asked_piles_e l h (by omega) _ rfl 0 0 _ c (pilesMoveErr_spec _ c (by omega))) (reck_piles_e _ _ (by omega) hP)
theorem oth_up{l:List Int}{r b:Int}(h:BOk l r):∀ k,k≤l.length→oth l r b k≤1000000
 | 0,_=>h.r1
 | k+1,hk=>by
  have ih:=oth_up h (b:=b) k (by omega)
  have hx:=h.ok _ (List.getElem_mem (show k<l.length by omega))
  rw [oth]
  split
  ·exact ih
  ·rw [atZ_get (by omega)];omega
theorem num_second(l:List Str)(h:l.all nuB=true)(hl:l.length≤10000)(h1:1≤l.length):Num [115,101,99,111,110,100] l:=by
 match l,h1 with
 | s::l',_ =>
 obtain⟨r,hr⟩:∃ r,r=nuV s:=⟨_,rfl⟩
 obtain⟨b,hb⟩:∃ b,b=l'.map nuV:=⟨_,rfl⟩
 have hx:(s::l').map nuV=r::b:=by rw [hr,hb];rfl
 have hbl:b.length=l'.length:=by rw [hb,List.length_map]
 rw [List.length_cons] at hl
 have hE:=bidErr_spec b r (by omega)
 have hS:=second_spec b r (by omega)
 unfold secP at hS
 by_cases c:bidE b r=0
 ·have hB:=bidE_ok c
  have hO:=secondOf_spec b r hB
  unfold secR at hO
  rw [if_neg (not_not_intro c)] at hS
  rw [c] at hE
  have hbr:=bst_range b r b.length
  by_cases c2:bst b r b.length<0
  ·rw [if_pos c2] at hS hO
   refine .err 4 (by decide) (asked_second_e _ h (by rw [List.length_cons];omega) r b hx 0 0 4 (by decide) hS) ?_
   rw [hx];exact reck_second_no r b hE hO
  ·rw [if_neg c2] at hS hO
   have g1:=(oth_ge (l:=b) (r:=r) (b:=bst b r b.length) b.length).1
   have g2:=oth_up hB (b:=bst b r b.length) b.length (Nat.le_refl _)
   have g3:=hB.r0
   have g4:=hB.len
   generalize bst b r b.length=i at *
   generalize oth b r i b.length=z at *
   have hrng:∀ x∈[i,z],0≤x∧x≤1000000000:=fun x hx=>by
    simp only [List.mem_cons,List.not_mem_nil,or_false] at hx
    rcases hx with rfl|rfl<;>omega
   refine .ok _ (asked_second _ h (by rw [List.length_cons];omega) r b hx i z hrng hS) ?_
   rw [hx];exact reck_second r b i z hrng hE hO
 ·have hrg:0≤bidE b r∧bidE b r≤100:=by
   unfold bidE;repeat' split
   all_goals omega
  rw [if_pos c] at hS
  refine .err _ (by omega) (asked_second_e _ h (by rw [List.length_cons];omega) r b hx 0 0 _ c hS) ?_
  rw [hx];exact reck_second_e r b _ (by omega) hE
theorem num_seats(l:List Str)(h:l.all nuB=true)(hl:l.length≤10000)(h2:2≤l.length):Num [115,101,97,116,115] l:=by
 match l,h2 with
 | s::s2::l',_ =>
 obtain⟨y,hy⟩:∃ r,r=nuV s:=⟨_,rfl⟩
 obtain⟨H,hH⟩:∃ r,r=nuV s2:=⟨_,rfl⟩
 obtain⟨p,hp⟩:∃ b,b=l'.map nuV:=⟨_,rfl⟩
 have hx:(s::s2::l').map nuV=y::H::p:=by rw [hy,hH,hp];rfl
 have hbl:p.length=l'.length:=by rw [hp,List.length_map]
 simp only [List.length_cons] at hl
 have hL:(s::s2::l').length≤1000000:=by simp only [List.length_cons];omega
 have hE:=peopleErr_spec p H (by omega)
 by_cases c1:y<1∨3<y
 ·refine .err 1 (by decide) (asked_seats_e _ h hL y H p hx 1 (by decide) (share_way y H p c1)) ?_
  rw [hx];exact reck_seats_y y H p _ c1 hE
 have hy3:1≤y∧y≤3:=by omega
 by_cases c2:peE p H≠0
 ·have hrg:0≤peE p H∧peE p H≤100:=by
   unfold peE;repeat' split
   all_goals omega
  refine .err (peE p H) (by omega) (asked_seats_e _ h hL y H p hx _ c2 (share_err y H p hy3 (by omega) c2)) ?_
  rw [hx];exact reck_seats_e y H p _ hy3 (by omega) hE
 have he:peE p H=0:=Classical.not_not.1 c2
 have hk:0<p.length∧p.length≤8∧(∀ x∈p,0≤x∧x≤1000000)∧0<p.sum∧0≤H∧H≤100:=by
  unfold peE at he
  by_cases k1:p.length=0∨8<p.length
  ·rw [if_pos k1] at he;cases he
  rw [if_neg k1] at he
  by_cases k2:p.any badPp=true
  ·rw [if_pos k2] at he;cases he
  rw [if_neg k2] at he
  have hall:=pe_all (by simpa using k2)
  have hne:p≠[]:=fun e=>by rw [e] at k1;exact k1 (.inl rfl)
  by_cases k3:gmax p=0
  ·rw [if_pos k3] at he;cases he
  rw [if_neg k3] at he
  have k3':¬ p.sum=0:=fun e=>k3 ((gmax_zero hne hall).2 e)
  have hs:=sum_nn hall
  by_cases k4:H<0∨100<H
  ·rw [if_pos k4] at he;cases he
  exact⟨by omega,by omega,hall,by omega,by omega,by omega⟩
 obtain⟨k1,k2,k3,k4,k5,k6⟩:=hk
 rw [he] at hE
 have fin:∀ R:List Int,R.length≤1000→(∀ x∈R,0≤x∧x≤1000000000)→FnSpec Sy.P 154 [.int y,.sl false 1 ((p).map .int),.int H] [.int y,.sl false 1 ((p).map .int),.int H] (.tup [.sl true 1 ((R).map .int),.int 0])→FnSpec Sy.P 161 [.int y,.sl false 1 ((p).map .int),.int H] [.int y,.sl false 1 ((p).map .int),.int H] (.sl true 1 ((R).map .int))→Num [115,101,97,116,115] (s::s2::l'):=fun R hR hr hS hO=>by
  refine .ok _ (asked_seats _ h hL y H p hx R hR hr hS) ?_
  rw [hx];exact reck_seats y H p hy3 R hR hr hE hO
 obtain⟨n,hn⟩:∃ n:Nat,H=n:=⟨H.toNat,by omega⟩
 rw [hn] at he fin
 by_cases c3:y=3
 ·rw [c3] at fin
  refine fin _ (by rw [cntB_len,List.length_map];omega) (fun x hx=>?_) (share3 n (by omega) p k1 k2 k3 k4 he) (sharesOf3 n (by omega) p k1 k2 k3 k4)
  unfold cntB at hx
  obtain⟨i,hi,rfl⟩:=List.mem_map.1 hx
  rw [List.mem_range,List.length_map] at hi
  have hq:=(qm_ok (H:=n) k4 (by omega) (k3 _ (List.getElem_mem hi))).2.1
  have hc:=cw_le ((sr3 n p).take (lf3 n p)) i
  have hs:((sr3 n p).take (lf3 n p)).length≤p.length:=by
   rw [List.length_take]
   have:(sr3 n p).length=p.length:=by unfold sr3;rw [srt_len,rm3_len,List.length_map]
   omega
  rw [List.getD_eq_getElem?_getD,List.getElem?_map,List.getElem?_eq_getElem hi]
  simp only [Option.map_some,Option.getD_some]
  omega
 ·refine fin _ (by rw [cnts_len];omega) (fun x hx=>?_) (share12 y (by omega) n (by omega) p k1 k2 k3 he) (sharesOf12 y (by omega) n (by omega) p k1 k2 k3)
  unfold cnts at hx
  obtain⟨i,hi,rfl⟩:=List.mem_map.1 hx
  have hc:=cw_le ((srtP (pts y n 0 p)).take n) i
  rw [List.length_take] at hc
  omega
theorem sum_01{f:Nat→Int}:∀ (l:List Nat),(∀ s,0≤f s∧f s≤1)→0≤(l.map f).sum∧(l.map f).sum≤l.length
 | [],_=>by simp
 | s::l,h=>by
  have:=sum_01 l h
  have:=h s
  simp only [List.map_cons,List.sum_cons,List.length_cons]
  omega
theorem num_swings(l:List Str)(h:l.all nuB=true)(hl:l.length≤10000)(h1:1≤l.length):Num [115,119,105,110,103,115] l:=by
 match l,h1 with
 | s::l',_ =>
 obtain⟨q,hq⟩:∃ r,r=nuV s:=⟨_,rfl⟩
 obtain⟨u,hu⟩:∃ b,b=l'.map nuV:=⟨_,rfl⟩
 have hx:(s::l').map nuV=q::u:=by rw [hq,hu];rfl
 have hL:(s::l').length≤1000000:=by omega
 have hE:=powerErr_spec u q
 have hS:=Swings_spec u q
 by_cases c:pwErr u q=0
 ·obtain⟨hw,w1,w2,_⟩:=pwErr_zero c
  rw [if_pos c,c] at hS
  rw [c] at hE
  have hO:=SwingsOf_spec u q hw w2 w1
  have h6:=hw.1
  have hp:=pow_len h6
  have hsl:(swingsL u q).length≤1000:=by unfold swingsL;rw [accW_length];omega
  have hr:∀ x∈swingsL u q,0≤x∧x≤1000000000:=fun x hx=>by
   unfold swingsL accW at hx
   obtain⟨j,_,rfl⟩:=List.mem_map.1 hx
   rw [if_neg (Nat.not_lt_zero j)]
   have:=sum_01 (f:=fun s'=>gS u q s' j) (List.range (2 ^ u.length)) fun s=>gS_le u q s j
   rw [List.length_range] at this
   omega
  refine .ok _ (asked_swings _ h hL q u hx _ hsl hr hS) ?_
  rw [hx];exact reck_swings q u (pivL u q) _ hsl hr hE hO
 ·have hrg:=pwErr_range u q
  rw [if_neg c] at hS
  refine .err _ (by omega) (asked_swings_e _ h hL q u hx _ c hS) ?_
  rw [hx];exact reck_swings_e q u _ (by omega) hE
theorem num_both(w:Str)(l:List Str)(h:l.all nuB=true)(hl:l.length≤10000):Num w l:=by
 by_cases c0:w=[112,105,108,101,115]
 ·subst c0;exact num_piles l h hl
 by_cases c1:w=[115,101,99,111,110,100]∧1≤l.length
 ·obtain⟨rfl,g⟩:=c1;exact num_second l h hl g
 by_cases c2:w=[115,101,97,116,115]∧2≤l.length
 ·obtain⟨rfl,g⟩:=c2;exact num_seats l h hl g
 by_cases c3:w=[115,119,105,110,103,115]∧1≤l.length
 ·obtain⟨rfl,g⟩:=c3;exact num_swings l h hl g
 have hm:(l.map nuV).length=l.length:=List.length_map _
 exact .no (asked_none w l h (by omega) (fun g=>c0 g.1) c1 c2 c3) (reck_none w _ (fun g=>c0 g.1) (by rw [hm];exact c1) (by rw [hm];exact c2) (by rw [hm];exact c3))
end Go.Proofs.YtkkcnppgcnmikaaGreatDoor
namespace Go.Proofs.YtkkcnppgcnmikaaGreatDoor
open Go Go.Proofs
set_option linter.all false
def lffn_ren:Go.Shelf.Ren:=⟨fun|229=>96|n=>n,fun|9=>9|40=>150|31=>51|152=>206|3=>3|0=>0|4=>4|21=>21|154=>208|n=>n,fun|n=>n⟩
theorem lffn:Lays.n229 Tryz.prog lffn_ren:={
 mixed:=by kernel_rfl,
 f229:=Tryz.func96.trans (congrArg some (by kernel_rfl)),
 t0:=Tryz.underlying0,
 a0:=Tryz.isAgg0,
 z0:=Tryz.sizeOf0,
 v0:=Tryz.zeroValue0,
 t3:=Tryz.underlying3,
 a3:=Tryz.isAgg3,
 z3:=Tryz.sizeOf3,
 v3:=Tryz.zeroValue3,
 t4:=Tryz.underlying4,
 a4:=Tryz.isAgg4,
 z4:=Tryz.sizeOf4,
 v4:=Tryz.zeroValue4,
 t9:=Tryz.underlying9,
 a9:=Tryz.isAgg9,
 z9:=Tryz.sizeOf9,
 v9:=Tryz.zeroValue9,
 t21:=Tryz.underlying21,
 a21:=Tryz.isAgg21,
 z21:=Tryz.sizeOf21,
 v21:=Tryz.zeroValue21,
 t31:=Tryz.underlying51,
 a31:=Tryz.isAgg51,
 z31:=Tryz.sizeOf51,
 v31:=Tryz.zeroValue51,
 t40:=Tryz.underlying150,
 a40:=Tryz.isAgg150,
 z40:=Tryz.sizeOf150,
 v40:=Tryz.zeroValue150,
 t152:=Tryz.underlying206,
 a152:=Tryz.isAgg206,
 z152:=Tryz.sizeOf206,
 v152:=Tryz.zeroValue206,
 t154:=Tryz.underlying208,
 a154:=Tryz.isAgg208,
 z154:=Tryz.sizeOf208,
 v154:=Tryz.zeroValue208 }
end Go.Proofs.YtkkcnppgcnmikaaGreatDoor
namespace FM
open Go Go.RowKit Go.Proofs
set_option linter.all false
theorem FnSpec.ofStrsA{P:Program}{f:Nat}{bs:List AV}(ls:List (List UInt8))(hf:FnOk P f)(t:TypeId)
  (h:∀ (w:World) (L:Nat→Lab) (vs:List Value),vs.length=bs.length→(∀ i x v,bs[i]?=some x→vs[i]?=some v→Rep L w (some [i]) x v)→FM.Glob L w→Calls P f vs.toArray w fun e w'=>∃ A,e=.returned (.slice (some ⟨A,0,none⟩) ls.length ls.length)∧w.heap.size≤A ∧
   w'.ownsRow w.heap.size t 1 (.slice (some ⟨A,0,none⟩) ls.length ls.length) ls.length (ls.map fun l=>Value.string ⟨l.toArray⟩)∧Below w.heap.size w w'):FnSpec P f bs bs (.sl true 1 (ls.map .str)) where
 ok:=hf
 calls:=fun w L vs hl hpre hrep=>(h w L vs hl hrep hpre.glob).mono fun e w' ⟨A,he,hA,hO,hB⟩=>by
  obtain⟨cur,hnb,hcs⟩:∃ cur,w'.heap[A]?=some (.cells cur t (0,0))∧cur=(ls.map fun l=>Value.string ⟨l.toArray⟩).toArray:=by
   rcases hO.2 with⟨h,_⟩|⟨g,cap,cur,h1,h2,h3,h4,h5,h6,h7⟩
   ·cases h
   ·cases h1
    refine⟨cur,h3,?_⟩
    apply Array.ext'
    rw [← h7,List.take_of_length_le (by rw [Array.length_toList,h6];exact Nat.le_refl _)]
  subst hcs
  have hAs:A<w'.heap.size:=(Array.getElem?_eq_some_iff.1 hnb).1
  have hws:=hB.size
  have hwk:=hB.block
  obtain⟨L',hL'⟩:∃ L':Nat→Lab,L'=fun b'=>if b'=A then .my [bs.length] else if b'<w.heap.size then L b' else .sh:=⟨_,rfl⟩
  have l1:L' A=.my [bs.length]:=by rw [hL'];simp
  have l2:∀ b',b'<w.heap.size→L' b'=L b':=fun b' h=>by rw [hL'];simp [h,show b'≠A by omega]
  have l3:∀ b',b'≠A→¬ b'<w.heap.size→L' b'=.sh:=fun b' h1 h2=>by rw [hL'];simp [h1,h2]
  clear hL'
  have lno:∀ b',L b'≠.my [bs.length]:=fun b' h=>by obtain⟨i,q,e1,e2⟩:=hpre.head b' _ h;cases e1;omega
  have my:∀ b p,L' b=.my p→(b=A∧p=[bs.length])∨(b<w.heap.size∧L b=.my p):=fun b p hb=>by
   by_cases e:b=A
   ·subst e;rw [l1] at hb;cases hb;exact .inl ⟨rfl,rfl⟩
   ·by_cases e2:b<w.heap.size
    ·rw [l2 b e2] at hb;exact .inr ⟨e2,hb⟩
    ·rw [l3 b e e2] at hb;cases hb
  refine⟨_,L',he,⟨hB.os,hB.tape,hB.output,hws,fun b hb _=>hwk b hb⟩,⟨fun b' p hp=>?_,fun b1 b2 p h1 h2=>?_,fun b' p hp e=>?_,fun b' p hlt hp=>?_,fun b' hlt=>?_,fun b' h1 h2=>?_⟩,fun b' p hp=>?_,fun i x u hx hu=>?_,?_⟩
  ·rcases my _ _ hp with⟨rfl,_⟩|⟨h,_⟩<;>omega
  ·rcases my _ _ h1 with⟨rfl,rfl⟩|⟨g1,g2⟩<;>rcases my _ _ h2 with⟨rfl,e⟩|⟨g3,g4⟩
   ·rfl
   ·exact absurd g4 (lno b2)
   ·subst e;exact absurd g2 (lno b1)
   ·exact hpre.inj b1 b2 p g2 g4
  ·subst e
   rcases my _ _ hp with⟨rfl,h⟩|⟨_,h⟩
   ·cases h
   ·obtain⟨i,q,h,_⟩:=hpre.head b' [] h;cases h
  ·rw [l2 b' hlt] at hp;exact⟨p,hp⟩
  ·rw [l2 b' hlt]
  ·by_cases e:b'=A
   ·subst e;rw [l1] at h2;cases h2
   ·by_cases e2:b'<w.heap.size
    ·omega
    ·rw [l3 b' e e2] at h2;cases h2
  ·rcases my _ _ hp with⟨rfl,rfl⟩|⟨_,h⟩
   ·exact⟨_,[],rfl,Nat.le_refl _⟩
   ·obtain⟨i,q,h,h2⟩:=hpre.head b' p h;exact⟨i,q,h,Nat.le_of_lt h2⟩
  ·refine(hrep i x u hx hu).frame hws hB.os hB.tape hB.output (fun b h1 h2=>⟨by rw [l2 b h2];exact h1,hwk b h2⟩) _ fun p hp=>⟨p,hp,fun b q h1=>?_⟩
   have hb:=hpre.lt b _ h1
   exact⟨by rw [l2 b hb];exact h1,hwk b hb⟩
  ·have hsl:(ls.map AV.str).length=ls.length:=List.length_map _
   rw [← hsl]
   refine .slO (fun o=>.string ⟨(ls.getD o []).toArray⟩) l1 hnb (by rw [hsl];exact Nat.le_refl _) (by simp) (fun x hx=>by obtain⟨y,_,rfl⟩:=List.mem_map.1 hx;rfl) (fun o ho=>?_) fun o y hy=>?_
   ·rw [hsl,Nat.mul_one] at ho
    simp [ho,List.getD_eq_getElem?_getD]
   ·rw [flat_single (fun x hx=>by obtain⟨y,_,rfl⟩:=List.mem_map.1 hx;rfl),List.getElem?_map,Option.map_eq_some_iff] at hy
    obtain⟨z,hz,rfl⟩:=hy
    rw [List.getD_eq_getElem?_getD,hz];exact .str
end FM
namespace Go.Proofs.YtkkcnppgcnmikaaGreatDoor
open Go FM Go.Proofs
set_option maxRecDepth 10000
set_option maxHeartbeats 3200000
set_option linter.all false
theorem clo32(W:World)(x:Nat)(hx:x≤1114111):FnGives Sy.P 97 #[] #[.int .i32 (x:Int)] (.bool (Xf.isB x)) W:=by
 unfold FnGives
 go_enter Tryz.func97,Tryz.ntmps97
 go_wp2
 exact⟨rfl,_,results_tmp rfl _ _ _,by
  have e:((x:Int)==32)=Xf.isB x:=by
   unfold Xf.isB
   rw [Bool.eq_iff_iff];simp;omega
  show Ending.returned (.bool ((x:Int)==32))=_
  rw [e],0,rfl⟩
theorem ffn_spec(s:Str)(hs:s.length≤5000):FnSpec Sy.P 96 [.str s,.val (.func (.func 97) #[] #[])] [.str s,.val (.func (.func 97) #[] #[])] (.sl true 1 ((Xf.wg [] s).map .str)):=by
 refine FnSpec.ofStrsA _ ⟨_,Tryz.func96,rfl,rfl⟩ 9 fun w L vs hl hrep hg=>?_
 match vs,hl,hrep with
 | [u,v],_,hrep =>
  have e1:=hrep 0 _ _ rfl rfl
  have e2:=hrep 1 _ _ rfl rfl
  cases e1;cases e2
  have:=Any.strings_FieldsFunc_runes lffn 97 #[] (fun args w=>by rfl) Xf.isB ⟨s.toArray⟩ w (by rw [mk_size];omega) (fun W x hx _=>clo32 W x hx) (by kernel_rfl) (by kernel_rfl)
  have hw:=Xf.fields_wg s
  refine this.mono fun e w' ⟨A,he,hA,hO,hB⟩=>⟨A,?_,hA,?_,hB⟩
  ·rw [he,←hw,List.length_map]
  ·rw [← hw,List.length_map,List.map_map];exact hO
end Go.Proofs.YtkkcnppgcnmikaaGreatDoor
