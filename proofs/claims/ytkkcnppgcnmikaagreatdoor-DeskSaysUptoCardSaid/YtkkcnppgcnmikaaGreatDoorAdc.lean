/- A house: build, walked. -/
import Derived.Test.YtkkcnppgcnmikaaGreatDoorAdb
import Derived.Test.YtkkcnppgcnmikaaGreatDoorAbf
import Derived.Test.YtkkcnppgcnmikaaGreatDoorAbj
import Derived.Test.YtkkcnppgcnmikaaGreatDoorAcb
namespace Go.Proofs.YtkkcnppgcnmikaaGreatDoor
open Go FM Go.Proofs
set_option maxRecDepth 10000
set_option maxHeartbeats 6400000
set_option linter.all false
section
variable (A:List Ac) (O:List Dl) (k:Str) (n n0:Int) (w:Str) (dl:Dl) (kd:Int)
theorem clean_ok{O:List Dl}{A:List Ac}{w:Str}{room:Int}(h:bdE O A w room=0)(hA:AcL A):clE O (bA O A w room)=0:=by
 unfold clE
 rw [if_neg (not_not_intro (bdE_ok h).1),if_neg (not_not_intro (bA_ok h hA).1)]
theorem build_h(hA:AcL A)(hO:DlL O)(hk:k.length≤4000)(hA6:A.length≤6):FnSpec Sy.P 29 [hsV A O k n,dxA kd n0 w dl] [hsV (buA O A k w n0) (buO O A k w n0) (buD O A k w n0) n,dxA kd n0 w dl] (.tup [tdA (buN O A k w n0) (buM O A k w n0),.int (buE O A k w n0)]):=by
 have hF:=hfind_spec A O k n w (by omega)
 have hB:=build_spec O A w n0 hO hA
 have hZ:=logSize_spec k n
 unfold buA buO buD buN buM
 by_cases c1:fA A w<0
 ·have e:buE O A k w n0=4:=if_pos c1
  rw [e,if_neg (by decide),if_neg (by decide),if_neg (by decide),if_neg (by decide),if_neg (by decide)]
  generalize fA A w=x at *
  refine FnSpec.enter (S:=Sy) 1 Tryz.func29 rfl rfl rfl Tryz.ntmps29 rfl rfl rfl rfl fun v0=>?_
  repeat' first|(refine J.freezeO 3 rfl rfl sh_dxA rfl ?_)|refine w9x ?_|((with_reducible first|apply J.callP (hF)|apply J.callPQ (hF));rfl;rfl;(repeat' (first|exact ArgsOk.nil|exact ArgOk.br rfl AV.noConfusion sh_hs|apply ArgsOk.cons|exact ArgOk.pl rfl rfl|exact ArgOk.br rfl AV.noConfusion (by first|rfl|exact sh_int|exact sh_rows|exact sh_rowsO|exact sh_box|exact sh_map (fun _=>rfl))));(first|rfl|exact gn0|exact gnI))|(refine w9c ?_ ?_<;>intro _<;>try exact w9o)|fail
  all_goals exact w9e
 have e1:buE O A k w n0=if bdE O A w n0≠0 then bdE O A w n0 else if 4000<k.length+(dk (rk O w (bT O A w n0))).length then 8 else 0:=if_neg c1
 by_cases c2:bdE O A w n0≠0
 ·rw [e1,if_pos c2,if_neg c2,if_neg c2,if_neg c2,if_neg c2,if_neg c2]
  generalize fA A w=x at *
  generalize bdT O A w n0 1001=T at *
  generalize bdL O A w n0 1001=B at *
  generalize bdE O A w n0=e at *
  refine FnSpec.enter (S:=Sy) 1 Tryz.func29 rfl rfl rfl Tryz.ntmps29 rfl rfl rfl rfl fun v0=>?_
  repeat' first|(refine J.freezeO 3 rfl rfl sh_dxA rfl ?_)|refine w9U 0 20 ?_|(with_reducible refine JA.held ?_)|refine w9Ft 19 0 ?_|refine w9Ft 18 1 ?_|refine w9Ft 17 2 ?_|refine w9Ft 16 4 ?_|refine w9Ft 15 5 ?_|refine w9Ft 14 6 ?_|refine w9Ft 13 8 ?_|refine w9Ft 12 9 ?_|refine w9Ft 11 10 ?_|refine w9Ft 10 11 ?_|(with_reducible refine JAF.go ?_)|refine w9H2 9 3 7 ?_ ?_|refine w9H1 8 7 ?_|refine w9H1 8 3 ?_|refine w9H1 7 12 ?_|refine w9Hw 6 13 ?_|refine w9Hw 5 14 ?_|refine w9Hw 4 15 ?_|refine w9Hw 3 16 ?_|refine w9Hw 2 17 ?_|refine w9Hw 1 18 ?_|refine w9Hw 0 19 ?_|refine w9H0 ?_|refine w9x ?_|((with_reducible first|apply J.callP (hF)|apply J.callPQ (hF));rfl;rfl;(repeat' (first|exact ArgsOk.nil|exact ArgOk.br rfl AV.noConfusion sh_hs|apply ArgsOk.cons|exact ArgOk.pl rfl rfl|exact ArgOk.br rfl AV.noConfusion (by first|rfl|exact sh_int|exact sh_rows|exact sh_rowsO|exact sh_box|exact sh_map (fun _=>rfl))));(first|rfl|exact gn0|exact gnI))|((with_reducible first|apply J.callP (hB)|apply J.callPQ (hB));rfl;rfl;(repeat' (first|exact ArgsOk.nil|exact ArgOk.br rfl AV.noConfusion sh_hs|apply ArgsOk.cons|exact ArgOk.pl rfl rfl|exact ArgOk.br rfl AV.noConfusion (by first|rfl|exact sh_int|exact sh_rows|exact sh_rowsO|exact sh_box|exact sh_map (fun _=>rfl))));(first|rfl|exact gn0|exact gnI))|(refine w9c ?_ ?_<;>intro _<;>try exact w9o)|fail
  all_goals exact w9e
 have c2:=Classical.not_not.1 c2
 rw [if_neg (not_not_intro c2)] at e1
 obtain⟨g1,g2,g3,g4⟩:=bdE_ok c2
 have hTm:=bT_mem (O:=O) (A:=A) (w:=w) (room:=n0)
 have hTl:=bT_len (O:=O) (A:=A) (w:=w) (room:=n0)
 have hBok:=bA_ok (w:=w) c2 hA
 have hw8:=nm_len (w_name (w:=w) (by omega) g2)
 have hCl:=clean_spec O (bA O A w n0) hO hBok.2
 unfold resD at hCl
 rw [if_pos (clean_ok c2 hA)] at hCl
 have hT0:(0:Int)≤feeS O (bT O A w n0)∧feeS O (bT O A w n0)≤1000000*(bT O A w n0).length:=feeS_bound g1 _ hTm
 have hfb:∀ j,0≤feeS O ((bT O A w n0).take j)∧feeS O ((bT O A w n0).take j)≤1000000*((bT O A w n0).take j).length:=fun j=>feeS_bound g1 _ fun x hx=>hTm x (List.mem_of_mem_take hx)
 have hdl:∀ j,((dk (rk O w ((bT O A w n0).take j))).length:Int)≤64*(j:Int):=fun j=>by
  induction j with
  | zero=>simp [rk,dk]
  | succ j ih =>
   rcases Nat.lt_or_ge j (bT O A w n0).length with h|h
   ·have hx:(bT O A w n0)[j]?=some (bT O A w n0)[j]:=List.getElem?_eq_getElem h
    have hd:=at_ok g1 (hTm _ (List.getElem_mem h))
    have:=recD_len hd hw8.2
    rw [rk_take O w _ hx,dk_append,dk_one,List.length_append,frm_length]
    omega
   ·rw [List.take_of_length_le (by omega)]
    rw [List.take_of_length_le (by omega)] at ih
    omega
 rw [e1]
 unfold bT bA at *
 have hrl:(rk O w (bdT O A w n0 1001)).length=(bdT O A w n0 1001).length:=List.length_map ..
 have hrt:∀ j,(rk O w ((bdT O A w n0 1001).take j)).length≤j:=fun j=>by unfold rk;rw [List.length_map,List.length_take];omega
 have hget:∀ j x,(bdT O A w n0 1001)[j]?=some x→(rk O w (bdT O A w n0 1001))[j]?=some (recD (at0 O x) w):=fun j x hx=>by unfold rk;rw [List.getElem?_map,hx];rfl
 have htk:(bdT O A w n0 1001).take (bdT O A w n0 1001).length=bdT O A w n0 1001:=List.take_length
 have hap:∀ j x,(bdT O A w n0 1001)[j]?=some x→k++dk (rk O w ((bdT O A w n0 1001).take (j+1)))=k++dk (rk O w ((bdT O A w n0 1001).take j))++frm (recD (at0 O x) w):=fun j x hx=>by rw [rk_take O w _ hx,dk_append,dk_one,List.append_assoc]
 have hmono:∀ j,(dk (rk O w ((bdT O A w n0 1001).take j))).length≤(dk (rk O w (bdT O A w n0 1001))).length:=fun j=>by rw [← rk_take_comm];exact dk_mono _ _
 generalize bdT O A w n0 1001=T at *
 generalize bdL O A w n0 1001=B at *
 rw [c2] at hB
 refine FnSpec.enter (S:=Sy) 1 Tryz.func29 rfl rfl rfl Tryz.ntmps29 rfl rfl rfl rfl fun v0=>?_
 repeat' first|(refine J.freezeO 3 rfl rfl sh_dxA rfl ?_)|(refine CW.cut (c:=.region 3 _ _) [(0,.av (hsV A O k n)),(3,.av (.pt false (dxA kd n0 w dl).cells)),(4,.av (.pt true [.int 0,.int 0])),(6,.av (.sl true 1 ((T).map .int))),(7,.av (.sl true 3 (B.map acA))),(8,.av (.int (0)))] ?_ ?_)|exact w9g|refine w9U 0 20 ?_|(with_reducible refine JA.held ?_)|refine w9Ft 19 0 ?_|refine w9Ft 18 1 ?_|refine w9Ft 17 2 ?_|refine w9Ft 16 4 ?_|refine w9Ft 15 5 ?_|refine w9Ft 14 6 ?_|refine w9Ft 13 8 ?_|refine w9Ft 12 9 ?_|refine w9Ft 11 10 ?_|refine w9Ft 10 11 ?_|(with_reducible refine JAF.go ?_)|refine w9H2 9 3 7 ?_ ?_|refine w9H1 8 7 ?_|refine w9H1 8 3 ?_|refine w9H1 7 12 ?_|refine w9Hw 6 13 ?_|refine w9Hw 5 14 ?_|refine w9Hw 4 15 ?_|refine w9Hw 3 16 ?_|refine w9Hw 2 17 ?_|refine w9Hw 1 18 ?_|refine w9Hw 0 19 ?_|refine w9H0 ?_|((with_reducible apply J.step);rfl;((with_reducible apply s_ldFb)<;>(first|rfl|exact AV.noConfusion)))|refine w9x ?_|((with_reducible first|apply J.callP (hF)|apply J.callPQ (hF));rfl;rfl;(repeat' (first|exact ArgsOk.nil|exact ArgOk.br rfl AV.noConfusion sh_hs|apply ArgsOk.cons|exact ArgOk.pl rfl rfl|exact ArgOk.br rfl AV.noConfusion (by first|rfl|exact sh_int|exact sh_rows|exact sh_rowsO|exact sh_box|exact sh_map (fun _=>rfl))));(first|rfl|exact gn0|exact gnI))|((with_reducible first|apply J.callP (hB)|apply J.callPQ (hB));rfl;rfl;(repeat' (first|exact ArgsOk.nil|exact ArgOk.br rfl AV.noConfusion sh_hs|apply ArgsOk.cons|exact ArgOk.pl rfl rfl|exact ArgOk.br rfl AV.noConfusion (by first|rfl|exact sh_int|exact sh_rows|exact sh_rowsO|exact sh_box|exact sh_map (fun _=>rfl))));(first|rfl|exact gn0|exact gnI))|((with_reducible first|apply J.callP (hZ)|apply J.callPQ (hZ));rfl;rfl;(repeat' (first|exact ArgsOk.nil|exact ArgOk.br rfl AV.noConfusion sh_hs|apply ArgsOk.cons|exact ArgOk.pl rfl rfl|exact ArgOk.br rfl AV.noConfusion (by first|rfl|exact sh_int|exact sh_rows|exact sh_rowsO|exact sh_box|exact sh_map (fun _=>rfl))));(first|rfl|exact gn0|exact gnI))|(refine w9c ?_ ?_<;>intro _<;>try exact w9o)|fail
 all_goals try exact w9o
 refine CW.leS (x:=.nil) 9 rfl (AV.le.nil (o:=true) (c:=1)) ?_
 refine CW.loop (fun j:Nat=>[(53,.ref 6),(0,.av (hsV A O k n)),(3,.av (.pt false (dxA kd n0 w dl).cells)),(4,.av (.pt true [.int 0,.int 0])),(6,.av (.sl true 1 ((T).map .int))),(7,.av (.sl true 3 (B.map acA))),(9,.av (strs true (rk O w (T.take j)))),(10,.av (.int ((k.length:Int)+((dk (rk O w (T.take j))).length:Nat)))),(12,.av (.int (feeS O (T.take j)))),(54,.av (.int (T.length))),(55,.av (.int (j)))]) (fun j=>j≤T.length) (fun j=>T.length-j) (0) ?_ (by(repeat' (first|exact w9b|refine And.intro ?_ ?_|exact int_congr (by simp [rk,dk])))) ?_
 ·exact Nat.zero_le _
 intro j hj
 by_cases hlt:j<T.length
 ·have hx:T[j]?=some T[j]:=List.getElem?_eq_getElem hlt
  obtain⟨i,hi,ei⟩:=hTm _ (List.getElem_mem hlt)
  rw [ei] at hx
  have hd:=at_ok g1 (x:=(i:Int)) ⟨i,hi,rfl⟩
  have hat:at0 O (i:Int)=O[i]:=by unfold at0;rw [Int.toNat_natCast];exact getD_of hi
  have h1:=rk_take O w T hx
  have h2:=fee_take O T hx
  have h3:((dk (rk O w (T.take (j+1)))).length:Int)=(dk (rk O w (T.take j))).length+((recD (at0 O (i:Int)) w).length+3):=by rw [h1,dk_append,dk_one,List.length_append,frm_length];omega
  have hD:=deal_spec (at0 O (i:Int)) w hd hw8.2
  have hrd:=recD_len hd hw8.2
  have hOi:O[i]?=some O[i]:=List.getElem?_eq_getElem hi
  have hfe:=hd.fee
  have hf1:=hfb j
  have hd1:=hdl j
  have hrj:=hrt j
  have htl:(T.take j).length≤j:=by rw [List.length_take];omega
  rw [hat] at *
  unfold fee at h2
  generalize O[i]=d at *
  generalize recD d w=rc at *
  generalize (dk (rk O w (T.take j))).length=sz at *
  generalize feeS O (T.take j)=fs at *
  generalize rk O w (T.take j)=rs at *
  repeat' first|(refine J.freezeO 3 rfl rfl sh_dxA rfl ?_)|refine w9x ?_|refine w9p (hD) ?_|(refine w9c ?_ ?_<;>intro _<;>try exact w9o)|fail
  all_goals try exact w9o
  refine⟨j+1,?_,w9n,w9a⟩
  all_goals omega
 ·obtain rfl:j=T.length:=by omega
  rw [htk]
  by_cases c3:4000<k.length+(dk (rk O w T)).length
  ·rw [if_pos c3,if_neg (by decide),if_neg (by decide),if_neg (by decide),if_neg (by decide),if_neg (by decide)]
   generalize rk O w T=rs at *
   repeat' first|(refine J.freezeO 3 rfl rfl sh_dxA rfl ?_)|refine w9x ?_|(refine w9c ?_ ?_<;>intro _<;>try exact w9o)|fail
   all_goals exact w9e
  ·rw [if_neg c3,if_pos rfl,if_pos rfl,if_pos rfl,if_pos rfl,if_pos rfl]
   generalize hrs:rk O w T=rs at *
   repeat' first|(refine J.freezeO 3 rfl rfl sh_dxA rfl ?_)|refine w9x ?_|(refine w9c ?_ ?_<;>intro _<;>try exact w9o)|fail
   all_goals try exact w9o
   refine CW.loop (fun j:Nat=>[(92,.ref 9),(0,.av (hsV A O (k++dk (rk O w (T.take j))) n)),(4,.av (.pt true [.int 0,.int 0])),(6,.av (.sl true 1 ((T).map .int))),(7,.av (.sl true 3 (B.map acA))),(9,.av (strs true rs)),(12,.av (.int (feeS O T))),(93,.av (.int (T.length))),(94,.av (.int (j)))]) (fun j=>j≤T.length) (fun j=>T.length-j) (0) ?_ (by(repeat' (first|exact w9b|refine And.intro ?_ ?_|(simp only [List.take_zero,rk,List.map_nil,dk,List.append_nil])|exact int_congr (by rw [hrl])))) ?_
   ·exact Nat.zero_le _
   intro j hj
   by_cases hlt:j<T.length
   ·have hx:T[j]?=some T[j]:=List.getElem?_eq_getElem hlt
    obtain⟨i,hi,ei⟩:=hTm _ (List.getElem_mem hlt)
    rw [ei] at hx
    have hd:=at_ok g1 (x:=(i:Int)) ⟨i,hi,rfl⟩
    have hrd:=recD_len hd hw8.2
    have hg:=hget _ _ hx
    have ha:=hap _ _ hx
    have hm1:=hmono (j+1)
    rw [rk_take O w T hx,dk_append,dk_one,List.length_append,frm_length] at hm1
    have hm2:(k++dk (rk O w (T.take j))).length≤4000:=by rw [List.length_append];omega
    have hP:=logAppend_spec (k++dk (rk O w (T.take j))) (recD (at0 O (i:Int)) w) n hm2 (by omega)
    have ea:appE (k++dk (rk O w (T.take j))) (recD (at0 O (i:Int)) w)=0:=by unfold appE;rw [if_neg (by omega),if_neg (by rw [List.length_append];omega)]
    have ed:appD (k++dk (rk O w (T.take j))) (recD (at0 O (i:Int)) w)=k++dk (rk O w (T.take (j+1))):=by unfold appD;rw [if_neg (by omega),if_neg (by rw [List.length_append];omega),ha]
    rw [ea,ed] at hP
    generalize recD (at0 O (i:Int)) w=rc at *
    generalize k++dk (rk O w (T.take j))=kj at *
    generalize hkj1:k++dk (rk O w (T.take (j+1)))=kj1 at *
    repeat' first|(refine J.freezeO 3 rfl rfl sh_dxA rfl ?_)|((with_reducible apply J.step);rfl;((with_reducible apply s_ldFb)<;>(first|rfl|exact AV.noConfusion)))|refine w9x ?_|refine w9f (hP) ?_|(refine w9c ?_ ?_<;>intro _<;>try exact w9o)|fail
    all_goals try exact w9o
    refine⟨j+1,?_,w9n,by(repeat' (first|exact w9b|refine And.intro ?_ ?_|exact congrArg (fun z=>TV.av (hsV A O z n)) hkj1.symm))⟩
    all_goals omega
   ·obtain rfl:j=T.length:=by omega
    rw [htk,hrs]
    generalize k++dk rs=kk at *
    repeat' first|(refine J.freezeO 3 rfl rfl sh_dxA rfl ?_)|(refine J.freezeO 7 rfl rfl (sh_map (g:=acA) (fun _=>rfl)) rfl ?_)|(refine J.freezeO 117 rfl rfl (sh_map (g:=dlA) (fun _=>rfl)) rfl ?_)|refine w9x ?_|refine w9p (hCl) ?_|(refine w9c ?_ ?_<;>intro _<;>try exact w9o)|fail
    all_goals exact w9e
end
section
variable (A:List Ac) (O:List Dl) (k:Str) (n n0:Int) (w:Str) (dl:Dl)
theorem do1(hA:AcL A)(hk:k.length≤4000)(hw:w.length≤9223372036854775807):FnSpec Sy.P 7 [hsV A O k n,dxA 1 n0 w dl] [hsV (onA A k w n0) O (onD A k w n0) n,dxA 1 n0 w dl] (.tup [tdA 0 0,.int (onE A k w n0)]):=by
 have h:=open_h A O k n n0 w dl 1 hA hk hw
 generalize onA A k w n0=A' at *
 generalize onD A k w n0=k' at *
 generalize onE A k w n0=e at *
 refine FnSpec.enter (S:=Sy) 1 Tryz.func7 rfl rfl rfl Tryz.ntmps7 rfl rfl rfl rfl fun v0=>?_
 repeat' first|(refine J.freezeO 3 rfl rfl sh_dxA rfl ?_)|refine w9U 0 6 ?_|(with_reducible refine JA.held ?_)|refine w9Ft 5 1 ?_|refine w9Ft 4 2 ?_|(with_reducible refine JAF.go ?_)|refine w9H2 3 0 3 ?_ ?_|refine w9H1 2 3 ?_|refine w9H1 2 0 ?_|refine w9H1 1 4 ?_|refine w9Hw 0 5 ?_|refine w9H0 ?_|refine w9x ?_|refine w9h (h) ?_|fail
 all_goals exact w9e
theorem do2(hO:DlL O)(h1:dl.1.length≤9223372036854775807)(h2:dl.2.1.length≤9223372036854775807):FnSpec Sy.P 7 [hsV A O k n,dxA 2 n0 w dl] [hsV A (if adE O dl=0 then adM O dl else O) k n,dxA 2 n0 w dl] (.tup [tdA 0 0,.int (adE O dl)]):=by
 have hP:=(add_spec O dl hO h1 h2).le resD_le
 by_cases c:adE O dl=0
 ·rw [if_pos c]
  rw [c,ifD0] at hP
  rw [c]
  generalize adM O dl=B at *
  refine FnSpec.enter (S:=Sy) 1 Tryz.func7 rfl rfl rfl Tryz.ntmps7 rfl rfl rfl rfl fun v0=>?_
  repeat' first|(refine J.freezeO 3 rfl rfl sh_dxA rfl ?_)|refine w9U 0 12 ?_|(with_reducible refine JA.held ?_)|refine w9Ft 11 0 ?_|refine w9Ft 10 1 ?_|refine w9Ft 9 2 ?_|refine w9Ft 8 4 ?_|refine w9Ft 7 5 ?_|(refine J.freezeO 7 rfl rfl (sh_map (g:=dlA) (fun _=>rfl)) rfl ?_)|(with_reducible refine JAF.go ?_)|refine w9H1 6 3 ?_|refine w9H1 5 6 ?_|refine w9Hw 4 7 ?_|refine w9Hw 3 8 ?_|refine w9Hw 2 9 ?_|refine w9Hw 1 10 ?_|refine w9Hw 0 11 ?_|refine w9H0 ?_|refine w9x ?_|refine w9p (hP) ?_|(refine w9c ?_ ?_<;>intro _<;>try exact w9o)|fail
  all_goals exact w9e
 ·rw [if_neg c]
  generalize ifD (adE O dl) (adM O dl)=B at *
  generalize adE O dl=e at *
  refine FnSpec.enter (S:=Sy) 1 Tryz.func7 rfl rfl rfl Tryz.ntmps7 rfl rfl rfl rfl fun v0=>?_
  repeat' first|(refine J.freezeO 3 rfl rfl sh_dxA rfl ?_)|refine w9U 0 12 ?_|(with_reducible refine JA.held ?_)|refine w9Ft 11 0 ?_|refine w9Ft 10 1 ?_|refine w9Ft 9 2 ?_|refine w9Ft 8 4 ?_|refine w9Ft 7 5 ?_|(with_reducible refine JAF.go ?_)|refine w9H1 6 3 ?_|refine w9H1 5 6 ?_|refine w9Hw 4 7 ?_|refine w9Hw 3 8 ?_|refine w9Hw 2 9 ?_|refine w9Hw 1 10 ?_|refine w9Hw 0 11 ?_|refine w9H0 ?_|refine w9x ?_|refine w9p (hP) ?_|(refine w9c ?_ ?_<;>intro _<;>try exact w9o)|fail
  all_goals exact w9e
theorem do3(hA:AcL A)(hO:DlL O)(hk:k.length≤4000)(hA6:A.length≤6):FnSpec Sy.P 7 [hsV A O k n,dxA 3 n0 w dl] [hsV (buA O A k w n0) (buO O A k w n0) (buD O A k w n0) n,dxA 3 n0 w dl] (.tup [tdA (buN O A k w n0) (buM O A k w n0),.int (buE O A k w n0)]):=by
 have h:=build_h A O k n n0 w dl 3 hA hO hk hA6
 generalize buA O A k w n0=A' at *
 generalize buO O A k w n0=O' at *
 generalize buD O A k w n0=k' at *
 generalize buE O A k w n0=e at *
 generalize buN O A k w n0=t at *
 generalize buM O A k w n0=m at *
 refine FnSpec.enter (S:=Sy) 1 Tryz.func7 rfl rfl rfl Tryz.ntmps7 rfl rfl rfl rfl fun v0=>?_
 repeat' first|(refine J.freezeO 3 rfl rfl sh_dxA rfl ?_)|refine w9S @s_ldSA ?_|refine w9x ?_|refine w9h (h) ?_|fail
 all_goals exact w9e
theorem do4:FnSpec Sy.P 7 [hsV A O k n,dxA 4 n0 w dl] [hsV A O k k.length,dxA 4 n0 w dl] (.tup [tdA 0 0,.int 0]):=by
 have h:=logSync_spec k n
 refine FnSpec.enter (S:=Sy) 1 Tryz.func7 rfl rfl rfl Tryz.ntmps7 rfl rfl rfl rfl fun v0=>?_
 repeat' first|(refine J.freezeO 3 rfl rfl sh_dxA rfl ?_)|((with_reducible apply J.step);rfl;((with_reducible apply s_ldFb)<;>(first|rfl|exact AV.noConfusion)))|refine w9x ?_|refine w9f (h) ?_|fail
 all_goals exact w9e
theorem do5(R:List Rc)(hk:k.length≤4000)(hn:0≤n∧n≤k.length)(hR:crE k n n0=0→(∀ r∈R,r.ok)∧crD k n n0=dk (R.map Rc.str)∧R.length≤4000∧(dk (R.map Rc.str)).length≤4000) :
  FnSpec Sy.P 7 [hsV A O k n,dxA 5 n0 w dl] [if crE k n n0=0 then hsV (rcs R) [] (crD k n n0) (crN k n n0) else hsV A O k n,dxA 5 n0 w dl] (.tup [tdA 0 0,.int (crE k n n0)]):=by
 have hC:=logCrash_spec k n n0 hk hn
 by_cases c:crE k n n0=0
 ·obtain⟨h1,h2,h3,h4⟩:=hR c
  rw [if_pos c]
  rw [c] at hC ⊢
  have hS:=read_spec A O (crD k n n0) (crN k n n0) R (by rw [h2];exact h4) (by rw [h2,scan_dk (strs_le h1)]) h1 h3
  generalize crD k n n0=k' at *
  generalize crN k n n0=n' at *
  generalize rcs R=B at *
  refine FnSpec.enter (S:=Sy) 1 Tryz.func7 rfl rfl rfl Tryz.ntmps7 rfl rfl rfl rfl fun v0=>?_
  repeat' first|(refine J.freezeO 3 rfl rfl sh_dxA rfl ?_)|refine w9U 0 8 ?_|(with_reducible refine JA.held ?_)|refine w9Ft 7 0 ?_|refine w9Ft 6 1 ?_|refine w9Ft 5 2 ?_|refine w9Ft 4 4 ?_|refine w9Ft 3 5 ?_|(with_reducible refine JAF.go ?_)|refine w9H1 2 3 ?_|refine w9H1 1 6 ?_|refine w9Hw 0 7 ?_|refine w9H0 ?_|((with_reducible apply J.step);rfl;((with_reducible apply s_ldFb)<;>(first|rfl|exact AV.noConfusion)))|refine w9x ?_|refine w9f (hC) ?_|refine w9h (hS) ?_|(refine w9c ?_ ?_<;>intro _<;>try exact w9o)|fail
  all_goals exact w9e
 ·rw [if_neg c]
  have ed:crD k n n0=k:=by
   unfold crE at c;unfold crD
   split at c
   ·rename_i h;rw [if_pos h]
   ·exact absurd rfl c
  have en:crN k n n0=n:=by
   unfold crE at c;unfold crN
   split at c
   ·rename_i h;rw [if_pos h]
   ·exact absurd rfl c
  rw [ed,en] at hC
  generalize crE k n n0=e at *
  refine FnSpec.enter (S:=Sy) 1 Tryz.func7 rfl rfl rfl Tryz.ntmps7 rfl rfl rfl rfl fun v0=>?_
  repeat' first|(refine J.freezeO 3 rfl rfl sh_dxA rfl ?_)|refine w9U 0 8 ?_|(with_reducible refine JA.held ?_)|refine w9Ft 7 0 ?_|refine w9Ft 6 1 ?_|refine w9Ft 5 2 ?_|refine w9Ft 4 4 ?_|refine w9Ft 3 5 ?_|(with_reducible refine JAF.go ?_)|refine w9H1 2 3 ?_|refine w9H1 1 6 ?_|refine w9Hw 0 7 ?_|refine w9H0 ?_|((with_reducible apply J.step);rfl;((with_reducible apply s_ldFb)<;>(first|rfl|exact AV.noConfusion)))|refine w9x ?_|refine w9f (hC) ?_|(refine w9c ?_ ?_<;>intro _<;>try exact w9o)|fail
  all_goals exact w9e
theorem do6(hA:A.length≤6):FnSpec Sy.P 7 [hsV A O k n,dxA 6 n0 w dl] [hsV A O k n,dxA 6 n0 w dl] (.tup [if fA A w<0 then tdA 0 0 else tdA (A.getD (fA A w).toNat ([],0,0,())).2.1 (A.getD (fA A w).toNat ([],0,0,())).2.2.1,.int (if fA A w<0 then 4 else 0)]):=by
 have hF:=hfind_spec A O k n w (by omega)
 have hr:=fA_range A w
 by_cases c:fA A w<0
 ·rw [if_pos c,if_pos c]
  generalize fA A w=x at *
  refine FnSpec.enter (S:=Sy) 1 Tryz.func7 rfl rfl rfl Tryz.ntmps7 rfl rfl rfl rfl fun v0=>?_
  repeat' first|(refine J.freezeO 3 rfl rfl sh_dxA rfl ?_)|refine w9x ?_|((with_reducible first|apply J.callP (hF)|apply J.callPQ (hF));rfl;rfl;(repeat' (first|exact ArgsOk.nil|exact ArgOk.br rfl AV.noConfusion sh_hs|apply ArgsOk.cons|exact ArgOk.pl rfl rfl|exact ArgOk.br rfl AV.noConfusion (by first|rfl|exact sh_int|exact sh_rows|exact sh_rowsO|exact sh_box|exact sh_map (fun _=>rfl))));(first|rfl|exact gn0|exact gnI))|(refine w9c ?_ ?_<;>intro _<;>try exact w9o)|fail
  all_goals exact w9e
 ·rw [if_neg c,if_neg c]
  obtain⟨i,hi⟩:∃ i:Nat,fA A w=(i:Int):=⟨(fA A w).toNat,by omega⟩
  rw [hi] at hF hr ⊢
  rw [Int.toNat_natCast,List.getD_eq_getElem?_getD,List.getElem?_eq_getElem (show i<A.length by omega),Option.getD_some]
  have hg:A[i]?=some A[i]:=List.getElem?_eq_getElem (by omega)
  generalize A[i]=a at *
  refine FnSpec.enter (S:=Sy) 1 Tryz.func7 rfl rfl rfl Tryz.ntmps7 rfl rfl rfl rfl fun v0=>?_
  repeat' first|((with_reducible refine w9i ?_);first|refine w9J1 1 17 ?_|refine w9Jt 0 18 ?_|refine w9J0 ?_)|(refine J.freezeO 3 rfl rfl sh_dxA rfl ?_)|refine w9U 17 2 ?_|refine w9x ?_|((with_reducible first|apply J.callP (hF)|apply J.callPQ (hF));rfl;rfl;(repeat' (first|exact ArgsOk.nil|exact ArgOk.br rfl AV.noConfusion sh_hs|apply ArgsOk.cons|exact ArgOk.pl rfl rfl|exact ArgOk.br rfl AV.noConfusion (by first|rfl|exact sh_int|exact sh_rows|exact sh_rowsO|exact sh_box|exact sh_map (fun _=>rfl))));(first|rfl|exact gn0|exact gnI))|(refine w9c ?_ ?_<;>intro _<;>try exact w9o)|fail
  all_goals exact w9e
theorem do7(hO:DlL O):FnSpec Sy.P 7 [hsV A O k n,dxA 7 n0 w dl] [hsV A (if drE O w n0=0 then drM O w n0 else O) k n,dxA 7 n0 w dl] (.tup [tdA 0 0,.int (drE O w n0)]):=by
 have hP:=(drop_spec O w n0 hO).le resD_le
 by_cases c:drE O w n0=0
 ·rw [if_pos c]
  rw [c,ifD0] at hP
  rw [c]
  generalize drM O w n0=B at *
  refine FnSpec.enter (S:=Sy) 1 Tryz.func7 rfl rfl rfl Tryz.ntmps7 rfl rfl rfl rfl fun v0=>?_
  repeat' first|(refine J.freezeO 3 rfl rfl sh_dxA rfl ?_)|refine w9U 0 14 ?_|(with_reducible refine JA.held ?_)|refine w9Ft 13 0 ?_|refine w9Ft 12 1 ?_|refine w9Ft 11 2 ?_|refine w9Ft 10 4 ?_|refine w9Ft 9 5 ?_|refine w9Ft 8 6 ?_|refine w9Ft 7 7 ?_|(refine J.freezeO 11 rfl rfl (sh_map (g:=dlA) (fun _=>rfl)) rfl ?_)|(with_reducible refine JAF.go ?_)|refine w9H1 6 3 ?_|refine w9H1 5 8 ?_|refine w9Hw 4 9 ?_|refine w9Hw 3 10 ?_|refine w9Hw 2 11 ?_|refine w9Hw 1 12 ?_|refine w9Hw 0 13 ?_|refine w9H0 ?_|refine w9x ?_|refine w9p (hP) ?_|(refine w9c ?_ ?_<;>intro _<;>try exact w9o)|fail
  all_goals exact w9e
 ·rw [if_neg c]
  generalize ifD (drE O w n0) (drM O w n0)=B at *
  generalize drE O w n0=e at *
  refine FnSpec.enter (S:=Sy) 1 Tryz.func7 rfl rfl rfl Tryz.ntmps7 rfl rfl rfl rfl fun v0=>?_
  repeat' first|(refine J.freezeO 3 rfl rfl sh_dxA rfl ?_)|refine w9U 0 14 ?_|(with_reducible refine JA.held ?_)|refine w9Ft 13 0 ?_|refine w9Ft 12 1 ?_|refine w9Ft 11 2 ?_|refine w9Ft 10 4 ?_|refine w9Ft 9 5 ?_|refine w9Ft 8 6 ?_|refine w9Ft 7 7 ?_|(with_reducible refine JAF.go ?_)|refine w9H1 6 3 ?_|refine w9H1 5 8 ?_|refine w9Hw 4 9 ?_|refine w9Hw 3 10 ?_|refine w9Hw 2 11 ?_|refine w9Hw 1 12 ?_|refine w9Hw 0 13 ?_|refine w9H0 ?_|refine w9x ?_|refine w9p (hP) ?_|(refine w9c ?_ ?_<;>intro _<;>try exact w9o)|fail
  all_goals exact w9e
theorem do0(kd:Int)(hd:kd<1∨7<kd):FnSpec Sy.P 7 [hsV A O k n,dxA kd n0 w dl] [hsV A O k n,dxA kd n0 w dl] (.tup [tdA 0 0,.int 1]):=by
 refine FnSpec.enter (S:=Sy) 1 Tryz.func7 rfl rfl rfl Tryz.ntmps7 rfl rfl rfl rfl fun v0=>?_
 repeat' first|(refine J.freezeO 3 rfl rfl sh_dxA rfl ?_)|refine w9x ?_|(refine w9c ?_ ?_<;>intro _<;>try exact w9o)|fail
 all_goals exact w9e
end
end Go.Proofs.YtkkcnppgcnmikaaGreatDoor
namespace FM
open Go Go.RowKit
set_option linter.all false
section
variable {S:Sys} {σ:St} {d:Nat} {ty:Nat} {pos:String} {aft:Array Edge} {g:Option (Nat×Bool)}
theorem s_strEqT{t t2:Nat}{x y:Operand}{a:List UInt8}(hx:ov σ x=.av (.str a))(hy:ov σ y=.av (.str a)):Step S ⟨some d,.binOp .eql t x y t2,ty,pos,aft,g⟩ σ (σ.put d (.av (.bool true))):=by
 have h:=s_strEq (S:=S) (d:=d) (ty:=ty) (pos:=pos) (aft:=aft) (g:=g) (t:=t) (t2:=t2) hx hy
 rwa [show decide (a=a)=true by simp] at h
theorem s_strEqF{t t2:Nat}{x y:Operand}{a b:List UInt8}(hx:ov σ x=.av (.str a))(hy:ov σ y=.av (.str b))(hb:decide (a=b)=false):Step S ⟨some d,.binOp .eql t x y t2,ty,pos,aft,g⟩ σ (σ.put d (.av (.bool false))):=by
 have h:=s_strEq (S:=S) (d:=d) (ty:=ty) (pos:=pos) (aft:=aft) (g:=g) (t:=t) (t2:=t2) hx hy
 rwa [hb] at h
theorem s_bld0{t sz by_:Nat}{fs:List (Nat×Nat)}{zz:List AV}{ps:Array (Nat×Operand)}(hps:ps=#[])(hT:S.T t=some ⟨.struct fs,sz,by_,zz⟩)(hf:(fs.all fun p=>(S.T p.2).isSome)=true):Step S ⟨some d,.build t ps,ty,pos,aft,g⟩ σ (σ.put d (.av (.agg zz))):=by
 subst hps
 exact s_bldG hT hf .nil
theorem s_ldFo{t s o:Nat}{ti:TI}{x:Operand}{y:AV}{cs:List AV}(hx:ov σ x=.fpt s o y)(hs:FM.get σ s=.av (.pt true cs))(hT:S.T t=some ti)(hyo:cs[o]?=some y)(hf:y.fits ti=true)(hy:y≠.dead)(h1:y.cells=[y])(hsd:Nat.beq s d=false)(_:y.isOwn=true) :
  Step S ⟨some d,.load t x,ty,pos,aft,g⟩ σ (σ.put d (.rref s o y)):=s_ldFb hx hs hT hyo hf hy h1 hsd
theorem FnDies.enter1 {N:Nat} {f:Nat} {fn:Func} {c:Code} {x y:AV} {rest:List AV} {ch:List PanicEntry} (hf:S.P.funcs[f]?=some fn) (hb:fn.body=some c) (hname:(fn.name == "runtime.NumGoroutine")=false) (hN:fn.ntmps=N)
  (hlen:Nat.ble (x::rest).length N=true) (hown:(rest.all fun x=>!x.isOwn)=true) (h:∀ v0,CW (S.fixedX 1 v0 ch [(0,y)]) N c (fun _ _=>False) (ofL (initL 0 (x::rest)))):FnDies S.P f (x::rest) (y::rest) ch :=
 FnDies.enter 1 [(0,y)] hf hb hname hN hlen rfl rfl (fun i u v hx hy=>by
  cases i with
  | zero =>
   simp only [List.getElem?_cons_zero,Option.some.injEq] at hx hy;subst hx;subst hy
   exact .inr ⟨rfl,List.mem_singleton.2 rfl⟩
  | succ i =>
   simp only [List.getElem?_cons_succ] at hx hy
   rw [hx] at hy;cases hy
   have:=List.all_eq_true.1 hown u (List.mem_of_getElem? hx)
   exact .inl ⟨by simpa using this,rfl⟩) h
theorem J.die1{N:Nat}{v:Nat→Value}{f:Nat}{xs9:List AV}{ch:List PanicEntry}{y:AV}{xs:List Operand}{ops:Array Oper}{l:List Oper}{K:St→Prop}{ts:Array Nat}(hs:FnDies S.P f xs9 xs9 ch)(hg:live ops g σ=some true)(ha:ArgsM (S.fixedX 1 v ch [(0,y)]) N σ [] 0 xs xs9)(hy:FM.get (σ.put d (.av .dead)) 0=.av y) :
  J false (S.fixedX 1 v ch [(0,y)]) N ops (⟨some d,.call ⟨.value (.func f),xs.toArray,ts⟩,ty,pos,aft,g⟩::l) K σ :=
 J.die (S:=S.fixedX 1 v ch [(0,y)]) hs hg ha ⟨rfl,rfl⟩ fun p hp=>by rw [List.mem_singleton.1 hp];exact⟨rfl,hy⟩
end
end FM
namespace Go.Proofs.YtkkcnppgcnmikaaGreatDoor
open Go FM Go.Proofs
set_option maxRecDepth 10000
set_option maxHeartbeats 6400000
set_option linter.all false
abbrev dl0:Dl:=([],[],0,0,0,0,())
abbrev dkV(A:List Ac)(O:List Dl)(k:Str)(n:Int):AV:=.pt true [hsV A O k n]
end Go.Proofs.YtkkcnppgcnmikaaGreatDoor
