/- The reference: what a deed does to a house, walked. -/
import Derived.Test.YtkkcnppgcnmikaaGreatDoorAcj
import Derived.Test.YtkkcnppgcnmikaaGreatDoorAda
import Derived.Test.YtkkcnppgcnmikaaGreatDoorAbf
namespace Go.Proofs.YtkkcnppgcnmikaaGreatDoor
open Go FM Go.Proofs
set_option maxRecDepth 10000
set_option maxHeartbeats 6400000
set_option linter.all false
abbrev hsR(A:List Ac)(O:List Dl)(k:Str)(n:Int):AV:=.agg [.sl false 3 (A.map acA),.sl false 6 (O.map dlA),.str k,.int n]
abbrev De:=Int×Int×Str×Dl×Unit
abbrev dxA(kd n0:Int)(w:Str)(dl:Dl):AV:=.agg [.int kd,.int n0,.str w,.str dl.1,.str dl.2.1,.int dl.2.2.1,.int dl.2.2.2.1,.int dl.2.2.2.2.1,.int dl.2.2.2.2.2.1]
abbrev deA(d:De):AV:=dxA d.1 d.2.1 d.2.2.1 d.2.2.2.1
abbrev tdA(t m:Int):AV:=.agg [.int t,.int m]
theorem sh_hsR{A:List Ac}{O:List Dl}{k:Str}{n:Int}:(AV.pt true (hsR A O k n).cells).sh=.pt false (hsR A O k n).cells:=by
 simp only [AV.sh,AV.cells,AV.shL];rw [shL_map acA A acA fun x=>rfl,shL_map dlA O dlA fun x=>rfl]
theorem sh_dxA{kd n0:Int}{w:Str}{dl:Dl}:(AV.pt true (dxA kd n0 w dl).cells).sh=.pt false (dxA kd n0 w dl).cells:=rfl
def ifD(e:Int)(l:List Dl):List Dl:=if e=0 then l else []
theorem resD_le{l:List Dl}{e:Int}:AV.le (resD l e) (.tup [.sl true 6 ((ifD e l).map dlA),.int e]):=by
 unfold resD ifD
 by_cases c:e=0
 ·rw [if_pos c,if_pos c,c];exact .refl _
 ·rw [if_neg c,if_neg c];exact le_tup2 .nil (.refl _)
theorem ifA0{l:List Ac}:ifA 0 l=l:=if_pos rfl
theorem ifD0{l:List Dl}:ifD 0 l=l:=if_pos rfl
theorem buildOf_w(O:List Dl)(A:List Ac)(w:Str)(room:Int)(hl:DlL O)(hL:AcL A):FnSpec Sy.P 41 [.sl false 6 (O.map dlA),.sl false 3 (A.map acA),.str w,.int room] [.sl false 6 (O.map dlA),.sl false 3 (A.map acA),.str w,.int room] (.tup [.sl true 1 ((bdT O A w room 1001).map .int),.sl false 3 ((bdL O A w room 1001).map acA),.int (bdE O A w room)]):=by
 by_cases c:bdE O A w room=0
 ·exact buildOf_spec O w hl 1001 A room (by have:=(bdE_ok c).2.2.2;omega) hL
 ·have:=buildOf_spec O w hl (room.toNat+1) A room (by omega) hL
  unfold bdT bdL at this ⊢
  rw [if_neg c,if_neg c] at this ⊢
  exact this
section
variable (A:List Ac) (O:List Dl) (k:Str) (n n0:Int) (w:Str) (dl:Dl)
theorem doOf1(hA:AcL A)(hk:k.length≤4000)(hw:w.length≤9223372036854775807):FnSpec Sy.P 8 [hsR A O k n,dxA 1 n0 w dl] [hsR A O k n,dxA 1 n0 w dl] (.tup [hsR (onA A k w n0) O (onD A k w n0) n,tdA 0 0,.int (onE A k w n0)]):=by
 have hO:=(openOf_spec A w n0 hA hw).le resA_le
 unfold onA onD onE
 by_cases c:opE A w n0=0
 ·obtain⟨_,hn,hm,_⟩:=opE_ok c
  have hI:=itoa_spec n0 (by omega) (by omega)
  have hl:=recO_len hn hm
  have hW:=words_spec (wsO w n0) (by simp) (by rw [← recO_jn];omega)
  rw [← recO_jn] at hW
  have hP:=appendOf_spec k (recO w n0) n hk (by omega)
  rw [if_neg (not_not_intro c)]
  rw [c,ifA0] at hO
  unfold appD at hP
  rw [if_neg (by omega)] at hP
  by_cases c2:4000<k.length+(recO w n0).length+3
  ·have e2:appE k (recO w n0)=8:=by unfold appE;rw [if_neg (by omega),if_pos c2]
   rw [if_pos c2,e2] at hP
   rw [e2,if_neg (by decide),if_neg (by decide)]
   generalize opM A w n0=B at *
   generalize recO w n0=rc at *
   unfold wsO at hW
   generalize Lib.itoa n0=z at *
   refine enT Tryz.func8 Tryz.ntmps8 fun v0=>?_
   repeat' first|(refine J.freezeO 2 rfl rfl sh_hsR rfl ?_)|(refine J.freezeO 3 rfl rfl sh_dxA rfl ?_)|refine w9U 0 16 ?_|(with_reducible refine JA.held ?_)|refine w9Ft 15 0 ?_|refine w9Ft 14 1 ?_|refine w9Ft 13 2 ?_|refine w9Ft 12 3 ?_|refine w9Ft 11 4 ?_|refine w9Ft 10 5 ?_|(refine J.freezeO 29 rfl rfl (sh_map (g:=acA) (fun _=>rfl)) rfl ?_)|(with_reducible refine JAF.go ?_)|refine w9H1 9 6 ?_|refine w9H1 8 7 ?_|refine w9H1 7 8 ?_|refine w9H1 6 9 ?_|refine w9Hw 5 10 ?_|refine w9Hw 4 11 ?_|refine w9Hw 3 12 ?_|refine w9Hw 2 13 ?_|refine w9H1 1 14 ?_|refine w9Hw 0 15 ?_|refine w9H0 ?_|refine w9S @s_ldSA ?_|refine w9E @e_st42 ?_|refine w9x ?_|refine w9p (hO) ?_|refine w9p (hI) ?_|refine w9p (hW) ?_|refine w9p (hP) ?_|(refine w9c ?_ ?_<;>intro _<;>try exact w9o)|fail
   all_goals exact w9e
  ·have e2:appE k (recO w n0)=0:=by unfold appE;rw [if_neg (by omega),if_neg c2]
   rw [if_neg c2,e2] at hP
   rw [e2,if_pos rfl,if_pos rfl]
   generalize opM A w n0=B at *
   generalize frm (recO w n0)=fr at *
   generalize recO w n0=rc at *
   unfold wsO at hW
   generalize Lib.itoa n0=z at *
   refine enT Tryz.func8 Tryz.ntmps8 fun v0=>?_
   repeat' first|(refine J.freezeO 2 rfl rfl sh_hsR rfl ?_)|(refine J.freezeO 3 rfl rfl sh_dxA rfl ?_)|refine w9U 0 16 ?_|(with_reducible refine JA.held ?_)|refine w9Ft 15 0 ?_|refine w9Ft 14 1 ?_|refine w9Ft 13 2 ?_|refine w9Ft 12 3 ?_|refine w9Ft 11 4 ?_|refine w9Ft 10 5 ?_|(refine J.freezeO 29 rfl rfl (sh_map (g:=acA) (fun _=>rfl)) rfl ?_)|(with_reducible refine JAF.go ?_)|refine w9H1 9 6 ?_|refine w9H1 8 7 ?_|refine w9H1 7 8 ?_|refine w9H1 6 9 ?_|refine w9Hw 5 10 ?_|refine w9Hw 4 11 ?_|refine w9Hw 3 12 ?_|refine w9Hw 2 13 ?_|refine w9H1 1 14 ?_|refine w9Hw 0 15 ?_|refine w9H0 ?_|refine w9S @s_ldSA ?_|refine w9E @e_st42 ?_|refine w9x ?_|refine w9p (hO) ?_|refine w9p (hI) ?_|refine w9p (hW) ?_|refine w9p (hP) ?_|(refine w9c ?_ ?_<;>intro _<;>try exact w9o)|fail
   all_goals exact w9e
 ·rw [if_pos c,if_neg c,if_neg c]
  generalize ifA (opE A w n0) (opM A w n0)=B at *
  generalize opE A w n0=e at *
  refine enT Tryz.func8 Tryz.ntmps8 fun v0=>?_
  repeat' first|(refine J.freezeO 29 rfl rfl (sh_map (g:=acA) (fun _=>rfl)) rfl ?_)|refine w9E @e_st42 ?_|refine w9x ?_|refine w9p (hO) ?_|(refine w9c ?_ ?_<;>intro _<;>try exact w9o)|fail
  all_goals exact w9e
theorem doOf2(hO:DlL O)(h1:dl.1.length≤9223372036854775807)(h2:dl.2.1.length≤9223372036854775807):FnSpec Sy.P 8 [hsR A O k n,dxA 2 n0 w dl] [hsR A O k n,dxA 2 n0 w dl] (.tup [hsR A (if adE O dl=0 then adM O dl else O) k n,tdA 0 0,.int (adE O dl)]):=by
 have hP:=(addOf_spec O dl hO h1 h2).le resD_le
 by_cases c:adE O dl=0
 ·rw [if_pos c]
  rw [c,ifD0] at hP
  rw [c]
  generalize adM O dl=B at *
  refine enT Tryz.func8 Tryz.ntmps8 fun v0=>?_
  repeat' first|(refine J.freezeO 56 rfl rfl (sh_map (g:=dlA) (fun _=>rfl)) rfl ?_)|refine w9S @s_fadM ?_|refine w9x ?_|refine w9p (hP) ?_|(refine w9c ?_ ?_<;>intro _<;>try exact w9o)|fail
  all_goals exact w9e
 ·rw [if_neg c]
  generalize ifD (adE O dl) (adM O dl)=B at *
  generalize adE O dl=e at *
  refine enT Tryz.func8 Tryz.ntmps8 fun v0=>?_
  repeat' first|(refine J.freezeO 56 rfl rfl (sh_map (g:=dlA) (fun _=>rfl)) rfl ?_)|refine w9S @s_fadM ?_|refine w9x ?_|refine w9p (hP) ?_|(refine w9c ?_ ?_<;>intro _<;>try exact w9o)|fail
  all_goals exact w9e
theorem doOf3(hA:AcL A)(hO:DlL O)(hk:k.length≤4000)(hA6:A.length≤6):FnSpec Sy.P 8 [hsR A O k n,dxA 3 n0 w dl] [hsR A O k n,dxA 3 n0 w dl] (.tup [hsR (buA O A k w n0) (buO O A k w n0) (buD O A k w n0) n,tdA (buN O A k w n0) (buM O A k w n0),.int (buE O A k w n0)]):=by
 have hF:=accOf_spec A w hA.len
 have hB:=buildOf_w O A w n0 hO hA
 unfold buA buO buD buN buM
 by_cases c1:fA A w<0
 ·have e:buE O A k w n0=4:=if_pos c1
  rw [e,if_neg (by decide),if_neg (by decide),if_neg (by decide),if_neg (by decide),if_neg (by decide)]
  generalize fA A w=x at *
  refine enT Tryz.func8 Tryz.ntmps8 fun v0=>?_
  repeat' first|refine w9E @e_st42 ?_|refine w9x ?_|refine w9p (hF) ?_|(refine w9c ?_ ?_<;>intro _<;>try exact w9o)|fail
  all_goals exact w9e
 have e1:buE O A k w n0=if bdE O A w n0≠0 then bdE O A w n0 else if 4000<k.length+(dk (rk O w (bT O A w n0))).length then 8 else 0:=if_neg c1
 by_cases c2:bdE O A w n0≠0
 ·rw [e1,if_pos c2,if_neg c2,if_neg c2,if_neg c2,if_neg c2,if_neg c2]
  generalize fA A w=x at *
  generalize bdT O A w n0 1001=T at *
  generalize bdL O A w n0 1001=B at *
  generalize bdE O A w n0=e at *
  refine enT Tryz.func8 Tryz.ntmps8 fun v0=>?_
  repeat' first|refine w9E @e_st42 ?_|refine w9x ?_|refine w9p (hF) ?_|refine w9p (hB) ?_|(refine w9c ?_ ?_<;>intro _<;>try exact w9o)|fail
  all_goals exact w9e
 have c2:=Classical.not_not.1 c2
 rw [if_neg (not_not_intro c2)] at e1
 obtain⟨g1,g2,g3,g4⟩:=bdE_ok c2
 have hTm:=bT_mem (O:=O) (A:=A) (w:=w) (room:=n0)
 have hTl:=bT_len (O:=O) (A:=A) (w:=w) (room:=n0)
 have hBok:=bA_ok (w:=w) c2 hA
 have hB6:=(acE_ok hBok.1).len
 have hw8:=nm_len (w_name (w:=w) (by omega) g2)
 have hCl:=cleanOf_spec O (bA O A w n0) (by have:=(ofE_ok g1).len;omega) hBok.2.len
 have hkp:O.filter (kp (bA O A w n0))=clM O (bA O A w n0):=List.filter_congr fun d _=>kp_late (acE_ok hBok.1) d
 rw [hkp] at hCl
 have hfb:∀ j,0≤feeS O ((bT O A w n0).take j)∧feeS O ((bT O A w n0).take j)≤1000000*((bT O A w n0).take j).length:=fun j=>feeS_bound g1 _ fun x hx=>hTm x (List.mem_of_mem_take hx)
 rw [e1]
 unfold bT bA at *
 have htk:(bdT O A w n0 1001).take (bdT O A w n0 1001).length=bdT O A w n0 1001:=List.take_length
 have hap:∀ j x,(bdT O A w n0 1001)[j]?=some x→k++dk (rk O w ((bdT O A w n0 1001).take (j+1)))=k++dk (rk O w ((bdT O A w n0 1001).take j))++frm (recD (at0 O x) w):=fun j x hx=>by rw [rk_take O w _ hx,dk_append,dk_one,List.append_assoc]
 have hmono:∀ j,(dk (rk O w ((bdT O A w n0 1001).take j))).length≤(dk (rk O w (bdT O A w n0 1001))).length:=fun j=>by rw [← rk_take_comm];exact dk_mono _ _
 generalize bdT O A w n0 1001=T at *
 generalize bdL O A w n0 1001=B at *
 rw [c2] at hB
 generalize clM O B=C at *
 refine enT Tryz.func8 Tryz.ntmps8 fun v0=>?_
 repeat' first|(refine J.freezeO 2 rfl rfl sh_hsR rfl ?_)|(refine J.freezeO 3 rfl rfl sh_dxA rfl ?_)|(refine J.freezeO 9 rfl rfl sh_int rfl ?_)|refine w9S @s_ldSA ?_|refine w9E @e_st42 ?_|refine w9x ?_|refine w9p (hF) ?_|refine w9p (hB) ?_|(refine w9c ?_ ?_<;>intro _<;>try exact w9o)|fail
 all_goals try exact w9o
 refine CW.loop (fun j:Nat=>[(2,.av (.pt false (hsR A O k n).cells)),(3,.av (.pt false (dxA 3 n0 w dl).cells)),(4,.av (.pt true [.nil,.nil,.str [],.int 0])),(5,.av (.pt true [.int 0,.int 0])),(8,.av (.pt true (hsR B O (k++dk (rk O w (T.take j))) n).cells)),(10,.av (.pt true [.int T.length,.int (feeS O (T.take j))])),(91,.av (.sl false 1 ((T).map .int))),(92,.av (.int (T.length))),(93,.av (.int (j)))]) (fun j=>j≤T.length∧(k++dk (rk O w (T.take j))).length≤4000) (fun j=>T.length-j) (0) ?_ (by(repeat' (first|exact w9b|refine And.intro ?_ ?_|(simp only [List.take_zero,rk,List.map_nil,dk,List.append_nil])))) ?_
 ·exact⟨Nat.zero_le _,by simp [rk,dk];omega⟩
 intro j ⟨hj,hj4⟩
 by_cases hlt:j<T.length
 ·have hx:T[j]?=some T[j]:=List.getElem?_eq_getElem hlt
  obtain⟨i,hi,ei⟩:=hTm _ (List.getElem_mem hlt)
  rw [ei] at hx
  have hd:=at_ok g1 (x:=(i:Int)) ⟨i,hi,rfl⟩
  have hat:at0 O (i:Int)=O[i]:=by unfold at0;rw [Int.toNat_natCast];exact getD_of hi
  have hrd:=recD_len hd hw8.2
  have hD:=record_spec (at0 O (i:Int)) w hd hw8.2
  have hP:=appendOf_spec (k++dk (rk O w (T.take j))) (recD (at0 O (i:Int)) w) n hj4 (by omega)
  have ha:=hap _ _ hx
  have h2:=fee_take O T hx
  have hfe:=hd.fee
  have hf1:=hfb j
  have htl:(T.take j).length≤j:=by rw [List.length_take];omega
  have hm1:=hmono (j+1)
  have hl1:(k++dk (rk O w (T.take (j+1)))).length=k.length+(dk (rk O w (T.take (j+1)))).length:=List.length_append
  have hl2:(k++dk (rk O w (T.take (j+1)))).length=(k++dk (rk O w (T.take j))).length+((recD (at0 O (i:Int)) w).length+3):=by rw [ha,List.length_append,frm_length]
  have hOi:O[i]?=some O[i]:=List.getElem?_eq_getElem hi
  unfold appE appD at hP
  have h64:¬ 64<(recD (at0 O (i:Int)) w).length:=by omega
  simp only [if_neg h64,←ha] at hP
  rw [hat] at *
  unfold fee at h2
  generalize O[i]=d at *
  generalize recD d w=rc at *
  generalize feeS O (T.take j)=fs at *
  generalize k++dk (rk O w (T.take j))=kj at *
  generalize hkj1:k++dk (rk O w (T.take (j+1)))=kj1 at *
  by_cases c4:4000<kj.length+rc.length+3
  ·simp only [if_pos c4] at hP
   have c3:4000<k.length+(dk (rk O w T)).length:=by omega
   rw [if_pos c3,if_neg (by decide),if_neg (by decide),if_neg (by decide),if_neg (by decide),if_neg (by decide)]
   repeat' first|(refine CW.cut (c:=.region 22 _ _) [(91,.av (.sl false 1 ((T).map .int))),(92,.av (.int (T.length))),(93,.av (.int (j))),(12,.av (.int (i))),(3,.av (.pt false (dxA 3 n0 w dl).cells)),(10,.av (.pt true [.int T.length,.int fs])),(2,.av (.pt false (hsR A O k n).cells)),(4,.av (.pt true [.nil,.nil,.str [],.int 0])),(5,.av (.pt true [.int 0,.int 0])),(7,.av (.int 8)),(8,.av (.pt true (hsR B O kj n).cells))] ?_ ?_)|exact w9g|refine w9U 0 17 ?_|(with_reducible refine JA.held ?_)|refine w9Ft 16 0 ?_|refine w9Ft 15 2 ?_|refine w9Ft 14 3 ?_|refine w9Ft 13 4 ?_|refine w9Ft 12 5 ?_|refine w9Ft 11 6 ?_|refine w9Ft 10 7 ?_|refine w9Ft 9 8 ?_|(with_reducible refine JAF.go ?_)|refine w9H2 8 1 9 ?_ ?_|refine w9H1 7 9 ?_|refine w9H1 7 1 ?_|refine w9H1 6 10 ?_|refine w9Hw 5 11 ?_|refine w9Hw 4 12 ?_|refine w9Hw 3 13 ?_|refine w9Hw 2 14 ?_|refine w9H1 1 15 ?_|refine w9Hw 0 16 ?_|refine w9H0 ?_|refine w9S @s_ldSA ?_|refine w9E @e_st42 ?_|refine w9x ?_|refine w9p (hD) ?_|refine w9p (hP) ?_|(refine w9c ?_ ?_<;>intro _<;>try exact w9o)|fail
   all_goals exact w9e
  ·simp only [if_neg c4] at hP
   repeat' first|(refine CW.cut (c:=.region 22 _ _) [(91,.av (.sl false 1 ((T).map .int))),(92,.av (.int (T.length))),(93,.av (.int (j))),(12,.av (.int (i))),(3,.av (.pt false (dxA 3 n0 w dl).cells)),(10,.av (.pt true [.int T.length,.int fs])),(2,.av (.pt false (hsR A O k n).cells)),(4,.av (.pt true [.nil,.nil,.str [],.int 0])),(5,.av (.pt true [.int 0,.int 0])),(7,.av (.int 0)),(8,.av (.pt true (hsR B O kj1 n).cells))] ?_ ?_)|exact w9g|refine w9U 0 17 ?_|(with_reducible refine JA.held ?_)|refine w9Ft 16 0 ?_|refine w9Ft 15 2 ?_|refine w9Ft 14 3 ?_|refine w9Ft 13 4 ?_|refine w9Ft 12 5 ?_|refine w9Ft 11 6 ?_|refine w9Ft 10 7 ?_|refine w9Ft 9 8 ?_|(with_reducible refine JAF.go ?_)|refine w9H2 8 1 9 ?_ ?_|refine w9H1 7 9 ?_|refine w9H1 7 1 ?_|refine w9H1 6 10 ?_|refine w9Hw 5 11 ?_|refine w9Hw 4 12 ?_|refine w9Hw 3 13 ?_|refine w9Hw 2 14 ?_|refine w9H1 1 15 ?_|refine w9Hw 0 16 ?_|refine w9H0 ?_|refine w9S @s_ldSA ?_|refine w9E @e_st42 ?_|refine w9x ?_|refine w9p (hD) ?_|refine w9p (hP) ?_|(refine w9c ?_ ?_<;>intro _<;>try exact w9o)|fail
   all_goals try exact w9o
   refine⟨j+1,?_,w9n,by(repeat' (first|exact w9b|refine And.intro ?_ ?_|exact congrArg (fun z=>TV.av (.pt true [.int T.length,.int z])) h2.symm|exact congrArg (fun z=>TV.av (.pt true (hsR B O z n).cells)) hkj1.symm))⟩
   all_goals first|omega|exact⟨hlt,by rw [hkj1];omega⟩
 ·obtain rfl:j=T.length:=by omega
  rw [htk] at hj4 ⊢
  rw [List.length_append] at hj4
  have c3:¬ 4000<k.length+(dk (rk O w T)).length:=by omega
  rw [if_neg c3,if_pos rfl,if_pos rfl,if_pos rfl,if_pos rfl,if_pos rfl]
  generalize k++dk (rk O w T)=kk at *
  repeat' first|(refine CW.cut (c:=.region 28 _ _) [(4,.av (.pt true (hsR B C kk n).cells)),(5,.av (.pt true [.int T.length,.int (feeS O T)])),(6,.av (.int 0))] ?_ ?_)|exact w9g|refine w9U 0 5 ?_|(with_reducible refine JA.held ?_)|(refine J.freezeO 132 rfl rfl (sh_map (g:=dlA) (fun _=>rfl)) rfl ?_)|(with_reducible refine JAF.go ?_)|refine w9H2 4 0 1 ?_ ?_|refine w9H2 3 1 2 ?_ ?_|refine w9H1 3 0 ?_|refine w9H1 2 2 ?_|refine w9H1 2 1 ?_|refine w9H1 1 3 ?_|refine w9Hw 0 4 ?_|refine w9H0 ?_|refine w9S @s_ldSA ?_|refine w9E @e_st42 ?_|refine w9x ?_|refine w9p (hCl) ?_|(refine w9c ?_ ?_<;>intro _<;>try exact w9o)|fail
  all_goals exact w9e
theorem doOf4:FnSpec Sy.P 8 [hsR A O k n,dxA 4 n0 w dl] [hsR A O k n,dxA 4 n0 w dl] (.tup [hsR A O k k.length,tdA 0 0,.int 0]):=by
 refine enT Tryz.func8 Tryz.ntmps8 fun v0=>?_
 repeat' first|refine w9S @s_fadM ?_|refine w9S @s_fadFF ?_|refine w9x ?_|fail
 all_goals exact w9e
theorem doOf7(hO:DlL O):FnSpec Sy.P 8 [hsR A O k n,dxA 7 n0 w dl] [hsR A O k n,dxA 7 n0 w dl] (.tup [hsR A (if drE O w n0=0 then drM O w n0 else O) k n,tdA 0 0,.int (drE O w n0)]):=by
 have hP:=(dropOf_spec O w n0 hO).le resD_le
 by_cases c:drE O w n0=0
 ·rw [if_pos c]
  rw [c,ifD0] at hP
  rw [c]
  generalize drM O w n0=B at *
  refine enT Tryz.func8 Tryz.ntmps8 fun v0=>?_
  repeat' first|(refine J.freezeO 203 rfl rfl (sh_map (g:=dlA) (fun _=>rfl)) rfl ?_)|refine w9x ?_|refine w9p (hP) ?_|(refine w9c ?_ ?_<;>intro _<;>try exact w9o)|fail
  all_goals exact w9e
 ·rw [if_neg c]
  generalize ifD (drE O w n0) (drM O w n0)=B at *
  generalize drE O w n0=e at *
  refine enT Tryz.func8 Tryz.ntmps8 fun v0=>?_
  repeat' first|(refine J.freezeO 203 rfl rfl (sh_map (g:=dlA) (fun _=>rfl)) rfl ?_)|refine w9x ?_|refine w9p (hP) ?_|(refine w9c ?_ ?_<;>intro _<;>try exact w9o)|fail
  all_goals exact w9e
theorem doOf6(hA:AcL A):FnSpec Sy.P 8 [hsR A O k n,dxA 6 n0 w dl] [hsR A O k n,dxA 6 n0 w dl] (.tup [hsR A O k n,if fA A w<0 then tdA 0 0 else tdA (A.getD (fA A w).toNat ([],0,0,())).2.1 (A.getD (fA A w).toNat ([],0,0,())).2.2.1,.int (if fA A w<0 then 4 else 0)]):=by
 have hF:=accOf_spec A w hA.len
 have hr:=fA_range A w
 by_cases c:fA A w<0
 ·rw [if_pos c,if_pos c]
  generalize fA A w=x at *
  refine enT Tryz.func8 Tryz.ntmps8 fun v0=>?_
  repeat' first|refine w9x ?_|refine w9p (hF) ?_|(refine w9c ?_ ?_<;>intro _<;>try exact w9o)|fail
  all_goals exact w9e
 ·rw [if_neg c,if_neg c]
  obtain⟨i,hi⟩:∃ i:Nat,fA A w=(i:Int):=⟨(fA A w).toNat,by omega⟩
  rw [hi] at hF hr ⊢
  rw [Int.toNat_natCast,List.getD_eq_getElem?_getD,List.getElem?_eq_getElem (show i<A.length by omega),Option.getD_some]
  have hg:A[i]?=some A[i]:=List.getElem?_eq_getElem (by omega)
  generalize A[i]=a at *
  refine enT Tryz.func8 Tryz.ntmps8 fun v0=>?_
  repeat' first|(refine J.freezeO 2 rfl rfl sh_hsR rfl ?_)|(refine J.freezeO 3 rfl rfl sh_dxA rfl ?_)|refine w9U 0 17 ?_|(with_reducible refine JA.held ?_)|refine w9Ft 16 0 ?_|refine w9Ft 15 1 ?_|refine w9Ft 14 2 ?_|refine w9Ft 13 3 ?_|refine w9Ft 12 4 ?_|refine w9Ft 11 5 ?_|refine w9Ft 10 6 ?_|refine w9Ft 9 7 ?_|refine w9Ft 8 8 ?_|refine w9Ft 7 9 ?_|refine w9Ft 6 10 ?_|refine w9Ft 5 11 ?_|refine w9Ft 4 12 ?_|(with_reducible refine JAF.go ?_)|refine w9H2 3 13 14 ?_ ?_|refine w9H1 2 14 ?_|refine w9H1 2 13 ?_|refine w9H1 1 15 ?_|refine w9Hw 0 16 ?_|refine w9H0 ?_|refine w9S @s_ldSA ?_|refine w9x ?_|refine w9p (hF) ?_|(refine w9c ?_ ?_<;>intro _<;>try exact w9o)|fail
  all_goals exact w9e
theorem doOf5(R:List Rc)(hk:k.length≤4000)(hn:0≤n∧n≤k.length)(hR:crE k n n0=0→(∀ r∈R,r.ok)∧crD k n n0=dk (R.map Rc.str)∧R.length≤4000∧(dk (R.map Rc.str)).length≤4000) :
  FnSpec Sy.P 8 [hsR A O k n,dxA 5 n0 w dl] [hsR A O k n,dxA 5 n0 w dl] (.tup [if crE k n n0=0 then hsR (rcs R) [] (crD k n n0) (crN k n n0) else hsR A O k n,tdA 0 0,.int (crE k n n0)]):=by
 have hC:=crashOf_spec k n n0 hk hn
 by_cases c:crE k n n0=0
 ·obtain⟨h1,h2,h3,h4⟩:=hR c
  rw [if_pos c]
  rw [c] at hC ⊢
  have hS:=scanOf_spec _ (crD k n n0) (Nat.le_refl _) (by rw [h2];omega)
  rw [h2,scan_dk (strs_le h1),←h2] at hS
  have hT:=told_spec R h1 h3
  generalize crD k n n0=k' at *
  generalize crN k n n0=n' at *
  generalize rcs R=B at *
  generalize R.map Rc.str=rs at *
  refine enT Tryz.func8 Tryz.ntmps8 fun v0=>?_
  repeat' first|(refine J.freezeO 165 rfl rfl (sh_map (g:=acA) (fun _=>rfl)) rfl ?_)|refine w9S @s_fadM ?_|refine w9S @s_fadFF ?_|((with_reducible apply J.eff);rfl;((with_reducible apply e_stFle (z':=.sl false 6 []))<;>(first|rfl|exact .nil)))|refine w9E @e_st42 ?_|refine w9x ?_|refine w9p (hC) ?_|refine w9p (hS) ?_|refine w9p (hT) ?_|(refine w9c ?_ ?_<;>intro _<;>try exact w9o)|fail
  all_goals exact w9e
 ·rw [if_neg c]
  generalize crD k n n0=k' at *
  generalize crN k n n0=n' at *
  generalize crE k n n0=e at *
  refine enT Tryz.func8 Tryz.ntmps8 fun v0=>?_
  repeat' first|refine w9S @s_fadM ?_|refine w9S @s_fadFF ?_|refine w9E @e_st42 ?_|refine w9x ?_|refine w9p (hC) ?_|(refine w9c ?_ ?_<;>intro _<;>try exact w9o)|fail
  all_goals exact w9e
theorem doOf0(kd:Int)(hd:kd<1∨7<kd):FnSpec Sy.P 8 [hsR A O k n,dxA kd n0 w dl] [hsR A O k n,dxA kd n0 w dl] (.tup [hsR A O k n,tdA 0 0,.int 1]):=by
 refine enT Tryz.func8 Tryz.ntmps8 fun v0=>?_
 repeat' first|refine w9x ?_|(refine w9c ?_ ?_<;>intro _<;>try exact w9o)|fail
 all_goals exact w9e
end
section
variable (A:List Ac) (O:List Dl) (k:Str) (n n0:Int) (w:Str) (dl:Dl) (kd:Int)
theorem open_h(hA:AcL A)(hk:k.length≤4000)(hw:w.length≤9223372036854775807):FnSpec Sy.P 27 [hsV A O k n,dxA kd n0 w dl] [hsV (onA A k w n0) O (onD A k w n0) n,dxA kd n0 w dl] (.int (onE A k w n0)):=by
 have hO:=(open_spec A w n0 hA hw).le resA_le
 unfold onA onD onE
 by_cases c:opE A w n0=0
 ·obtain⟨_,hn,hm,_⟩:=opE_ok c
  have hI:=itoa_spec n0 (by omega) (by omega)
  have hl:=recO_len hn hm
  have hw8:=nm_len hn
  have hil:=Zp.itoa_len n0 hm.1 hm.2
  have hP:=logAppend_spec k (recO w n0) n hk (by omega)
  rw [if_neg (not_not_intro c)]
  rw [c,ifA0] at hO
  unfold appD at hP
  rw [if_neg (by omega)] at hP
  have hrc:[111,32]++w++[32]++Lib.itoa n0=recO w n0:=rfl
  by_cases c2:4000<k.length+(recO w n0).length+3
  ·have e2:appE k (recO w n0)=8:=by unfold appE;rw [if_neg (by omega),if_pos c2]
   rw [if_pos c2,e2] at hP
   rw [e2,if_neg (by decide),if_neg (by decide)]
   generalize opM A w n0=B at *
   rw [← hrc] at hP
   generalize Lib.itoa n0=z at *
   refine FnSpec.enter (S:=Sy) 1 Tryz.func27 rfl rfl rfl Tryz.ntmps27 rfl rfl rfl rfl fun v0=>?_
   repeat' first|(refine J.freezeO 3 rfl rfl sh_dxA rfl ?_)|refine w9U 0 14 ?_|(with_reducible refine JA.held ?_)|refine w9Ft 13 0 ?_|refine w9Ft 12 1 ?_|refine w9Ft 11 2 ?_|refine w9Ft 10 4 ?_|refine w9Ft 9 5 ?_|refine w9Ft 8 6 ?_|refine w9Ft 7 7 ?_|(refine CW.cut (c:=.region 4 _ _) [(0,.av (hsV A O k n)),(7,.av (.int 8))] ?_ ?_)|exact w9g|refine w9U 0 14 ?_|(with_reducible refine JA.held ?_)|refine w9Ft 13 0 ?_|refine w9Ft 12 1 ?_|refine w9Ft 11 2 ?_|refine w9Ft 10 4 ?_|refine w9Ft 9 5 ?_|refine w9Ft 8 6 ?_|refine w9Ft 7 7 ?_|refine w9Ft 6 8 ?_|refine w9Ft 5 9 ?_|(with_reducible refine JAF.go ?_)|refine w9H1 6 3 ?_|refine w9H1 5 8 ?_|refine w9Hw 4 9 ?_|refine w9Hw 3 10 ?_|refine w9Hw 2 11 ?_|refine w9Hw 1 12 ?_|refine w9Hw 0 13 ?_|refine w9H0 ?_|refine w9H2 4 3 10 ?_ ?_|refine w9H1 3 10 ?_|refine w9Hw 3 11 ?_|refine w9Hw 2 11 ?_|refine w9H1 2 3 ?_|refine w9H1 1 12 ?_|refine w9Hw 0 13 ?_|refine w9H0 ?_|((with_reducible apply J.step);rfl;((with_reducible apply s_ldFb)<;>(first|rfl|exact AV.noConfusion)))|refine w9x ?_|refine w9p (hO) ?_|refine w9p (hI) ?_|refine w9f (hP) ?_|(refine w9c ?_ ?_<;>intro _<;>try exact w9o)|fail
   all_goals exact w9e
  ·have e2:appE k (recO w n0)=0:=by unfold appE;rw [if_neg (by omega),if_neg c2]
   rw [if_neg c2,e2] at hP
   rw [e2,if_pos rfl,if_pos rfl]
   generalize opM A w n0=B at *
   generalize frm (recO w n0)=fr at *
   rw [← hrc] at hP
   generalize Lib.itoa n0=z at *
   refine FnSpec.enter (S:=Sy) 1 Tryz.func27 rfl rfl rfl Tryz.ntmps27 rfl rfl rfl rfl fun v0=>?_
   repeat' first|(refine J.freezeO 3 rfl rfl sh_dxA rfl ?_)|refine w9U 0 14 ?_|(with_reducible refine JA.held ?_)|refine w9Ft 13 0 ?_|refine w9Ft 12 1 ?_|refine w9Ft 11 2 ?_|refine w9Ft 10 4 ?_|refine w9Ft 9 5 ?_|refine w9Ft 8 6 ?_|refine w9Ft 7 7 ?_|(refine CW.cut (c:=.region 4 _ _) [(5,.av (.sl false 3 (B.map acA))),(0,.av (hsV A O (k++fr) n)),(7,.av (.int 0))] ?_ ?_)|exact w9g|refine w9U 0 14 ?_|(with_reducible refine JA.held ?_)|refine w9Ft 13 0 ?_|refine w9Ft 12 1 ?_|refine w9Ft 11 2 ?_|refine w9Ft 10 4 ?_|refine w9Ft 9 5 ?_|refine w9Ft 8 6 ?_|refine w9Ft 7 7 ?_|refine w9Ft 6 8 ?_|refine w9Ft 5 9 ?_|(refine J.freezeO 5 rfl rfl (sh_map (g:=acA) (fun _=>rfl)) rfl ?_)|(with_reducible refine JAF.go ?_)|refine w9H1 6 3 ?_|refine w9H1 5 8 ?_|refine w9Hw 4 9 ?_|refine w9Hw 3 10 ?_|refine w9Hw 2 11 ?_|refine w9Hw 1 12 ?_|refine w9Hw 0 13 ?_|refine w9H0 ?_|refine w9H2 4 3 10 ?_ ?_|refine w9H1 3 10 ?_|refine w9Hw 3 11 ?_|refine w9Hw 2 11 ?_|refine w9H1 2 3 ?_|refine w9H1 1 12 ?_|refine w9Hw 0 13 ?_|refine w9H0 ?_|((with_reducible apply J.step);rfl;((with_reducible apply s_ldFb)<;>(first|rfl|exact AV.noConfusion)))|refine w9x ?_|refine w9p (hO) ?_|refine w9p (hI) ?_|refine w9f (hP) ?_|(refine w9c ?_ ?_<;>intro _<;>try exact w9o)|fail
   all_goals exact w9e
 ·rw [if_pos c,if_neg c,if_neg c]
  generalize ifA (opE A w n0) (opM A w n0)=B at *
  generalize opE A w n0=e at *
  refine FnSpec.enter (S:=Sy) 1 Tryz.func27 rfl rfl rfl Tryz.ntmps27 rfl rfl rfl rfl fun v0=>?_
  repeat' first|(refine J.freezeO 3 rfl rfl sh_dxA rfl ?_)|refine w9U 0 14 ?_|(with_reducible refine JA.held ?_)|refine w9Ft 13 0 ?_|refine w9Ft 12 1 ?_|refine w9Ft 11 2 ?_|refine w9Ft 10 4 ?_|refine w9Ft 9 5 ?_|refine w9Ft 8 6 ?_|refine w9Ft 7 7 ?_|(with_reducible refine JAF.go ?_)|refine w9H1 6 3 ?_|refine w9H1 5 8 ?_|refine w9Hw 4 9 ?_|refine w9Hw 3 10 ?_|refine w9Hw 2 11 ?_|refine w9Hw 1 12 ?_|refine w9Hw 0 13 ?_|refine w9H0 ?_|refine w9x ?_|refine w9p (hO) ?_|(refine w9c ?_ ?_<;>intro _<;>try exact w9o)|fail
  all_goals exact w9e
end
end Go.Proofs.YtkkcnppgcnmikaaGreatDoor
