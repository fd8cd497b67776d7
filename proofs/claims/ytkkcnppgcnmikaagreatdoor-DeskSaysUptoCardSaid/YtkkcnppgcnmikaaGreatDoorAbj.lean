/- The desk: numbers of words, rows of numbers, by the program and by the reference. -/
import Derived.Test.YtkkcnppgcnmikaaGreatDoorAbh
import Derived.Test.YtkkcnppgcnmikaaGreatDoorAbi
import Derived.Test.YtkkcnppgcnmikaaGreatDoorAbe
namespace Go.Proofs.YtkkcnppgcnmikaaGreatDoor
open Go FM Go.Proofs
set_option maxRecDepth 10000
set_option maxHeartbeats 3200000
set_option linter.all false
/-! ### numbers of words -/
abbrev swS(l:List Str):AV:=.sl false 1 (l.map .str)
theorem numbers_spec(l:List Str)(h:l.all nuB=true)(hl:l.length≤1000000):FnSpec Sy.P 150 [swS l] [swS l] (.sl true 1 ((l.map nuV).map .int)):=by
 refine enT Tryz.func150 Tryz.ntmps150 fun v0=>?_
 repeat' first|refine w9x ?_|(refine w9c ?_ ?_<;>intro _<;>try exact w9o)|fail
 refine CW.own 3 1 rfl ?_
 refine CW.loop (fun k:Nat=>[(0,.av (swS l)),(3,.av (.sl true 1 (((l.take k).map nuV).map .int))),(6,.av (swS l)),(7,.av (.int (l.length))),(8,.av (.int (k)))]) (fun k=>k≤l.length) (fun k=>l.length-k) (0) ?_ (w9a) ?_
 ·exact Nat.zero_le _
 intro k hk
 by_cases hkl:k<l.length
 ·have hx:l[k]?=some l[k]:=List.getElem?_eq_getElem hkl
  have hN:=number_spec l[k] (List.all_eq_true.1 h _ (List.getElem_mem hkl))
  have ht:(l.take (k+1)).map nuV=(l.take k).map nuV++[nuV l[k]]:=by rw [List.take_succ_eq_append_getElem hkl,List.map_append];rfl
  have hn:((l.take k).map nuV).length≤1000000:=by rw [List.length_map,List.length_take];omega
  generalize (l.take k).map nuV=B at *
  generalize l[k]=s at *
  repeat' first|refine w9x ?_|refine w9p (hN) ?_|(refine w9c ?_ ?_<;>intro _<;>try exact w9o)|fail
  all_goals try exact w9o
  refine⟨k+1,?_,w9n,by(repeat' (first|exact w9b|refine And.intro ?_ ?_|exact ints_congr ht.symm))⟩
  omega
 ·obtain rfl:k=l.length:=by omega
  rw [List.take_length]
  repeat' first|refine w9x ?_|(refine w9c ?_ ?_<;>intro _<;>try exact w9o)|fail
  all_goals exact w9e
theorem numbers_dies(l:List Str)(h:l.all nuB=false)(hl:l.length≤1000000)(hs:∀ s∈l,s.length≤9223372036854775807):FnDies Sy.P 150 [swS l] [swS l] (refd 12):=by
 refine FnDies.enter0 (S:=Sy) Tryz.func150 rfl rfl Tryz.ntmps150 rfl rfl fun v0=>?_
 repeat' first|refine w9x ?_|(refine w9c ?_ ?_<;>intro _<;>try exact w9o)|fail
 refine CW.own 3 1 rfl ?_
 refine CW.loop (fun k:Nat=>[(0,.av (swS l)),(3,.av (.sl true 1 (((l.take k).map nuV).map .int))),(6,.av (swS l)),(7,.av (.int (l.length))),(8,.av (.int (k)))]) (fun k=>k≤l.length∧(l.take k).all nuB=true) (fun k=>l.length-k) (0) ?_ (w9a) ?_
 ·exact⟨Nat.zero_le _,rfl⟩
 intro k ⟨hk,ha⟩
 by_cases hkl:k<l.length
 ·have hx:l[k]?=some l[k]:=List.getElem?_eq_getElem hkl
  have hls:=hs _ (List.getElem_mem hkl)
  have hat:(l.take (k+1)).all nuB=nuB l[k]:=by rw [List.take_succ_eq_append_getElem hkl,List.all_append,ha];simp
  cases hb:nuB l[k] with
  | true =>
   have hN:=number_spec l[k] hb
   have ht:(l.take (k+1)).map nuV=(l.take k).map nuV++[nuV l[k]]:=by rw [List.take_succ_eq_append_getElem hkl,List.map_append];rfl
   have hn:((l.take k).map nuV).length≤1000000:=by rw [List.length_map,List.length_take];omega
   rw [hb] at hat
   generalize (l.take k).map nuV=B at *
   generalize l[k]=s at *
   repeat' first|refine w9x ?_|refine w9p (hN) ?_|(refine w9c ?_ ?_<;>intro _<;>try exact w9o)|fail
   all_goals try exact w9o
   refine⟨k+1,?_,w9n,by(repeat' (first|exact w9b|refine And.intro ?_ ?_|exact ints_congr ht.symm))⟩
   exact⟨by omega,hat⟩
  | false =>
   have hD:=number_dies l[k] hb hls
   generalize l[k]=s at *
   repeat' first|refine w9x ?_|(exact J.die0 hD rfl (.cons (.pl rfl rfl) .nil))|(refine w9c ?_ ?_<;>intro _<;>try exact w9o)|fail
   all_goals try exact w9o
   all_goals done
 ·exfalso
  obtain rfl:k=l.length:=by omega
  rw [List.take_length,h] at ha
  cases ha
/-! ### digits, by the reference -/
def dgL:Str:=[48,49,50,51,52,53,54,55,56,57]
theorem dgL_has(c:UInt8):dgL.contains c=dgB c:=by
 have h:∀ n,n<256→dgL.contains (UInt8.ofNat n)=dgB (UInt8.ofNat n):=by decide +kernel
 have:=h c.toNat c.toNat_lt
 rwa [UInt8.ofNat_toNat] at this
theorem trim_dg(s:Str):(Lib.trimS s dgL=[])↔s.all dgB=true:=by
 have hp:(fun c=>dgL.contains c)=dgB:=funext dgL_has
 unfold Lib.trimS Lib.trimLeftS Lib.trimRightS
 rw [hp]
 constructor
 ·intro h
  rw [List.all_eq_true]
  intro c hc
  refine Classical.byContradiction fun hn=>?_
  have hn:dgB c=false:=by simpa using hn
  have h1:=mem_dropW (p:=dgB) hn (List.mem_reverse.2 hc)
  have h2:=mem_dropW (p:=dgB) hn (List.mem_reverse.2 h1)
  rw [h] at h2;cases h2
 ·intro h
  have:s.reverse.all dgB=true:=by rw [List.all_reverse];exact h
  rw [dropW_all this];rfl
theorem decFrom_nu:∀ (s:Str) (acc:Nat),s.all dgB=true→Lib.decFrom acc s=some (s.foldl (fun n c=>10*n+(c.toNat-48)) acc)
 | [],acc,_=>rfl
 | c::s,acc,h=>by
  rw [List.all_cons,Bool.and_eq_true] at h
  have hc:=h.1
  unfold dgB at hc
  rw [decide_eq_true_eq] at hc
  rw [Lib.decFrom,Lib.digitVal,if_pos hc,List.foldl_cons]
  show Lib.decFrom (acc*10+(c.toNat-48)) s=_
  rw [Nat.mul_comm,decFrom_nu s _ h.2]
theorem nuV_nat:∀ (s:Str) (acc:Nat),s.foldl (fun n c=>10*n+((c.toNat-48:Nat):Int)) (acc:Int)=((s.foldl (fun n c=>10*n+(c.toNat-48)) acc:Nat):Int)
 | [],acc=>rfl
 | c::s,acc=>by
  rw [List.foldl_cons,List.foldl_cons,←nuV_nat s]
  congr 1
theorem numOf_nu{s:Str}(h:nuB s=true):numOf s=nuV s:=by
 obtain⟨h1,h2⟩:=nuB_ok h
 have hd:=decFrom_nu s 0 h2
 have hv:nuV s=((s.foldl (fun n c=>10*n+(c.toNat-48)) 0:Nat):Int):=nuV_nat s 0
 cases s with
 | nil=>simp at h1
 | cons b r =>
  have hb:=List.all_eq_true.1 h2 b (List.mem_cons_self ..)
  unfold dgB at hb
  rw [decide_eq_true_eq] at hb
  have e1:(b==45)=false:=by
   cases h:b==45 with
   | false=>rfl
   | true=>rw [eq_of_beq h] at hb;revert hb;decide
  have e2:(b==43)=false:=by
   cases h:b==43 with
   | false=>rfl
   | true=>rw [eq_of_beq h] at hb;revert hb;decide
  unfold numOf
  rw [Lib.atoi,e1,e2]
  simp only [Bool.false_eq_true,if_false,Lib.decNat,List.isEmpty_cons,hd,Option.map_some,Option.getD_some,hv]
theorem digits_ok(l:List Str)(h:l.all nuB=true)(hl:l.length≤1000000):FnSpec Sy.P 99 [swS l] [swS l] (.tup [.sl true 1 ((l.map nuV).map .int),.bool true]):=by
 refine enT Tryz.func99 Tryz.ntmps99 fun v0=>?_
 repeat' first|refine w9x ?_|(refine w9c ?_ ?_<;>intro _<;>try exact w9o)|fail
 refine CW.own 4 1 rfl ?_
 refine CW.loop (fun k:Nat=>[(0,.av (swS l)),(4,.av (.sl true 1 (((l.take k).map nuV).map .int))),(9,.av (swS l)),(10,.av (.int (l.length))),(11,.av (.int (k)))]) (fun k=>k≤l.length) (fun k=>l.length-k) (0) ?_ (w9a) ?_
 ·exact Nat.zero_le _
 intro k hk
 by_cases hkl:k<l.length
 ·have hx:l[k]?=some l[k]:=List.getElem?_eq_getElem hkl
  have hb:=List.all_eq_true.1 h _ (List.getElem_mem hkl)
  obtain⟨h1,h2⟩:=nuB_ok hb
  have hT:=trim_spec l[k] dgL (by omega) (by decide) (fun j b h=>by
   have:∀ b∈dgL,b.toNat<128:=by decide
   exact this b (List.mem_of_getElem? h))
  rw [(trim_dg l[k]).2 h2] at hT
  have hA:=atoi_spec l[k] (by omega)
  rw [numOf_nu hb] at hA
  have ht:(l.take (k+1)).map nuV=(l.take k).map nuV++[nuV l[k]]:=by rw [List.take_succ_eq_append_getElem hkl,List.map_append];rfl
  have hn:((l.take k).map nuV).length≤1000000:=by rw [List.length_map,List.length_take];omega
  have h0:l[k]≠[]:=fun e=>by rw [e] at h1;simp at h1
  generalize (l.take k).map nuV=B at *
  generalize l[k]=s at *
  repeat' first|refine w9x ?_|refine w9p (hT) ?_|refine w9p (hA) ?_|(refine w9c ?_ ?_<;>intro _<;>try exact w9o)|fail
  all_goals first|(exfalso;omega)|(exfalso;contradiction)|(exfalso;simp at *;done)|skip
  all_goals
   refine⟨k+1,?_,w9n,by(repeat' (first|exact w9b|refine And.intro ?_ ?_|exact ints_congr ht.symm))⟩
   omega
 ·obtain rfl:k=l.length:=by omega
  rw [List.take_length]
  repeat' first|refine w9x ?_|(refine w9c ?_ ?_<;>intro _<;>try exact w9o)|fail
  all_goals exact w9e
theorem digits_no(l:List Str)(h:l.all nuB=false)(hl:l.length≤1000000)(hs:∀ s∈l,s.length≤9223372036854775807):FnSpec Sy.P 99 [swS l] [swS l] (.tup [.nil,.bool false]):=by
 refine enT Tryz.func99 Tryz.ntmps99 fun v0=>?_
 repeat' first|refine w9x ?_|(refine w9c ?_ ?_<;>intro _<;>try exact w9o)|fail
 refine CW.own 4 1 rfl ?_
 refine CW.loop (fun k:Nat=>[(0,.av (swS l)),(4,.av (.sl true 1 (((l.take k).map nuV).map .int))),(9,.av (swS l)),(10,.av (.int (l.length))),(11,.av (.int (k)))]) (fun k=>k≤l.length∧(l.take k).all nuB=true) (fun k=>l.length-k) (0) ?_ (w9a) ?_
 ·exact⟨Nat.zero_le _,rfl⟩
 intro k ⟨hk,ha⟩
 by_cases hkl:k<l.length
 ·have hx:l[k]?=some l[k]:=List.getElem?_eq_getElem hkl
  have hls:=hs _ (List.getElem_mem hkl)
  have hat:(l.take (k+1)).all nuB=nuB l[k]:=by rw [List.take_succ_eq_append_getElem hkl,List.all_append,ha];simp
  have hT:=trim_spec l[k] dgL hls (by decide) (fun j b h=>by
   have:∀ b∈dgL,b.toNat<128:=by decide
   exact this b (List.mem_of_getElem? h))
  have hq:=trim_dg l[k]
  cases hb:nuB l[k] with
  | true =>
   obtain⟨h1,h2⟩:=nuB_ok hb
   rw [(trim_dg l[k]).2 h2] at hT
   have hA:=atoi_spec l[k] (by omega)
   have ht:(l.take (k+1)).map nuV=(l.take k).map nuV++[nuV l[k]]:=by rw [List.take_succ_eq_append_getElem hkl,List.map_append];rfl
   have hn:((l.take k).map nuV).length≤1000000:=by rw [List.length_map,List.length_take];omega
   rw [hb] at hat
   rw [numOf_nu hb] at hA
   have h0:l[k]≠[]:=fun e=>by rw [e] at h1;simp at h1
   generalize (l.take k).map nuV=B at *
   generalize l[k]=s at *
   repeat' first|refine w9x ?_|refine w9p (hT) ?_|refine w9p (hA) ?_|(refine w9c ?_ ?_<;>intro _<;>try exact w9o)|fail
   all_goals first|(exfalso;omega)|(exfalso;contradiction)|(exfalso;simp at *;done)|skip
   all_goals
    refine⟨k+1,?_,w9n,by(repeat' (first|exact w9b|refine And.intro ?_ ?_|exact ints_congr ht.symm))⟩
    exact⟨by omega,hat⟩
  | false =>
   unfold nuB at hb
   have hb2:¬ ((1≤l[k].length∧l[k].length≤6)∧Lib.trimS l[k] dgL=[]):=fun e=>by
    rw [decide_eq_true e.1,hq.1 e.2] at hb;cases hb
   have h0:l[k]=[]↔l[k].length=0:=List.length_eq_zero_iff.symm
   generalize Lib.trimS l[k] dgL=u at *
   generalize l[k]=s at *
   repeat' first|refine w9x ?_|refine w9p (hT) ?_|(refine w9c ?_ ?_<;>intro _<;>try exact w9o)|fail
   all_goals first|(exfalso;omega)|exact .mk rfl rfl rfl|skip
   all_goals (exfalso;apply hb2;refine⟨⟨?_,by omega⟩,Classical.not_not.1 ‹¬ u≠[]›⟩;have:=mt h0.2 ‹¬ s=[]›;omega)
 ·exfalso
  obtain rfl:k=l.length:=by omega
  rw [List.take_length,h] at ha
  cases ha
/-! ### rows of numbers -/
theorem itoa_len9(n:Int)(h:0≤n)(h2:n≤1000000000):(Lib.itoa n).length≤10:=by
 rw [Zp.itoa_nat n h,Lib.decDigits_length]
 have h3:=Lib.nDigits_pos n.toNat
 rcases Nat.lt_or_ge 10 (Lib.nDigits n.toNat) with h4|h4
 ·exfalso
  have key:∀ k u,u<10 ^ (k+1)→Lib.nDigits u≤k+1:=fun k=>by
   induction k with
   | zero=>intro u hu;rw [Lib.nDigits_small (by omega)];omega
   | succ k ih =>
    intro u hu
    by_cases h:u<10
    ·rw [Lib.nDigits_small h];omega
    ·rw [Lib.nDigits_big h]
     have:=ih (u / 10) (by rw [Nat.pow_succ] at hu;omega)
     omega
  have:=key 9 n.toNat (by omega)
  omega
 ·exact h4
def lsP(l:List Int):Str:=l.flatMap fun x=>Lib.itoa x++[32]
def lsS(l:List Int):Str:=lsP l++[46]
def rfS(e:Int):Str:=[101,114,114,111,114,32]++Lib.itoa e
theorem lsP_take{l:List Int}{k:Nat}(h:k<l.length):lsP (l.take (k+1))=lsP (l.take k)++(Lib.itoa l[k]++[32]):=by
 unfold lsP;rw [List.take_succ_eq_append_getElem h,List.flatMap_append];simp
theorem lsP_len{l:List Int}(h:∀ x∈l,0≤x∧x≤1000000000):(lsP l).length≤11*l.length:=by
 induction l with
 | nil=>simp [lsP]
 | cons x l ih =>
  have h1:=h x (List.mem_cons_self ..)
  have h2:=itoa_len9 x h1.1 h1.2
  have ih:=ih fun y hy=>h y (List.mem_cons_of_mem _ hy)
  unfold lsP at *
  rw [List.flatMap_cons,List.length_append,List.length_append,List.length_cons]
  simp only [List.length_cons,List.length_nil]
  omega
theorem listed_spec(l:List Int)(hl:l.length≤1000)(hx:∀ x∈l,0≤x∧x≤1000000000):FnSpec Sy.P 151 [.sl false 1 ((l).map .int)] [.sl false 1 ((l).map .int)] (.str (lsS l)):=by
 refine enT Tryz.func151 Tryz.ntmps151 fun v0=>?_
 repeat' first|refine w9x ?_|(refine w9c ?_ ?_<;>intro _<;>try exact w9o)|fail
 refine CW.loop (fun k:Nat=>[(0,.av (.sl false 1 ((l).map .int))),(3,.av (.str (lsP (l.take k)))),(6,.av (.sl false 1 ((l).map .int))),(7,.av (.int (l.length))),(8,.av (.int (k)))]) (fun k=>k≤l.length) (fun k=>l.length-k) (0) ?_ (w9a) ?_
 ·exact Nat.zero_le _
 intro k hk
 have hb:=lsP_len (l:=l.take k) fun x h=>hx x (List.mem_of_mem_take h)
 rw [List.length_take] at hb
 by_cases hkl:k<l.length
 ·have hg:l[k]?=some l[k]:=List.getElem?_eq_getElem hkl
  have h1:=hx _ (List.getElem_mem hkl)
  have h2:=itoa_len9 l[k] h1.1 h1.2
  have hI:=itoa_spec l[k] (by omega) (by omega)
  have ht:=lsP_take hkl
  generalize lsP (l.take k)=B at *
  generalize Lib.itoa l[k]=s at *
  generalize l[k]=x at *
  repeat' first|refine w9x ?_|refine w9p (hI) ?_|(refine w9c ?_ ?_<;>intro _<;>try exact w9o)|fail
  all_goals try exact w9o
  refine⟨k+1,?_,w9n,by(repeat' (first|exact w9b|refine And.intro ?_ ?_|exact congrArg (fun y=>TV.av (AV.str y)) ht.symm))⟩
  omega
 ·obtain rfl:k=l.length:=by omega
  rw [List.take_length] at hb ⊢
  unfold lsS
  repeat' first|refine w9x ?_|(refine w9c ?_ ?_<;>intro _<;>try exact w9o)|fail
  all_goals exact w9e
theorem refusal_spec(e:Int)(he:0≤e∧e≤100):FnSpec Sy.P 98 [.int e] [.int e] (.str (rfS e)):=by
 have h2:=itoa_len9 e he.1 (by omega)
 have hI:=itoa_spec e (by omega) (by omega)
 unfold rfS
 generalize Lib.itoa e=s at *
 refine enT Tryz.func98 Tryz.ntmps98 fun v0=>?_
 repeat' first|refine w9x ?_|refine w9p (hI) ?_|fail
 all_goals exact w9e
theorem row_spec(l:List Int)(hl:l.length≤1000)(hx:∀ x∈l,0≤x∧x≤1000000000):FnSpec Sy.P 101 [.int 0,.sl false 1 ((l).map .int)] [.int 0,.sl false 1 ((l).map .int)] (.str (lsS l)):=by
 refine enT Tryz.func101 Tryz.ntmps101 fun v0=>?_
 repeat' first|refine w9x ?_|(refine w9c ?_ ?_<;>intro _<;>try exact w9o)|fail
 refine CW.loop (fun k:Nat=>[(1,.av (.sl false 1 ((l).map .int))),(5,.av (.str (lsP (l.take k)))),(12,.av (.sl false 1 ((l).map .int))),(13,.av (.int (l.length))),(14,.av (.int (k)))]) (fun k=>k≤l.length) (fun k=>l.length-k) (0) ?_ (w9a) ?_
 ·exact Nat.zero_le _
 intro k hk
 have hb:=lsP_len (l:=l.take k) fun x h=>hx x (List.mem_of_mem_take h)
 rw [List.length_take] at hb
 by_cases hkl:k<l.length
 ·have hg:l[k]?=some l[k]:=List.getElem?_eq_getElem hkl
  have h1:=hx _ (List.getElem_mem hkl)
  have h2:=itoa_len9 l[k] h1.1 h1.2
  have hI:=itoa_spec l[k] (by omega) (by omega)
  have ht:=lsP_take hkl
  generalize lsP (l.take k)=B at *
  generalize Lib.itoa l[k]=s at *
  generalize l[k]=x at *
  repeat' first|refine w9x ?_|refine w9p (hI) ?_|(refine w9c ?_ ?_<;>intro _<;>try exact w9o)|fail
  all_goals try exact w9o
  refine⟨k+1,?_,w9n,by(repeat' (first|exact w9b|refine And.intro ?_ ?_|exact congrArg (fun y=>TV.av (AV.str y)) ht.symm))⟩
  omega
 ·obtain rfl:k=l.length:=by omega
  rw [List.take_length] at hb ⊢
  unfold lsS
  repeat' first|refine w9x ?_|(refine w9c ?_ ?_<;>intro _<;>try exact w9o)|fail
  all_goals exact w9e
theorem row_err(e:Int)(l:List Int)(he:0<e∧e≤100):FnSpec Sy.P 101 [.int e,.sl false 1 ((l).map .int)] [.int e,.sl false 1 ((l).map .int)] (.str (rfS e)):=by
 have hR:=refusal_spec e (by omega)
 refine enT Tryz.func101 Tryz.ntmps101 fun v0=>?_
 repeat' first|refine w9x ?_|refine w9p (hR) ?_|(refine w9c ?_ ?_<;>intro _<;>try exact w9o)|fail
 all_goals exact w9e
end Go.Proofs.YtkkcnppgcnmikaaGreatDoor
namespace FM
open Go Go.RowKit
set_option linter.all false
theorem RelL.intoBox{S:Sys}{N:Nat}{σ:St}{w0:World}{L0:Nat→Lab}{a:Act}{w:World}{L:Nat→Lab}(hR:RelL S w0 L0 N σ a w L){s i t0:Nat}{r:AV}{xs:List AV}(hs:FM.get σ s=.av (.pt true xs))(ht0:FM.get σ t0=.av r)(hr1:r.cells=[r])(hst:t0≠s)(hi:i<xs.length)
  (hcell:∀ b,L b=.my [s]→w.cell? ⟨b,i,none⟩=some (a.tmps.getD t0 undef)):RelL S w0 L0 N ((σ.put t0 .none).upd false s (.av (.pt true (xs.set i r)))) a w (remap (φinto s i t0) L):=by
 have hsN:=own_lt hR hs (by simp)
 have htN:=own_lt hR ht0 (by simp)
 have hks:∀ b,L b=.my [s]→remap (φinto s i t0) L b=.my [s]:=fun b hb=>remap_to hb (φinto_keep hst (by simp [strip]))
 refine⟨hR.defers,hR.size,hR.keep,hR.lok.remap φinto_inj,fun n hn=>?_,fun n hn=>?_,hR.fix,hR.glob⟩
 ·simp only [FM.get,kill_eq]
  by_cases hsn:s=n
  ·subst hsn
   rw [Nat.beq_refl,cond_true]
   have hh:=hR.hold s hn
   rw [hs] at hh
   have ht:=hR.hold t0 htN
   rw [ht0] at ht
   simp only [Hold] at hh ht ⊢
   generalize a.tmps.getD s undef=sv at hh
   cases hh with
   | @ptO p cs b arr e u hL hb hsz hcl hr =>
    have hci:=hcell b hL
    rw [cell_of_row w b i arr e (0,0) hb] at hci
    refine .ptO (fun o=>if o=i then a.tmps.getD t0 undef else u o) (hks b hL) hb (by rw [List.length_set];exact hsz) (fun o ho=>?_) (fun o y hy=>?_)
    ·split
     ·rename_i e;subst e;exact hci
     ·rw [List.length_set] at ho;exact hcl o ho
    ·rw [List.getElem?_set] at hy
     by_cases ho:i=o
     ·subst ho
      rw [if_pos rfl,if_pos hi] at hy
      cases hy
      simp only [if_pos]
      refine Rep.frame (Nat.le_refl _) rfl rfl rfl (fun k h1 _=>⟨remap_sh h1,rfl⟩) ht _ fun p hp=>?_
      cases hp
      refine⟨_,rfl,fun k q hk=>⟨remap_to hk ?_,rfl⟩⟩
      unfold φinto
      rw [strip_spec.2 rfl];rfl
     ·rw [if_neg ho] at hy
      simp only [if_neg (Ne.symm ho)]
      refine Rep.frame (Nat.le_refl _) rfl rfl rfl (fun k h1 _=>⟨remap_sh h1,rfl⟩) (hr o y hy) _ fun p hp=>?_
      cases hp
      refine⟨_,rfl,fun k q hk=>⟨remap_to hk ?_,rfl⟩⟩
      refine φinto_keep hst ?_
      simp [strip,not_beq ho,Nat.beq_refl]
  ·rw [not_beq hsn,cond_false]
   by_cases htn:t0=n
   ·subst htn;rw [Nat.beq_refl,cond_true];trivial
   ·rw [not_beq htn,cond_false]
    cases hd:(FM.get σ n).dep t0 with
    | true=>trivial
    | false =>
     rw [cond_false]
     have hh:=hR.hold n hn
     have key:∀ tv:TV,tv.dep s=false→tv.dep t0=false→Hold L w a.tmps n tv (a.tmps.getD n undef)→Hold (remap (φinto s i t0) L) w a.tmps n tv (a.tmps.getD n undef):=fun tv hds hdt hh =>
      Hold.relab (good:=fun m=>m≠s∧m≠t0) (Nat.le_refl _) rfl rfl rfl (fun k h1 _=>⟨remap_sh h1,rfl⟩) (fun k m q h1 h2=>⟨remap_to h1 (φinto_keep (fun e=>h2.2 e.symm) (by simp only [strip,not_beq (fun e=>h2.1 e.symm:s≠m),cond_false])),rfl⟩)
       (fun _ _=>rfl) ⟨fun e=>hsn e.symm,fun e=>htn e.symm⟩ (fun m hm=>⟨fun e=>(by subst e;rw [hds] at hm;cases hm),fun e=>(by subst e;rw [hdt] at hm;cases hm)⟩) hh
     generalize FM.get σ n=tv at hh hd
     cases tv with
     | none=>trivial
     | av x=>exact key _ rfl rfl hh
     | ref s'=>exact hh
     | rref s' q y =>
      simp only [TV.stale]
      cases hb':Nat.beq s' s with
      | false=>exact key _ hb' hd hh
      | true=>trivial
     | ptr s' q c y =>
      simp only [TV.stale]
      cases hb':Nat.beq s' s with
      | false=>exact key _ hb' hd hh
      | true =>
       have:=Nat.eq_of_beq_eq_true hb';subst this
       obtain⟨k,h1,h2,_⟩:=hh;exact⟨k,hks k h1,h2,fun h=>absurd rfl h⟩
     | fpt s' o y =>
      simp only [TV.stale]
      cases hb':Nat.beq s' s with
      | false=>exact key _ hb' hd hh
      | true =>
       have:=Nat.eq_of_beq_eq_true hb';subst this
       obtain⟨k,h1,h2,_⟩:=hh;exact⟨k,hks k h1,h2,fun h=>absurd rfl h⟩
     | rptr s' q j y =>
      simp only [TV.stale]
      cases hb':Nat.beq s' s with
      | false=>exact key _ hb' hd hh
      | true=>trivial
     | dptr x=>exact key _ rfl rfl hh
     | bdp s' x =>
      simp only [TV.stale]
      cases hb':Nat.beq s' s with
      | false=>exact key _ hb' hd hh
      | true=>trivial
     | bor s' x =>
      simp only [TV.stale]
      cases hb':Nat.beq s' s with
      | false=>exact key _ hb' hd hh
      | true=>trivial
     | clo f caps=>exact hh
 ·simp only [FM.get,kill_eq]
  rw [not_beq (show s≠n by omega),cond_false,not_beq (show t0≠n by omega),cond_false,hR.out n hn];rfl
theorem RelL.takeBox{S:Sys}{N:Nat}{σ:St}{w0:World}{L0:Nat→Lab}{a:Act}{w:World}{L:Nat→Lab}(hR:RelL S w0 L0 N σ a w L){s i d:Nat}{y:AV}{xs:List AV}(hs:FM.get σ s=.av (.pt true xs))(hd:FM.get σ d=.rref s i y)(hy:y≠.dead)(hsd:s≠d)(hi:i<xs.length) :
  RelL S w0 L0 N ((σ.upd false s (.av (.pt true (xs.set i .dead)))).put d (.av y)) a w (mvl [s,i] d L):=by
 have hsN:=own_lt hR hs (by simp)
 have hdN:=own_lt hR hd (by simp)
 have hks:∀ b,L b=.my [s]→mvl [s,i] d L b=.my [s]:=fun b hb=>mvl_keep hb hsd (by simp [strip])
 refine⟨hR.defers,hR.size,hR.keep,hR.lok.mvl _ _,fun n hn=>?_,fun n hn=>?_,hR.fix,hR.glob⟩
 ·simp only [FM.get,kill_eq]
  by_cases hnd:d=n
  ·subst hnd
   rw [Nat.beq_refl,cond_true]
   have:=hR.hold d hdN
   rw [hd] at this
   obtain⟨b,h1,h2,h3⟩:=this
   refine Rep.frame (Nat.le_refl _) rfl rfl rfl (fun b h1 _=>⟨mvl_sh h1,rfl⟩) (h3 hy) _ fun p hp=>?_
   cases hp
   exact⟨[d],rfl,fun b q hb=>⟨mvl_to hb,rfl⟩⟩
  ·rw [not_beq hnd,cond_false]
   by_cases hns:s=n
   ·subst hns
    rw [Nat.beq_refl,cond_true]
    simp only [TV.dep,cond_false]
    have hh:=hR.hold s hn
    rw [hs] at hh
    simp only [Hold] at hh ⊢
    generalize a.tmps.getD s undef=sv at hh
    cases hh with
    | @ptO p cs b arr e u hL hb hsz hcl hr =>
     refine .ptO u (hks b hL) hb (by rw [List.length_set];exact hsz) (fun o ho=>by rw [List.length_set] at ho;exact hcl o ho) (fun o z hz=>?_)
     rw [List.getElem?_set] at hz
     by_cases ho:i=o
     ·subst ho
      rw [if_pos rfl,if_pos hi] at hz
      cases hz;exact .dead
     ·rw [if_neg ho] at hz
      refine Rep.frame (Nat.le_refl _) rfl rfl rfl (fun k h1 _=>⟨mvl_sh h1,rfl⟩) (hr o z hz) _ fun p hp=>?_
      cases hp
      refine⟨_,rfl,fun k q hk=>⟨?_,rfl⟩⟩
      exact mvl_keep (t:=s) (q:=o::q) hk hsd (by simp [strip,not_beq ho,Nat.beq_refl])
   ·rw [not_beq hns,cond_false]
    have hh:=hR.hold n hn
    have key:∀ tv:TV,tv.dep s=false→tv.dep d=false→Hold L w a.tmps n tv (a.tmps.getD n undef)→Hold (mvl [s,i] d L) w a.tmps n tv (a.tmps.getD n undef):=fun tv hds hdt hh =>
     Hold.relab (good:=fun m=>m≠s∧m≠d) (Nat.le_refl _) rfl rfl rfl (fun k h1 _=>⟨mvl_sh h1,rfl⟩) (fun k m q h1 h2=>⟨mvl_keep h1 h2.2 (by simp only [strip,not_beq (fun e=>h2.1 e.symm:s≠m),cond_false]),rfl⟩)
      (fun _ _=>rfl) ⟨fun e=>hns e.symm,fun e=>hnd e.symm⟩ (fun m hm=>⟨fun e=>(by subst e;rw [hds] at hm;cases hm),fun e=>(by subst e;rw [hdt] at hm;cases hm)⟩) hh
    generalize FM.get σ n=tv at hh
    cases tv with
    | none=>trivial
    | av x=>exact key _ rfl rfl hh
    | ref s' =>
     simp only [TV.stale,TV.dep]
     cases Nat.beq s' d<;>first|exact hh|trivial
    | rref s' q y =>
     simp only [TV.stale]
     cases hb':Nat.beq s' s with
     | true=>trivial
     | false =>
      simp only [cond_false,TV.dep]
      cases hd':Nat.beq s' d with
      | true=>trivial
      | false=>exact key _ hb' hd' hh
    | ptr s' q c y =>
     simp only [TV.stale]
     cases hb':Nat.beq s' s with
     | true =>
      have:=Nat.eq_of_beq_eq_true hb';subst this
      simp only [cond_true,TV.dep,not_beq hsd,cond_false]
      obtain⟨k,h1,h2,_⟩:=hh;exact⟨k,hks k h1,h2,fun h=>absurd rfl h⟩
     | false =>
      simp only [cond_false,TV.dep]
      cases hd':Nat.beq s' d with
      | true=>trivial
      | false=>exact key _ hb' hd' hh
    | fpt s' o y =>
     simp only [TV.stale]
     cases hb':Nat.beq s' s with
     | true =>
      have:=Nat.eq_of_beq_eq_true hb';subst this
      simp only [cond_true,TV.dep,not_beq hsd,cond_false]
      obtain⟨k,h1,h2,_⟩:=hh;exact⟨k,hks k h1,h2,fun h=>absurd rfl h⟩
     | false =>
      simp only [cond_false,TV.dep]
      cases hd':Nat.beq s' d with
      | true=>trivial
      | false=>exact key _ hb' hd' hh
    | rptr s' q j y =>
     simp only [TV.stale]
     cases hb':Nat.beq s' s with
     | true=>trivial
     | false =>
      simp only [cond_false,TV.dep]
      cases hd':Nat.beq s' d with
      | true=>trivial
      | false=>exact key _ hb' hd' hh
    | dptr x=>exact key _ rfl rfl hh
    | bdp s' x =>
     simp only [TV.stale]
     cases hb':Nat.beq s' s with
     | true=>trivial
     | false =>
      simp only [cond_false,TV.dep]
      cases hd':Nat.beq s' d with
      | true=>trivial
      | false=>exact key _ hb' hd' hh
    | bor s' x =>
     simp only [TV.stale]
     cases hb':Nat.beq s' s with
     | true=>trivial
     | false =>
      simp only [cond_false,TV.dep]
      cases hd':Nat.beq s' d with
      | true=>trivial
      | false=>exact key _ hb' hd' hh
    | clo f caps =>
     simp only [TV.stale,TV.dep]
     cases caps.any fun s=>Nat.beq s d<;>first|exact hh|trivial
 ·simp only [FM.get,kill_eq]
  rw [not_beq (show d≠n by omega),cond_false,not_beq (show s≠n by omega),cond_false,hR.out n hn];rfl
end FM
