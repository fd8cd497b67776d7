/- Piles: right ones; who wins; a move. -/
import Derived.Test.YtkkcnppgcnmikaaGreatDoorAdg
namespace Go.Proofs.YtkkcnppgcnmikaaGreatDoor
open Go FM
set_option maxRecDepth 10000
set_option maxHeartbeats 1600000
set_option linter.all false
def bad40(x:Int):Bool:=decide (x<0∨40<x)
def pileE(l:List Int):Int:=if 6<l.length then 2 else if l.any bad40=true then 1 else 0
theorem anyP_take{α:Type}(p:α→Bool)(l:List α)(k:Nat)(h:k<l.length):(l.take (k+1)).any p=((l.take k).any p||p l[k]):=by
 rw [List.take_succ_eq_append_getElem h,List.any_append];simp
theorem anyP_get{α:Type}{p:α→Bool}{l:List α}{k:Nat}(h:k<l.length)(hp:p l[k]=true):l.any p=true:=List.any_eq_true.2 ⟨l[k],List.getElem_mem h,hp⟩
theorem pilesCheck_spec(l:List Int)(hl:l.length≤9223372036854775807):FnSpec Sy.P 197 [.sl false 1 ((l).map .int)] [.sl false 1 ((l).map .int)] (.int (pileE l)):=by
 refine enT Tryz.func197 Tryz.ntmps197 fun v0=>?_
 by_cases h1:6<l.length
 ·rw [show pileE l=2 from if_pos h1]
  repeat' first|refine w9x ?_|(refine w9c ?_ ?_<;>intro _<;>try exact w9o)|fail
  exact .mk rfl rfl rfl
 ·repeat' first|refine w9x ?_|(refine w9c ?_ ?_<;>intro _<;>try exact w9o)|fail
  refine CW.loop (fun k:Nat=>[(8,.av (.sl false 1 ((l).map .int))),(9,.av (.int (l.length))),(10,.av (.int (k)))]) (fun k=>k≤l.length∧(l.take k).any bad40=false) (fun k=>l.length-k) (0) ?_ (w9a) ?_
  ·exact⟨Nat.zero_le _,rfl⟩
  intro k ⟨hk,hp⟩
  by_cases hlt:k<l.length
  ·have hx:l[k]?=some l[k]:=List.getElem?_eq_getElem hlt
   by_cases hb:l[k]<0∨40<l[k]
   ·have hb1:bad40 l[k]=true:=by unfold bad40;exact decide_eq_true hb
    have hb2:=anyP_get hlt hb1
    rw [show pileE l=1 by unfold pileE;rw [if_neg h1,if_pos hb2]]
    repeat' first|refine w9x ?_|(refine w9c ?_ ?_<;>intro _<;>try exact w9o)|fail
    all_goals exact .mk rfl rfl rfl
   ·have hb1:bad40 l[k]=false:=by unfold bad40;exact decide_eq_false hb
    repeat' first|refine w9x ?_|(refine w9c ?_ ?_<;>intro _<;>try exact w9o)|fail
    refine⟨k+1,?_,w9n,w9a⟩
    exact⟨by omega,by rw [anyP_take _ _ _ hlt,hp,hb1];rfl⟩
  ·obtain rfl:k=l.length:=by omega
   rw [List.take_length] at hp
   rw [show pileE l=0 by unfold pileE;rw [if_neg h1,hp];rfl]
   repeat' first|refine w9x ?_|(refine w9c ?_ ?_<;>intro _<;>try exact w9o)|fail
   exact .mk rfl rfl rfl
theorem pileErr1_spec(x:Int):FnSpec Sy.P 204 [.int x] [.int x] (.bool (bad40 x)):=by
 refine enT Tryz.func204 Tryz.ntmps204 fun v0=>?_
 by_cases h:x<0∨40<x
 ·rw [show bad40 x=true from decide_eq_true h]
  repeat' first|refine w9x ?_|(refine w9c ?_ ?_<;>intro _<;>try exact w9o)|fail
  all_goals first|exact .mk rfl rfl rfl|exact .mk rfl (congrArg AV.bool (by simp;omega)) rfl
 ·rw [show bad40 x=false from decide_eq_false h]
  repeat' first|refine w9x ?_|(refine w9c ?_ ?_<;>intro _<;>try exact w9o)|fail
  all_goals first|exact .mk rfl rfl rfl|exact .mk rfl (congrArg AV.bool (by simp;omega)) rfl
theorem pileErr1_arg{m:Nat}{v:Nat→Value}{N:Nat}{σ:St}:ArgOk (Sy.fixed m v) N σ (.func 204) true (fnI Sy.P (fun _=>True) bad40) :=
 .funI (pileErr1_spec 0).ok fun x _=>pileErr1_spec x
theorem pileErr_spec(l:List Int)(hl:l.length≤9223372036854775807):FnSpec Sy.P 156 [.sl false 1 ((l).map .int)] [.sl false 1 ((l).map .int)] (.int (pileE l)):=by
 refine enT Tryz.func156 Tryz.ntmps156 fun v0=>?_
 have hA:=containsI_spec l (fun _=>True) bad40 hl (fun _ _=>trivial)
 by_cases h1:6<l.length
 ·rw [show pileE l=2 from if_pos h1]
  repeat' first|refine w9x ?_|(refine w9c ?_ ?_<;>intro _<;>try exact w9o)|fail
  exact .mk rfl rfl rfl
 ·cases hb:l.any bad40 with
  | true =>
   rw [show pileE l=1 by unfold pileE;rw [if_neg h1,if_pos hb]]
   rw [hb] at hA
   repeat' first|refine w9x ?_|((with_reducible first|apply J.callP (hA)|apply J.callPQ (hA));rfl;rfl;(repeat' (first|exact ArgsOk.nil|exact pileErr1_arg|apply ArgsOk.cons|exact ArgOk.pl rfl rfl|exact ArgOk.br rfl AV.noConfusion (by first|rfl|exact sh_int|exact sh_rows|exact sh_rowsO|exact sh_box|exact sh_map (fun _=>rfl))));(first|rfl|exact gn0|exact gnI))|(refine w9c ?_ ?_<;>intro _<;>try exact w9o)|fail
   exact .mk rfl rfl rfl
  | false =>
   rw [show pileE l=0 by unfold pileE;rw [if_neg h1,hb];rfl]
   rw [hb] at hA
   repeat' first|refine w9x ?_|((with_reducible first|apply J.callP (hA)|apply J.callPQ (hA));rfl;rfl;(repeat' (first|exact ArgsOk.nil|exact pileErr1_arg|apply ArgsOk.cons|exact ArgOk.pl rfl rfl|exact ArgOk.br rfl AV.noConfusion (by first|rfl|exact sh_int|exact sh_rows|exact sh_rowsO|exact sh_box|exact sh_map (fun _=>rfl))));(first|rfl|exact gn0|exact gnI))|(refine w9c ?_ ?_<;>intro _<;>try exact w9o)|fail
   exact .mk rfl rfl rfl
def ni(m:List Nat):List Int:=m.map fun(x:Nat)=>(x:Int)
theorem ni_length{m:List Nat}:(ni m).length=m.length:=by simp [ni]
theorem ni_get{m:List Nat}{i x:Nat}(h:m[i]?=some x):(ni m)[i]?=some (x:Int):=by simp [ni,h]
theorem ni_set{m:List Nat}{i x:Nat}:(ni m).set i (x:Int)=ni (m.set i x):=by simp [ni,List.map_set]
theorem pileE_ok{l:List Int}(h:pileE l=0):∃ m:List Nat,l=ni m∧m.length≤6∧∀ x∈m,x≤40:=by
 unfold pileE at h
 by_cases h1:6<l.length
 ·rw [if_pos h1] at h;cases h
 rw [if_neg h1] at h
 by_cases h2:l.any bad40=true
 ·rw [if_pos h2] at h;cases h
 have h2:=List.any_eq_false.1 (Bool.eq_false_iff.2 h2)
 have h3:∀ x∈l,0≤x∧x≤40:=fun x hx=>by have:=h2 x hx;simp only [bad40,decide_eq_true_eq] at this;omega
 refine⟨l.map Int.toNat,?_,by simp;omega,fun x hx=>?_⟩
 ·unfold ni
  rw [List.map_map]
  conv=>lhs;rw [← List.map_id l]
  exact List.map_congr_left fun x hx=>by have:=h3 x hx;simp only [id,Function.comp];omega
 ·obtain⟨y,hy,rfl⟩:=List.mem_map.1 hx
  have:=h3 y hy;omega
def xr(m:List Nat):Nat:=m.foldl (· ^^^ ·) 0
theorem xr_take{m:List Nat}{k:Nat}(h:k<m.length):xr (m.take k) ^^^ m[k]=xr (m.take (k+1)):=by
 unfold xr;rw [List.take_succ_eq_append_getElem h,List.foldl_append];rfl
theorem xr_lt{m:List Nat}(h:∀ x∈m,x≤40):xr m<64:=by
 unfold xr
 suffices ∀ (l:List Nat) (a:Nat),(∀ x∈l,x≤40)→a<64→l.foldl (· ^^^ ·) a<64 from this m 0 h (by decide)
 intro l
 induction l with
 | nil=>exact fun a _ h=>h
 | cons x l ih =>
  intro a hl ha
  exact ih _ (fun y hy=>hl y (List.mem_cons_of_mem _ hy)) (Nat.xor_lt_two_pow (n:=6) ha (by have:=hl x (List.mem_cons_self ..);omega))
theorem take_le{m:List Nat}(h:∀ x∈m,x≤40){k:Nat}:∀ x∈m.take k,x≤40:=fun x hx=>h x (List.mem_of_mem_take hx)
def mvF(X:Nat):List Nat→Nat→Option (Nat×Nat)
 | [],_=>none
 | x::r,i=>if x ^^^ X<x then some (i,x-(x ^^^ X)) else mvF X r (i+1)
theorem mvF_drop{X k:Nat}{m:List Nat}(h:k<m.length):mvF X (m.drop k) k=if m[k] ^^^ X<m[k] then some (k,m[k]-(m[k] ^^^ X)) else mvF X (m.drop (k+1)) (k+1):=by
 rw [List.drop_eq_getElem_cons h];rfl
def mvR:Option (Nat×Nat)→AV
 | none=>.tup [.int 0,.int 0,.int 4]
 | some (i,k)=>.tup [.int i,.int k,.int 0]
theorem pilesMove_spec(m:List Nat)(h6:m.length≤6)(hm:∀ x∈m,x≤40)(hC:FnSpec Sy.P 197 [.sl false 1 ((ni m).map .int)] [.sl false 1 ((ni m).map .int)] (.int 0)):FnSpec Sy.P 152 [.sl false 1 ((ni m).map .int)] [.sl false 1 ((ni m).map .int)] (mvR (mvF (xr m) m 0)):=by
 refine enT Tryz.func152 Tryz.ntmps152 fun v0=>?_
 have hl:=ni_length (m:=m)
 repeat' first|refine w9x ?_|refine w9p (hC) ?_|(refine w9c ?_ ?_<;>intro _<;>try exact w9o)|fail
 refine CW.loop (fun k:Nat=>[(0,.av (.sl false 1 ((ni m).map .int))),(6,.av (.int (((xr (m.take k):Nat):Int)))),(16,.av (.sl false 1 ((ni m).map .int))),(17,.av (.int (m.length))),(18,.av (.int (k)))]) (fun k=>k≤m.length) (fun k=>m.length-k) (0) ?_ (w9a) ?_
 ·exact Nat.zero_le _
 intro k hk
 have hb:=xr_lt (take_le hm (k:=k))
 by_cases hlt:k<m.length
 ·have hx:=ni_get (List.getElem?_eq_getElem hlt)
  have hy:=hm _ (List.getElem_mem hlt)
  have e1:=xr_take hlt
  repeat' first|refine w9x ?_|(refine w9c ?_ ?_<;>intro _<;>try exact w9o)|fail
  refine⟨k+1,?_,w9n,by(repeat' (first|exact w9b|refine And.intro ?_ ?_|(rw [← e1];rfl)))⟩
  omega
 ·obtain rfl:k=m.length:=by omega
  rw [List.take_length] at hb ⊢
  generalize xr m=X at *
  repeat' first|refine w9x ?_|(refine w9c ?_ ?_<;>intro _<;>try exact w9o)|fail
  refine CW.loop (fun k:Nat=>[(6,.av (.int (((X:Nat):Int)))),(26,.av (.sl false 1 ((ni m).map .int))),(27,.av (.int (m.length))),(28,.av (.int (k)))]) (fun k=>k≤m.length∧mvF X m 0=mvF X (m.drop k) k) (fun k=>m.length-k) (0) ?_ (w9a) ?_
  ·exact⟨Nat.zero_le _,rfl⟩
  intro k ⟨hk,hp⟩
  by_cases hlt:k<m.length
  ·have hx:=ni_get (List.getElem?_eq_getElem hlt)
   have hy:=hm _ (List.getElem_mem hlt)
   rw [mvF_drop hlt] at hp
   generalize m[k]=x at *
   by_cases hc:x ^^^ X<x
   ·rw [if_pos hc] at hp
    rw [hp]
    repeat' first|refine w9x ?_|(refine w9c ?_ ?_<;>intro _<;>try exact w9o)|fail
    refine .mk rfl ?_ rfl
    simp only [mvR,pack]
    rw [show((x-(x ^^^ X):Nat):Int)=(x:Int)-((x ^^^ X:Nat):Int) by omega]
    rfl
   ·rw [if_neg hc] at hp
    repeat' first|refine w9x ?_|(refine w9c ?_ ?_<;>intro _<;>try exact w9o)|fail
    refine⟨k+1,?_,w9n,w9a⟩
    exact⟨by omega,hp⟩
  ·obtain rfl:k=m.length:=by omega
   rw [List.drop_length] at hp
   rw [hp]
   repeat' first|refine w9x ?_|(refine w9c ?_ ?_<;>intro _<;>try exact w9o)|fail
   exact .mk rfl rfl rfl
theorem pilesMoveErr_spec(l:List Int)(h:pileE l≠0)(hl:l.length≤9223372036854775807):FnSpec Sy.P 152 [.sl false 1 ((l).map .int)] [.sl false 1 ((l).map .int)] (.tup [.int 0,.int 0,.int (pileE l)]):=by
 refine enT Tryz.func152 Tryz.ntmps152 fun v0=>?_
 have hC:=pilesCheck_spec l hl
 repeat' first|refine w9x ?_|refine w9p (hC) ?_|(refine w9c ?_ ?_<;>intro _<;>try exact w9o)|fail
 exact .mk rfl rfl rfl
def bs(m:List Nat)(b k:Nat):Nat:=((m.take k).map fun x=>shr x b%2).sum
theorem bs_succ{m:List Nat}{b k:Nat}(h:k<m.length):bs m b (k+1)=bs m b k+shr m[k] b%2:=by
 unfold bs;rw [List.take_succ_eq_append_getElem h,List.map_append,List.sum_append];simp
theorem bs_le{m:List Nat}{b:Nat}:∀ k,bs m b k≤k
 | 0=>by simp [bs]
 | k+1=>by
  have:=bs_le (m:=m) (b:=b) k
  by_cases h:k<m.length
  ·rw [bs_succ h];omega
  ·have e:bs m b (k+1)=bs m b k:=by unfold bs;rw [List.take_of_length_le (by omega),List.take_of_length_le (by omega)]
   omega
theorem foldx_bit{b:Nat}:∀ (l:List Nat) (a:Nat),(l.foldl (· ^^^ ·) a).testBit b=(a.testBit b ^^ decide ((l.map fun x=>shr x b%2).sum%2=1))
 | [],a=>by simp
 | x::l,a=>by
  rw [List.foldl_cons,foldx_bit l,Nat.testBit_xor,List.map_cons,List.sum_cons]
  have hx:x.testBit b=decide (shr x b%2=1):=by unfold shr;rw [Nat.testBit_eq_decide_div_mod_eq]
  rw [hx]
  generalize (l.map fun x=>shr x b%2).sum=s
  generalize shr x b=y
  rcases Nat.mod_two_eq_zero_or_one y with h|h<;>rcases Nat.mod_two_eq_zero_or_one s with h'|h' <;>
   cases a.testBit b<;>simp [h,h',Nat.add_mod]
theorem xr_bit{m:List Nat}{b:Nat}:(xr m).testBit b=decide (bs m b m.length%2=1):=by
 unfold xr bs;rw [foldx_bit,List.take_length];simp
theorem xr_zero{m:List Nat}(h:xr m<64)(hb:∀ c,c<6→(xr m).testBit c=false):xr m=0:=by
 refine Nat.eq_of_testBit_eq fun i=>?_
 rw [Nat.zero_testBit]
 by_cases hi:i<6
 ·exact hb i hi
 ·exact Nat.testBit_lt_two_pow (Nat.lt_of_lt_of_le h (Nat.pow_le_pow_right (n:=2) (i:=6) (by decide) (by omega)))
theorem nim_spec(m:List Nat)(h6:m.length≤6)(hm:∀ x∈m,x≤40):FnSpec Sy.P 205 [.sl false 1 ((ni m).map .int)] [.sl false 1 ((ni m).map .int)] (.bool (decide (xr m=0))):=by
 refine enT Tryz.func205 Tryz.ntmps205 fun v0=>?_
 have hl:=ni_length (m:=m)
 have hX:=xr_lt hm
 repeat' first|refine w9x ?_|(refine w9c ?_ ?_<;>intro _<;>try exact w9o)|fail
 refine CW.loop (fun b:Nat=>[(0,.av (.sl false 1 ((ni m).map .int))),(7,.av (.int (b)))]) (fun b=>b≤6∧∀ c,c<b→(xr m).testBit c=false) (fun b=>6-b) (0) ?_ (w9a) ?_
 ·exact⟨Nat.zero_le _,fun c hc=>absurd hc (Nat.not_lt_zero _)⟩
 intro b ⟨hb,hp⟩
 by_cases hlt:b<6
 ·repeat' first|refine w9x ?_|(refine w9c ?_ ?_<;>intro _<;>try exact w9o)|fail
  refine CW.loop (fun k:Nat=>[(0,.av (.sl false 1 ((ni m).map .int))),(3,.av (.int (b))),(4,.av (.int (((bs m b k:Nat):Int)))),(7,.av (.int (b))),(10,.av (.sl false 1 ((ni m).map .int))),(11,.av (.int (m.length))),(12,.av (.int (k)))]) (fun k=>k≤m.length) (fun k=>m.length-k) (0) ?_ (w9a) ?_
  ·exact Nat.zero_le _
  intro k hk
  have hbk:=bs_le (m:=m) (b:=b) k
  by_cases hkl:k<m.length
  ·have hx:=ni_get (List.getElem?_eq_getElem hkl)
   have hy:=hm _ (List.getElem_mem hkl)
   have e1:=bs_succ (b:=b) hkl
   generalize m[k]=x at *
   have hs:=shr_le x b
   repeat' first|refine w9x ?_|(refine w9c ?_ ?_<;>intro _<;>try exact w9o)|fail
   refine⟨k+1,?_,w9n,w9a⟩
   omega
  ·obtain rfl:k=m.length:=by omega
   have hxb:=xr_bit (m:=m) (b:=b)
   by_cases hc:bs m b m.length%2=1
   ·rw [decide_eq_true hc] at hxb
    have hne:¬ xr m=0:=fun e=>by rw [e] at hxb;simp at hxb
    rw [decide_eq_false hne]
    repeat' first|refine w9x ?_|(refine w9c ?_ ?_<;>intro _<;>try exact w9o)|fail
    exact .mk rfl rfl rfl
   ·rw [decide_eq_false hc] at hxb
    repeat' first|refine w9x ?_|(refine w9c ?_ ?_<;>intro _<;>try exact w9o)|fail
    refine⟨b+1,?_,w9n,w9a⟩
    refine⟨by omega,fun c hc'=>?_⟩
    by_cases h:c=b
    ·subst h;exact hxb
    ·exact hp c (by omega)
 ·obtain rfl:b=6:=by omega
  rw [decide_eq_true (xr_zero hX hp)]
  repeat' first|refine w9x ?_|(refine w9c ?_ ?_<;>intro _<;>try exact w9o)|fail
  exact .mk rfl rfl rfl
theorem xr_set{m:List Nat}{i x y:Nat}(h:m[i]?=some x):xr (m.set i y)=xr m ^^^ x ^^^ y:=by
 unfold xr
 suffices ∀ (l:List Nat) (i a:Nat),l[i]?=some x→(l.set i y).foldl (· ^^^ ·) a=l.foldl (· ^^^ ·) a ^^^ x ^^^ y from this m i 0 h
 have push:∀ (l:List Nat) (a c:Nat),l.foldl (· ^^^ ·) (a ^^^ c)=l.foldl (· ^^^ ·) a ^^^ c:=fun l=>by
  induction l with
  | nil=>intro a c;rfl
  | cons z l ih =>
   intro a c
   simp only [List.foldl_cons]
   rw [← ih,Nat.xor_assoc,Nat.xor_comm c z,←Nat.xor_assoc]
 intro l
 induction l with
 | nil=>intro i a h;simp at h
 | cons z l ih =>
  intro i a h
  cases i with
  | zero =>
   simp only [List.getElem?_cons_zero,Option.some.injEq] at h
   subst h
   simp only [List.set_cons_zero,List.foldl_cons]
   rw [push l a z,push l a y,Nat.xor_assoc (List.foldl (· ^^^ ·) a l) z z,Nat.xor_self,Nat.xor_zero]
  | succ i =>
   simp only [List.getElem?_cons_succ] at h
   simp only [List.set_cons_succ,List.foldl_cons]
   exact ih i _ h
theorem xor_cancel{X x y:Nat}(h:X ^^^ x ^^^ y=0):y=x ^^^ X:=by
 have:=congrArg (· ^^^ y) h
 simp only [Nat.xor_assoc,Nat.xor_self,Nat.xor_zero,Nat.zero_xor] at this
 rw [Nat.xor_comm,this]
theorem xor_back{X x:Nat}:X ^^^ x ^^^ (x ^^^ X)=0:=by rw [Nat.xor_comm x X,Nat.xor_self]
def mvQ:Option (Nat×Nat)→AV
 | none=>.tup [.int 0,.int 0,.bool false]
 | some (i,k)=>.tup [.int i,.int k,.bool true]
theorem moveOf_spec(m:List Nat)(h6:m.length≤6)(hm:∀ x∈m,x≤40):FnSpec Sy.P 157 [.sl false 1 ((ni m).map .int)] [.sl false 1 ((ni m).map .int)] (mvQ (mvF (xr m) m 0)):=by
 refine enT Tryz.func157 Tryz.ntmps157 fun v0=>?_
 have hl:=ni_length (m:=m)
 have hN:=nim_spec m h6 hm
 have hCl:=clone_spec (ni m) (by omega)
 repeat' first|refine w9x ?_|(refine w9c ?_ ?_<;>intro _<;>try exact w9o)|fail
 refine CW.loop (fun i:Nat=>[(0,.av (.sl false 1 ((ni m).map .int))),(9,.av (.sl false 1 ((ni m).map .int))),(10,.av (.int (m.length))),(11,.av (.int (i)))]) (fun i=>i≤m.length∧mvF (xr m) m 0=mvF (xr m) (m.drop i) i) (fun i=>m.length-i) (0) ?_ (w9a) ?_
 ·exact⟨Nat.zero_le _,rfl⟩
 intro i ⟨hi,hp⟩
 by_cases hlt:i<m.length
 ·have hx0:m[i]?=some m[i]:=List.getElem?_eq_getElem hlt
  have hx:=ni_get hx0
  have hy:=hm _ (List.getElem_mem hlt)
  rw [mvF_drop hlt] at hp
  generalize m[i]=x at *
  repeat' first|refine w9x ?_|(refine w9c ?_ ?_<;>intro _<;>try exact w9o)|fail
  refine CW.loop (fun k:Nat=>[(0,.av (.sl false 1 ((ni m).map .int))),(5,.av (.int (i))),(6,.av (.int (x))),(7,.av (.int (k))),(9,.av (.sl false 1 ((ni m).map .int))),(10,.av (.int (m.length))),(11,.av (.int (i)))]) (fun k=>1≤k∧k≤x+1∧∀ j,1≤j→j<k→¬ (xr m≠0∧x-j=x ^^^ xr m)) (fun k=>x+1-k) (1) ?_ (w9a) ?_
  ·exact⟨Nat.le_refl _,by omega,fun j h1 h2=>absurd h2 (by omega)⟩
  intro k ⟨hk1,hk2,hq⟩
  by_cases hkl:k≤x
  ·have hN2:=nim_spec (m.set i (x-k)) (by simpa using h6) (fun z hz=>by
    rcases List.mem_or_eq_of_mem_set hz with h|h
    ·exact hm z h
    ·omega)
   have e1:(ni m).set i ((x:Int)-(k:Int))=ni (m.set i (x-k)):=by rw [show(x:Int)-(k:Int)=((x-k:Nat):Int) by omega];exact ni_set
   rw [← e1,xr_set hx0] at hN2
   by_cases hX:xr m=0
   ·rw [decide_eq_true hX] at hN
    repeat' first|refine w9x ?_|refine w9p (hCl) ?_|refine w9p (hN) ?_|(refine w9c ?_ ?_<;>intro _<;>try exact w9o)|fail
    refine⟨k+1,?_,w9n,w9a⟩
    refine⟨by omega,by omega,fun j h1 h2=>?_⟩
    exact fun h=>h.1 hX
   ·rw [decide_eq_false hX] at hN
    by_cases hc:x-k=x ^^^ xr m
    ·rw [hc,decide_eq_true xor_back] at hN2
     have hlt':x ^^^ xr m<x:=by omega
     rw [if_pos hlt'] at hp
     rw [hp,show x-(x ^^^ xr m)=k by omega]
     repeat' first|refine w9x ?_|refine w9p (hCl) ?_|refine w9p (hN) ?_|refine w9p (hN2) ?_|(refine w9c ?_ ?_<;>intro _<;>try exact w9o)|fail
     exact .mk rfl rfl rfl
    ·have hne:¬ (xr m ^^^ x ^^^ (x-k)=0):=fun h=>hc (xor_cancel h)
     rw [decide_eq_false hne] at hN2
     repeat' first|refine w9x ?_|refine w9p (hCl) ?_|refine w9p (hN) ?_|refine w9p (hN2) ?_|(refine w9c ?_ ?_<;>intro _<;>try exact w9o)|fail
     refine⟨k+1,?_,w9n,w9a⟩
     refine⟨by omega,by omega,fun j h1 h2=>?_⟩
     by_cases hjk:j=k
     ·subst hjk;exact fun h=>hc h.2
     ·exact hq j h1 (by omega)
  ·obtain rfl:k=x+1:=by omega
   have hno:¬ x ^^^ xr m<x:=fun h=>by
    refine hq (x-(x ^^^ xr m)) (by omega) (by omega) ⟨fun e=>?_,by omega⟩
    rw [e,Nat.xor_zero] at h;omega
   rw [if_neg hno] at hp
   repeat' first|refine w9x ?_|(refine w9c ?_ ?_<;>intro _<;>try exact w9o)|fail
   refine⟨i+1,?_,w9n,w9a⟩
   exact⟨by omega,hp⟩
 ·obtain rfl:i=m.length:=by omega
  rw [List.drop_length] at hp
  rw [hp]
  repeat' first|refine w9x ?_|(refine w9c ?_ ?_<;>intro _<;>try exact w9o)|fail
  exact .mk rfl rfl rfl
end Go.Proofs.YtkkcnppgcnmikaaGreatDoor
namespace Go.Proofs.YtkkcnppgcnmikaaGreatDoor
set_option linter.all false
abbrev Pt:=Int×Int×Int
theorem q_le{p1 b1 p2 b2 p3 b3:Int}(h1:0<b1)(h2:0<b2)(h3:0<b3)(a:p2*b1≤p1*b2)(b:p3*b2≤p2*b3):p3*b1≤p1*b3:=by
 have e1:p3*b2*b1≤p2*b3*b1:=Int.mul_le_mul_of_nonneg_right b (by omega)
 have e2:p2*b1*b3≤p1*b2*b3:=Int.mul_le_mul_of_nonneg_right a (by omega)
 rw [Int.mul_right_comm] at e1
 rw [Int.mul_right_comm p2,Int.mul_right_comm p1] at e2
 exact Int.le_of_mul_le_mul_right (Int.le_trans e1 e2) h2
theorem q_lt1{p1 b1 p2 b2 p3 b3:Int}(h1:0<b1)(h2:0<b2)(h3:0<b3)(a:p2*b1<p1*b2)(b:p3*b2≤p2*b3):p3*b1<p1*b3:=by
 have e1:p3*b2*b1≤p2*b3*b1:=Int.mul_le_mul_of_nonneg_right b (by omega)
 have e2:p2*b1*b3<p1*b2*b3:=Int.mul_lt_mul_of_pos_right a h3
 rw [Int.mul_right_comm] at e1
 rw [Int.mul_right_comm p2,Int.mul_right_comm p1] at e2
 exact Int.lt_of_mul_lt_mul_right (Int.lt_of_le_of_lt e1 e2) (by omega)
theorem q_lt2{p1 b1 p2 b2 p3 b3:Int}(h1:0<b1)(h2:0<b2)(h3:0<b3)(a:p2*b1≤p1*b2)(b:p3*b2<p2*b3):p3*b1<p1*b3:=by
 have e1:p3*b2*b1<p2*b3*b1:=Int.mul_lt_mul_of_pos_right b h1
 have e2:p2*b1*b3≤p1*b2*b3:=Int.mul_le_mul_of_nonneg_right a (by omega)
 rw [Int.mul_right_comm] at e1
 rw [Int.mul_right_comm p2,Int.mul_right_comm p1] at e2
 exact Int.lt_of_mul_lt_mul_right (Int.lt_of_lt_of_le e1 e2) (by omega)
abbrev kb(x y:Pt):Prop:=y.2.1*x.2.2<x.2.1*y.2.2
abbrev lx(x y:Pt):Prop:=x.1<y.1∨(x.1=y.1∧x.2.2<y.2.2)
def tl(x y:Pt):Prop:=kb x y∨(y.2.1*x.2.2=x.2.1*y.2.2∧lx x y)
instance (x y : Pt) : Decidable (tl x y) := by unfold tl; infer_instance
def Gd(x:Pt):Prop:=(0≤x.2.1∧x.2.1≤1000000000)∧1≤x.2.2∧x.2.2≤1000
theorem tl_asymm{x y:Pt}(a:tl x y)(b:tl y x):False:=by unfold tl kb lx at *;omega
theorem tl_trans{x y z:Pt}(hx:Gd x)(hy:Gd y)(hz:Gd z)(a:tl x y)(b:tl y z):tl x z:=by
 unfold tl kb lx Gd at *
 have h1:0<x.2.2:=by omega
 have h2:0<y.2.2:=by omega
 have h3:0<z.2.2:=by omega
 rcases a with a|⟨a,a'⟩
 ·have:=q_lt1 h1 h2 h3 a (show z.2.1*y.2.2≤y.2.1*z.2.2 by omega)
  omega
 ·rcases b with b|⟨b,b'⟩
  ·have:=q_lt2 h1 h2 h3 (show y.2.1*x.2.2≤x.2.1*y.2.2 by omega) b
   omega
  ·have e1:=q_le h1 h2 h3 (show y.2.1*x.2.2≤x.2.1*y.2.2 by omega) (show z.2.1*y.2.2≤y.2.1*z.2.2 by omega)
   have e2:=q_le h3 h2 h1 (show y.2.1*z.2.2≤z.2.1*y.2.2 by omega) (show x.2.1*y.2.2≤y.2.1*x.2.2 by omega)
   omega
theorem tl_total{x y:Pt}(hx:Gd x)(hy:Gd y)(h:x≠y):tl x y∨tl y x:=by
 unfold tl kb lx
 by_cases c:y.2.1*x.2.2=x.2.1*y.2.2
 ·by_cases c1:x.1=y.1
  ·by_cases c2:x.2.2=y.2.2
   ·exfalso
    obtain⟨a,p,b⟩:=x
    obtain⟨a',p',b'⟩:=y
    unfold Gd at hx hy
    dsimp only at *
    subst c1;subst c2
    have:=Int.eq_of_mul_eq_mul_right (show b≠0 by omega) c
    subst this
    exact h rfl
   ·omega
  ·omega
 ·omega
theorem kb_tl{x y:Pt}(h:lx x y):kb y x↔tl y x:=by unfold tl kb lx at *;omega
def insP(x:Pt):List Pt→List Pt
 | []=>[x]
 | y::l=>if tl x y then x::y::l else y::insP x l
def srtP:List Pt→List Pt
 | []=>[]
 | x::l=>insP x (srtP l)
theorem insP_perm(x:Pt):∀ l,(insP x l).Perm (x::l)
 | []=>.refl _
 | y::l=>by
  unfold insP
  split
  ·exact .refl _
  ·exact((insP_perm x l).cons y).trans (.swap ..)
theorem srt_perm:∀ l,(srtP l).Perm l
 | []=>.refl _
 | x::l=>(insP_perm x (srtP l)).trans ((srt_perm l).cons x)
theorem srt_len(l:List Pt):(srtP l).length=l.length:=(srt_perm l).length_eq
theorem insP_sorted{x:Pt}(hx:Gd x):∀ {l:List Pt},l.Pairwise tl→(∀ y∈l,Gd y)→x ∉ l→(insP x l).Pairwise tl
 | [],_,_,_=>by simp [insP]
 | y::l,h,hg,hn=>by
  rw [List.pairwise_cons] at h
  unfold insP
  have hgy:=hg y (List.mem_cons_self ..)
  split
  ·rename_i c
   refine .cons (fun z hz=>?_) (.cons h.1 h.2)
   rcases List.mem_cons.1 hz with rfl|hz
   ·exact c
   ·exact tl_trans hx hgy (hg z (List.mem_cons_of_mem _ hz)) c (h.1 z hz)
  ·rename_i c
   have c':tl y x:=(tl_total hx hgy (fun e=>hn (e▸List.mem_cons_self ..))).resolve_left c
   refine .cons (fun z hz=>?_) (insP_sorted hx h.2 (fun z hz=>hg z (List.mem_cons_of_mem _ hz)) fun hz=>hn (List.mem_cons_of_mem _ hz))
   rcases List.mem_cons.1 ((insP_perm x l).mem_iff.1 hz) with rfl|hz
   ·exact c'
   ·exact h.1 z hz
structure OkP(l:List Pt):Prop where
 g:∀ x∈l,Gd x
 nd:l.Nodup
theorem OkP.sub{l r:List Pt}(h:OkP l)(hs:r.Sublist l):OkP r:=⟨fun x hx=>h.g x (hs.mem hx),h.nd.sublist hs⟩
theorem OkP.perm{l r:List Pt}(h:OkP l)(hp:r.Perm l):OkP r:=⟨fun x hx=>h.g x (hp.mem_iff.1 hx),hp.nodup_iff.2 h.nd⟩
theorem srt_sorted:∀ {l:List Pt},OkP l→(srtP l).Pairwise tl
 | [],_=>by simp [srtP]
 | x::l,h=>by
  have hn:=List.nodup_cons.1 h.nd
  exact insP_sorted (h.g x (List.mem_cons_self ..)) (srt_sorted ⟨fun y hy=>h.g y (List.mem_cons_of_mem _ hy),hn.2⟩) (fun y hy=>h.g y (List.mem_cons_of_mem _ ((srt_perm l).mem_iff.1 hy))) fun hx=>hn.1 ((srt_perm l).mem_iff.1 hx)
theorem sorted_eq:∀ {r s:List Pt},r.Perm s→r.Pairwise tl→s.Pairwise tl→r=s
 | [],s,hp,_,_=>hp.nil_eq
 | x::r,[],hp,_,_=>absurd hp.length_eq (by simp)
 | x::r,y::s,hp,hr,hs=>by
  have hr':=List.pairwise_cons.1 hr
  have hs':=List.pairwise_cons.1 hs
  have hxy:x=y:=by
   rcases List.mem_cons.1 (hp.mem_iff.1 (List.mem_cons_self ..)) with e|e
   ·exact e
   ·rcases List.mem_cons.1 (hp.mem_iff.2 (List.mem_cons_self (a:=y) (l:=s))) with e'|e'
    ·exact e'.symm
    ·exact(tl_asymm (hr'.1 y e') (hs'.1 x e)).elim
  subst hxy
  rw [sorted_eq ((List.perm_cons x).1 hp) hr'.2 hs'.2]
theorem srt_of{r l:List Pt}(hl:OkP l)(hp:r.Perm l)(hr:r.Pairwise tl):srtP l=r:=sorted_eq ((srt_perm l).trans hp.symm) (srt_sorted hl) hr
theorem srt_congr{r l:List Pt}(hl:OkP l)(hp:r.Perm l):srtP l=srtP r:=srt_of hl ((srt_perm r).trans hp) (srt_sorted (hl.perm hp))
theorem srt_self{l:List Pt}(hl:OkP l)(hr:l.Pairwise tl):srtP l=l:=srt_of hl (.refl _) hr
theorem srt_join{X Y:List Pt}(h:OkP (X++Y))(hx:∀ x∈X,∀ y∈Y,tl x y):srtP (X++Y)=srtP X++srtP Y:=by
 refine srt_of h ((srt_perm X).append (srt_perm Y)) (List.pairwise_append.2 ⟨srt_sorted (h.sub (List.sublist_append_left ..)),srt_sorted (h.sub (List.sublist_append_right ..)),fun x hx' y hy'=>?_⟩)
 exact hx x ((srt_perm X).mem_iff.1 hx') y ((srt_perm Y).mem_iff.1 hy')
theorem srt_put{A B:List Pt}{x:Pt}{l:List Pt}(h:OkP (l++[x]))(hs:srtP l=A++B)(h1:∀ y∈A,tl y x)(h2:∀ y∈B,tl x y):srtP (l++[x])=A++x::B:=by
 have hl:OkP l:=h.sub (List.sublist_append_left ..)
 have hp:=srt_perm l
 have hq:=srt_sorted hl
 rw [hs] at hp hq
 have hq:=List.pairwise_append.1 hq
 refine srt_of h ?_ (List.pairwise_append.2 ⟨hq.1,.cons h2 hq.2.1,fun y hy z hz=>?_⟩)
 ·exact List.perm_middle.trans ((hp.cons x).trans (List.perm_append_singleton x l).symm)
 ·rcases List.mem_cons.1 hz with rfl|hz
  ·exact h1 y hy
  ·exact hq.2.2 y hy z hz
theorem last_all{A:List Pt}{x:Pt}(hA:A.Pairwise tl)(hg:∀ y∈A,Gd y)(hx:Gd x)(h:∀ (hne:A≠[]),tl (A.getLast hne) x):∀ y∈A,tl y x:=by
 intro y hy
 have hne:A≠[]:=List.ne_nil_of_mem hy
 have hl:=h hne
 obtain⟨i,hi,rfl⟩:=List.getElem_of_mem hy
 by_cases e:i=A.length-1
 ·subst e;rw [List.getLast_eq_getElem] at hl;exact hl
 ·rw [List.getLast_eq_getElem] at hl
  exact tl_trans (hg _ hy) (hg _ (List.getElem_mem _)) hx (List.pairwise_iff_getElem.1 hA i (A.length-1) hi (by omega) (by omega)) hl
theorem cross_all{A D:List Pt}(hA:A.Pairwise tl)(hD:D.Pairwise tl)(gA:∀ y∈A,Gd y)(gD:∀ y∈D,Gd y)(h:∀ (h1:A≠[]) (h2:D≠[]),tl (A.getLast h1) (D.head h2)):∀ x∈A,∀ y∈D,tl x y:=by
 intro x hx y hy
 cases D with
 | nil=>cases hy
 | cons d D =>
  have hd:=last_all hA gA (gD d (List.mem_cons_self ..)) (fun hne=>h hne (by simp)) x hx
  rcases List.mem_cons.1 hy with rfl|hy'
  ·exact hd
  ·exact tl_trans (gA x hx) (gD d (List.mem_cons_self ..)) (gD y hy) hd ((List.pairwise_cons.1 hD).1 y hy')
theorem srt_cross{A B C D:List Pt}(h:OkP ((A++B)++(C++D)))(hL:(A++B).Pairwise tl)(hR:(C++D).Pairwise tl)(h1:∀ (h1:A≠[]) (h2:D≠[]),tl (A.getLast h1) (D.head h2))(h2:∀ (h1:C≠[]) (h2:B≠[]),tl (C.getLast h1) (B.head h2)):srtP ((A++B)++(C++D))=srtP (A++C)++srtP (B++D):=by
 have hL':=List.pairwise_append.1 hL
 have hR':=List.pairwise_append.1 hR
 have g:∀ x,x∈A∨x∈B∨x∈C∨x∈D→Gd x:=fun x hx=>h.g x (by simp only [List.mem_append];rcases hx with a|a|a|a<;>simp [a])
 have hAD:=cross_all hL'.1 hR'.2.1 (fun y hy=>g y (.inl hy)) (fun y hy=>g y (.inr (.inr (.inr hy)))) h1
 have hCB:=cross_all hR'.1 hL'.2.1 (fun y hy=>g y (.inr (.inr (.inl hy)))) (fun y hy=>g y (.inr (.inl hy))) h2
 have hp:((A++C)++(B++D)).Perm ((A++B)++(C++D)):=by
  rw [List.append_assoc,List.append_assoc]
  refine List.Perm.append_left A ?_
  rw [← List.append_assoc,←List.append_assoc]
  exact List.Perm.append_right D List.perm_append_comm
 rw [srt_congr h hp]
 refine srt_join (h.perm hp) fun x hx y hy=>?_
 rcases List.mem_append.1 hx with hx|hx<;>rcases List.mem_append.1 hy with hy|hy
 ·exact hL'.2.2 x hx y hy
 ·exact hAD x hx y hy
 ·exact hCB x hx y hy
 ·exact hR'.2.2 x hx y hy
/-! ### blocks -/
def chs(k:Nat)(l:List Pt):List Pt:=if h:k=0∨l=[] then [] else srtP (l.take k)++chs k (l.drop k)
termination_by l.length
decreasing_by
 have h1:=List.length_pos_iff.2 (fun e=>h (.inr e):l≠[])
 rw [List.length_drop];omega
theorem chs_nil(k:Nat):chs k []=[]:=by rw [chs,dif_pos (.inr rfl)]
theorem chs_cons{k:Nat}{l:List Pt}(hk:0<k)(hl:l≠[]):chs k l=srtP (l.take k)++chs k (l.drop k):=by rw [chs,dif_neg (fun h=>h.elim (by omega) hl)]
theorem chs_le{k:Nat}{l:List Pt}(h:l.length≤k):chs k l=srtP l:=by
 by_cases e:l=[]
 ·subst e;rw [chs_nil];rfl
 ·have:=List.length_pos_iff.2 (by exact e)
  rw [chs_cons (by omega) e,List.take_of_length_le h,List.drop_of_length_le h,chs_nil,List.append_nil]
theorem chs_app{k:Nat}(hk:0<k){B:List Pt}:∀ (q:Nat) {A:List Pt},A.length=k*q→chs k (A++B)=chs k A++chs k B
 | 0,A,h=>by
  have:A=[]:=List.eq_nil_of_length_eq_zero (by simpa using h)
  subst this;rw [chs_nil];rfl
 | q+1,A,h=>by
  rw [Nat.mul_add,Nat.mul_one] at h
  have hA:A≠[]:=fun e=>by subst e;simp at h;omega
  rw [chs_cons hk hA,chs_cons hk (by simp [hA]),List.take_append_of_le_length (by omega),List.drop_append_of_le_length (by omega),chs_app hk q (A:=A.drop k) (by rw [List.length_drop];omega),List.append_assoc]
theorem chs_len{k:Nat}(hk:0<k):∀ (n:Nat) {l:List Pt},l.length≤n→(chs k l).length=l.length
 | 0,l,h=>by
  have:l=[]:=List.eq_nil_of_length_eq_zero (by omega)
  subst this;rw [chs_nil]
 | n+1,l,h=>by
  by_cases e:l=[]
  ·subst e;rw [chs_nil]
  ·have:=List.length_pos_iff.2 (by exact e)
   rw [chs_cons hk e,List.length_append,srt_len,chs_len hk n (l:=l.drop k) (by rw [List.length_drop];omega),List.length_take,List.length_drop]
   omega
theorem chs_length{k:Nat}(hk:0<k)(l:List Pt):(chs k l).length=l.length:=chs_len hk l.length (Nat.le_refl _)
theorem chs_two{k:Nat}(hk:0<k){X Y Z:List Pt}(hX:X.length=k)(hY:Y.length=k):chs k (X++(Y++Z))=srtP X++(srtP Y++chs k Z):=by
 rw [chs_app hk 1 (by omega),chs_app hk 1 (by omega),chs_le (by omega),chs_le (by omega)]
end Go.Proofs.YtkkcnppgcnmikaaGreatDoor
