/- Package power: what its functions compute. -/
import Derived.Test.YtkkcnppgcnmikaaGreatDoorAbg
import Derived.Test.YtkkcnppgcnmikaaGreatDoorAbd
namespace Go.Proofs.YtkkcnppgcnmikaaGreatDoor
open Go FM
set_option maxRecDepth 10000
set_option linter.all false
def pwErr(w:List Int)(q:Int):Int :=
 if w.length<1∨6<w.length then 2 else if w.any (fun x=>decide (x<0∨1000<x)) then 1 else if q<1∨w.sum<q then 3 else 0
theorem sum_take_succ(l:List Int)(k:Nat)(h:k<l.length):(l.take k).sum+l[k]=(l.take (k+1)).sum:=by
 rw [List.take_succ_eq_append_getElem h];simp only [List.sum_append,List.sum_cons,List.sum_nil];omega
theorem any_take_succ{α:Type}(p:α→Bool)(l:List α)(k:Nat)(h:k<l.length):(l.take (k+1)).any p=((l.take k).any p||p l[k]):=by
 rw [List.take_succ_eq_append_getElem h,List.any_append];simp
theorem any_of_get{α:Type}{p:α→Bool}{l:List α}{k:Nat}(h:k<l.length)(hp:p l[k]=true):l.any p=true:=List.any_eq_true.2 ⟨l[k],List.getElem_mem h,hp⟩
theorem sum_bound(l:List Int)(h:l.any (fun x=>decide (x<0∨1000<x))=false):0≤l.sum∧l.sum≤1000*l.length:=by
 induction l with
 | nil=>simp
 | cons x l ih =>
  simp only [List.any_cons,Bool.or_eq_false_iff,decide_eq_false_iff_not] at h
  have:=ih h.2
  simp only [List.sum_cons,List.length_cons]
  omega
theorem pwErr_large{w:List Int}{q:Int}(h:w.length<1∨6<w.length):pwErr w q=2:=if_pos h
theorem pwErr_arg{w:List Int}{q:Int}(h:¬ (w.length<1∨6<w.length)){k:Nat}(hk:k<w.length)(hx:w[k]<0∨1000<w[k]):pwErr w q=1:=by
 unfold pwErr;rw [if_neg h,if_pos (any_of_get hk (decide_eq_true hx))]
theorem pwErr_form{w:List Int}{q:Int}(h:¬ (w.length<1∨6<w.length))(ha:w.any (fun x=>decide (x<0∨1000<x))=false)(hq:q<1∨w.sum<q):pwErr w q=3:=by
 unfold pwErr;rw [if_neg h,if_neg (by rw [ha];simp),if_pos hq]
theorem pwErr_ok{w:List Int}{q:Int}(h:¬ (w.length<1∨6<w.length))(ha:w.any (fun x=>decide (x<0∨1000<x))=false)(hq:¬ (q<1∨w.sum<q)):pwErr w q=0:=by
 unfold pwErr;rw [if_neg h,if_neg (by rw [ha];simp),if_neg hq]
theorem pwCheck_spec(w:List Int)(q:Int):FnSpec Sy.P 202 [.sl false 1 ((w).map .int),.int q] [.sl false 1 ((w).map .int),.int q] (.int (pwErr w q)):=by
 refine enT Tryz.func202 Tryz.ntmps202 fun v0=>?_
 by_cases hl:w.length<1∨6<w.length
 ·rw [pwErr_large hl]
  repeat' first|refine w9x ?_|(refine w9c ?_ ?_<;>intro _<;>try exact w9o)|fail
  all_goals exact .mk rfl rfl rfl
 ·repeat' first|refine w9x ?_|(refine w9c ?_ ?_<;>intro _<;>try exact w9o)|fail
  refine CW.loop (fun k:Nat=>[(0,.av (.sl false 1 ((w).map .int))),(1,.av (.int (q))),(5,.av (.int ((w.take k).sum))),(16,.av (.sl false 1 ((w).map .int))),(17,.av (.int (w.length))),(18,.av (.int (k)))]) (fun k=>k≤w.length∧(w.take k).any (fun x=>decide (x<0∨1000<x))=false) (fun k=>w.length-k) (0) ?_ (w9a) ?_
  ·exact⟨Nat.zero_le _,rfl⟩
  intro k ⟨hk,hp⟩
  by_cases hlt:k<w.length
  ·have hx:w[k]?=some w[k]:=List.getElem?_eq_getElem hlt
   have h1:=sum_take_succ w k hlt
   have h2:=any_take_succ (fun x=>decide (x<0∨1000<x)) w k hlt
   have h3:=sum_bound _ hp
   have h4:(w.take k).length≤6:=by simp;omega
   by_cases hb:w[k]<0∨1000<w[k]
   ·rw [pwErr_arg hl hlt hb]
    repeat' first|refine w9x ?_|(refine w9c ?_ ?_<;>intro _<;>try exact w9o)|fail
    all_goals exact .mk rfl rfl rfl
   ·repeat' first|refine w9x ?_|(refine w9c ?_ ?_<;>intro _<;>try exact w9o)|fail
    refine⟨k+1,?_,w9n,w9a⟩
    exact⟨by omega,by rw [h2,hp];simpa using hb⟩
  ·obtain rfl:k=w.length:=by omega
   rw [List.take_length] at hp ⊢
   by_cases hq:q<1∨w.sum<q
   ·rw [pwErr_form hl hp hq]
    repeat' first|refine w9x ?_|(refine w9c ?_ ?_<;>intro _<;>try exact w9o)|fail
    all_goals exact .mk rfl rfl rfl
   ·rw [pwErr_ok hl hp hq]
    repeat' first|refine w9x ?_|(refine w9c ?_ ?_<;>intro _<;>try exact w9o)|fail
    all_goals exact .mk rfl rfl rfl
theorem powerErr_spec(w:List Int)(q:Int):FnSpec Sy.P 162 [.sl false 1 ((w).map .int),.int q] [.sl false 1 ((w).map .int),.int q] (.int (pwErr w q)):=by
 refine enT Tryz.func162 Tryz.ntmps162 fun v0=>?_
 by_cases hl:w.length<1∨6<w.length
 ·rw [pwErr_large hl]
  repeat' first|refine w9x ?_|(refine w9c ?_ ?_<;>intro _<;>try exact w9o)|fail
  all_goals exact .mk rfl rfl rfl
 ·repeat' first|refine w9x ?_|(refine w9c ?_ ?_<;>intro _<;>try exact w9o)|fail
  refine CW.loop (fun k:Nat=>[(0,.av (.sl false 1 ((w).map .int))),(1,.av (.int (q))),(5,.av (.int ((w.take k).sum))),(16,.av (.sl false 1 ((w).map .int))),(17,.av (.int (w.length))),(18,.av (.int (k)))]) (fun k=>k≤w.length∧(w.take k).any (fun x=>decide (x<0∨1000<x))=false) (fun k=>w.length-k) (0) ?_ (w9a) ?_
  ·exact⟨Nat.zero_le _,rfl⟩
  intro k ⟨hk,hp⟩
  by_cases hlt:k<w.length
  ·have hx:w[k]?=some w[k]:=List.getElem?_eq_getElem hlt
   have h1:=sum_take_succ w k hlt
   have h2:=any_take_succ (fun x=>decide (x<0∨1000<x)) w k hlt
   have h3:=sum_bound _ hp
   have h4:(w.take k).length≤6:=by simp;omega
   by_cases hb:w[k]<0∨1000<w[k]
   ·rw [pwErr_arg hl hlt hb]
    repeat' first|refine w9x ?_|(refine w9c ?_ ?_<;>intro _<;>try exact w9o)|fail
    all_goals exact .mk rfl rfl rfl
   ·repeat' first|refine w9x ?_|(refine w9c ?_ ?_<;>intro _<;>try exact w9o)|fail
    refine⟨k+1,?_,w9n,w9a⟩
    exact⟨by omega,by rw [h2,hp];simpa using hb⟩
  ·obtain rfl:k=w.length:=by omega
   rw [List.take_length] at hp ⊢
   by_cases hq:q<1∨w.sum<q
   ·rw [pwErr_form hl hp hq]
    repeat' first|refine w9x ?_|(refine w9c ?_ ?_<;>intro _<;>try exact w9o)|fail
    all_goals exact .mk rfl rfl rfl
   ·rw [pwErr_ok hl hp hq]
    repeat' first|refine w9x ?_|(refine w9c ?_ ?_<;>intro _<;>try exact w9o)|fail
    all_goals exact .mk rfl rfl rfl
def hv:List Int→Nat→Int
 | [],_=>0
 | x::r,s=>x*((s%2:Nat):Int)+hv r (s / 2)
theorem hv_take_succ:∀ (l:List Int) (k s:Nat) (h:k<l.length),hv (l.take (k+1)) s=hv (l.take k) s+l[k]*((shr s k%2:Nat):Int)
 | [],k,s,h=>by simp at h
 | x::r,0,s,_=>by simp [hv,shr]
 | x::r,k+1,s,h=>by
  have ih:=hv_take_succ r k (s / 2) (by simpa using h)
  simp only [List.take_succ_cons,hv,List.getElem_cons_succ]
  rw [ih]
  unfold shr
  rw [Nat.div_div_eq_div_mul,show 2*2 ^ k=2 ^ (k+1) by rw [Nat.pow_succ];omega]
  omega
def okW(w:List Int):Prop:=w.length≤6∧∀ x∈w,0≤x∧x≤1000
theorem okW.tail{x:Int}{w:List Int}(h:okW (x::w)):(0≤x∧x≤1000)∧okW w:=⟨h.2 x (List.mem_cons_self ..),by have:=h.1;simp at this;omega,fun y hy=>h.2 y (List.mem_cons_of_mem _ hy)⟩
theorem mul_bit(x:Int)(s:Nat):x*((s%2:Nat):Int)=if s%2=1 then x else 0:=by
 rcases Nat.mod_two_eq_zero_or_one s with h|h<;>simp [h]
theorem hv_bound:∀ (w:List Int) (s:Nat),(∀ x∈w,0≤x∧x≤1000)→0≤hv w s∧hv w s≤1000*w.length
 | [],s,_=>by simp [hv]
 | x::r,s,h=>by
  have ih:=hv_bound r (s / 2) fun y hy=>h y (List.mem_cons_of_mem _ hy)
  have hx:=h x (List.mem_cons_self ..)
  simp only [hv,mul_bit,List.length_cons]
  split<;>omega
theorem wins_spec(w:List Int)(q:Int)(s:Nat)(hw:okW w)(hs:s<64):FnSpec Sy.P 203 [.sl false 1 ((w).map .int),.int q,.int s] [.sl false 1 ((w).map .int),.int q,.int s] (.bool (decide (q≤hv w s))):=by
 refine enT Tryz.func203 Tryz.ntmps203 fun v0=>?_
 have hl:=hw.1
 repeat' first|refine w9x ?_|(refine w9c ?_ ?_<;>intro _<;>try exact w9o)|fail
 refine CW.loop (fun k:Nat=>[(0,.av (.sl false 1 ((w).map .int))),(1,.av (.int (q))),(2,.av (.int (s))),(7,.av (.int (hv (w.take k) s))),(10,.av (.sl false 1 ((w).map .int))),(11,.av (.int (w.length))),(12,.av (.int (k)))]) (fun k=>k≤w.length) (fun k=>w.length-k) (0) ?_ (w9a) ?_
 ·exact Nat.zero_le _
 intro k hk
 by_cases hlt:k<w.length
 ·have hx:w[k]?=some w[k]:=List.getElem?_eq_getElem hlt
  have h1:=hv_take_succ w k s hlt
  rw [mul_bit] at h1
  have h2:=hv_bound (w.take k) s fun x hx=>hw.2 x (List.mem_of_mem_take hx)
  have h3:(w.take k).length≤6:=by simp;omega
  have h4:=hw.2 _ (List.getElem_mem hlt)
  have h7:=shr_le s k
  by_cases hb:shr s k%2=1
  ·rw [if_pos hb] at h1
   repeat' first|refine w9x ?_|(refine w9c ?_ ?_<;>intro _<;>try exact w9o)|fail
   refine⟨k+1,?_,w9n,w9a⟩
   omega
  ·rw [if_neg hb] at h1
   repeat' first|refine w9x ?_|(refine w9c ?_ ?_<;>intro _<;>try exact w9o)|fail
   refine⟨k+1,?_,w9n,w9a⟩
   omega
 ·obtain rfl:k=w.length:=by omega
  rw [List.take_length]
  repeat' first|refine w9x ?_|(refine w9c ?_ ?_<;>intro _<;>try exact w9o)|fail
  exact .mk rfl rfl rfl
theorem heavy_spec:∀ (w:List Int) (s:Nat),okW w→s<64→FnSpec Sy.P 212 [.sl false 1 ((w).map .int),.int s] [.sl false 1 ((w).map .int),.int s] (.int (hv w s))
 | [],s,hw,hs=>by
  refine enT Tryz.func212 Tryz.ntmps212 fun v0=>?_
  repeat' first|refine w9x ?_|fail
  exact .mk rfl rfl rfl
 | x::r,s,hw,hs=>by
  have ih:=heavy_spec r (s / 2) hw.tail.2 (by omega)
  have hx:=hw.tail.1
  have h0:(x::r)[0]?=some x:=rfl
  have hm:=mul_bit x s
  have hm2:0≤x*((s%2:Nat):Int)∧x*((s%2:Nat):Int)≤1000:=by rw [hm];split<;>omega
  have hb:=hv_bound r (s / 2) hw.tail.2.2
  have hl:=hw.tail.2.1
  have hl2:(1:Int).toNat≤(x::r).length:=by simp
  have hne:¬ (((x::r).length:Nat):Int)=0:=by simp;omega
  refine enT Tryz.func212 Tryz.ntmps212 fun v0=>?_
  repeat' first|refine w9x ?_|refine w9p (ih) ?_|fail
  exact .mk rfl rfl rfl
def factP:Nat→Nat
 | 0=>1
 | n+1=>(n+1)*factP n
theorem factP_le:∀ n,n≤6→factP n≤720:=by decide
theorem pwErr_zero{w:List Int}{q:Int}(h:pwErr w q=0):okW w∧1≤w.length∧1≤q∧q≤w.sum:=by
 unfold pwErr at h
 split at h
 ·omega
 ·rename_i h1
  split at h
  ·omega
  ·rename_i h2
   split at h
   ·omega
   ·rename_i h3
    refine⟨⟨by omega,fun x hx=>?_⟩,by omega,by omega,by omega⟩
    rw [List.any_eq_true] at h2
    have:¬ (x<0∨1000<x):=fun hc=>h2 ⟨x,hx,by simpa using hc⟩
    omega
theorem pwErr_range(w:List Int)(q:Int):0≤pwErr w q∧pwErr w q≤3:=by
 unfold pwErr;split<;>(try split)<;>(try split)<;>omega
theorem pow_len{n:Nat}(h:n≤6):2 ^ n≤64:=by
 have:2 ^ n≤2 ^ 6:=Nat.pow_le_pow_right (by decide) h
 omega
abbrev off(s j:Nat):Nat:=s ^^^ (s &&& 2 ^ j)
theorem off_le(s j:Nat)(hs:s<64):off s j<64:=Nat.xor_lt_two_pow (n:=6) hs (Nat.lt_of_le_of_lt Nat.and_le_left hs)
def swing(w:List Int)(q:Int)(s j:Nat):Prop:=shr s j%2=1∧q≤hv w s∧¬ q≤hv w (off s j)
instance (w : List Int) (q : Int) (s j : Nat) : Decidable (swing w q s j) := by unfold swing; exact inferInstance
def gS(w:List Int)(q:Int)(s j:Nat):Int:=if swing w q s j then 1 else 0
theorem gS_pos{w:List Int}{q:Int}{s j:Nat}(h:swing w q s j):gS w q s j=1:=if_pos h
theorem gS_neg{w:List Int}{q:Int}{s j:Nat}(h:¬ swing w q s j):gS w q s j=0:=if_neg h
theorem gS_le(w:List Int)(q:Int)(s j:Nat):0≤gS w q s j∧gS w q s j≤1:=by unfold gS;split<;>omega
def swingsL(w:List Int)(q:Int):List Int:=accW (gS w q) w.length (2 ^ w.length) 0
theorem Swings_spec(w:List Int)(q:Int):FnSpec Sy.P 155 [.sl false 1 ((w).map .int),.int q] [.sl false 1 ((w).map .int),.int q] (.tup [if pwErr w q=0 then .sl true 1 ((swingsL w q).map .int) else .nil,.int (pwErr w q)]):=by
 refine enT Tryz.func155 Tryz.ntmps155 fun v0=>?_
 by_cases he:pwErr w q=0
 ·rw [if_pos he]
  obtain⟨hw,h1,h2,h3⟩:=pwErr_zero he
  have hl:=hw.1
  have hp:=pow_len hl
  have hlen:w.length≤62:=by omega
  repeat' first|refine w9x ?_|refine w9p (pwCheck_spec w q) ?_|(refine w9c ?_ ?_<;>intro _<;>try exact w9o)|fail
  refine CW.loop (fun s:Nat=>[(0,.av (.sl false 1 ((w).map .int))),(1,.av (.int (q))),(7,.av (.sl true 1 ((accW (gS w q) w.length s 0).map .int))),(21,.av (.int (((2 ^ w.length:Nat):Int)))),(22,.av (.int (s)))]) (fun s=>s≤2 ^ w.length) (fun s=>2 ^ w.length-s) (0) ?_ (by(repeat' (first|exact w9b|refine And.intro ?_ ?_|exact ints_congr accW_zero))) ?_
  ·exact Nat.zero_le _
  intro s hs
  by_cases hlt:s<2 ^ w.length
  ·repeat' first|refine w9x ?_|(refine w9c ?_ ?_<;>intro _<;>try exact w9o)|fail
   refine CW.loop (fun i:Nat=>[(0,.av (.sl false 1 ((w).map .int))),(1,.av (.int (q))),(7,.av (.sl true 1 ((accW (gS w q) w.length s i).map .int))),(8,.av (.int (s))),(21,.av (.int (((2 ^ w.length:Nat):Int)))),(22,.av (.int (s))),(26,.av (.int (w.length))),(27,.av (.int (i)))]) (fun i=>i≤w.length) (fun i=>w.length-i) (0) ?_ (w9a) ?_
   ·exact Nat.zero_le _
   intro i hi
   by_cases hil:i<w.length
   ·have hi62:i≤62:=by omega
    have hsl:=shr_le s i
    have hoff:=off_le s i (by omega)
    have hat:=accW_at (g:=gS w q) (s:=s) hil
    have hbd:=sum_range_bound (f:=fun s'=>gS w q s' i) (m:=1) s fun k _=>gS_le w q k i
    have hlen2:=accW_length (gS w q) w.length s i
    have hil2:i<(accW (gS w q) w.length s i).length:=by omega
    have hp2:2 ^ i≤64:=pow_len (by omega)
    have hp3:(0:Int)≤((2 ^ i:Nat):Int):=Int.natCast_nonneg _
    by_cases c1:shr s i%2=1
    ·by_cases c2:q≤hv w s
     ·by_cases c3:q≤hv w (off s i)
      ·have hk:=accW_skip (g:=gS w q) (s:=s) hil (gS_neg fun h=>h.2.2 c3)
       repeat' first|refine w9x ?_|refine w9p (wins_spec w q s hw (by omega)) ?_|refine w9p (wins_spec w q (off s i) hw hoff) ?_|(refine w9c ?_ ?_<;>intro _<;>try exact w9o)|fail
       refine⟨i+1,?_,w9n,w9a⟩
       omega
      ·have hk:=accW_succ (g:=gS w q) (s:=s) hil (v:=1) (gS_pos ⟨c1,c2,c3⟩).symm
       repeat' first|refine w9x ?_|refine w9p (wins_spec w q s hw (by omega)) ?_|refine w9p (wins_spec w q (off s i) hw hoff) ?_|(refine w9c ?_ ?_<;>intro _<;>try exact w9o)|fail
       refine⟨i+1,?_,w9n,w9a⟩
       omega
     ·have hk:=accW_skip (g:=gS w q) (s:=s) hil (gS_neg fun h=>c2 h.2.1)
      repeat' first|refine w9x ?_|refine w9p (wins_spec w q s hw (by omega)) ?_|refine w9p (wins_spec w q (off s i) hw hoff) ?_|(refine w9c ?_ ?_<;>intro _<;>try exact w9o)|fail
      refine⟨i+1,?_,w9n,w9a⟩
      omega
    ·have hk:=accW_skip (g:=gS w q) (s:=s) hil (gS_neg fun h=>c1 h.1)
     repeat' first|refine w9x ?_|refine w9p (wins_spec w q s hw (by omega)) ?_|refine w9p (wins_spec w q (off s i) hw hoff) ?_|(refine w9c ?_ ?_<;>intro _<;>try exact w9o)|fail
     refine⟨i+1,?_,w9n,w9a⟩
     omega
   ·obtain rfl:i=w.length:=by omega
    rw [accW_end]
    repeat' first|refine w9x ?_|(refine w9c ?_ ?_<;>intro _<;>try exact w9o)|fail
    refine⟨s+1,?_,w9n,w9a⟩
    omega
  ·obtain rfl:s=2 ^ w.length:=by omega
   repeat' first|refine w9x ?_|(refine w9c ?_ ?_<;>intro _<;>try exact w9o)|fail
   rw [he]
   exact .mk rfl rfl rfl
 ·rw [if_neg he]
  repeat' first|refine w9x ?_|refine w9p (pwCheck_spec w q) ?_|(refine w9c ?_ ?_<;>intro _<;>try exact w9o)|fail
  all_goals exact .mk rfl rfl rfl
def iotaP(n:Nat):List Int:=(List.range n).map fun(k:Nat)=>(k:Int)
theorem iotaP_succ(n:Nat):iotaP n++[(n:Int)]=iotaP (n+1):=by simp [iotaP,List.range_succ]
theorem iotaP_length(n:Nat):(iotaP n).length=n:=by simp [iotaP]
theorem SidesP_spec(n:Nat)(hn:n≤1000000):FnSpec Sy.P 214 [.int n] [.int n] (.sl true 1 ((iotaP n).map .int)):=by
 refine enT Tryz.func214 Tryz.ntmps214 fun v0=>?_
 repeat' first|refine w9x ?_|(refine w9c ?_ ?_<;>intro _<;>try exact w9o)|fail
 refine CW.own 3 1 rfl ?_
 refine CW.loop (fun k:Nat=>[(3,.av (.sl true 1 ((iotaP k).map .int))),(5,.av (.int (n))),(6,.av (.int (k)))]) (fun k=>k≤n) (fun k=>n-k) (0) ?_ (w9a) ?_
 ·exact Nat.zero_le _
 intro k hk
 have hlen:=iotaP_length k
 have hs:=iotaP_succ k
 by_cases hlt:k<n
 ·repeat' first|refine w9x ?_|(refine w9c ?_ ?_<;>intro _<;>try exact w9o)|fail
  refine⟨k+1,?_,w9n,w9a⟩
  omega
 ·obtain rfl:k=n:=by omega
  repeat' first|refine w9x ?_|(refine w9c ?_ ?_<;>intro _<;>try exact w9o)|fail
  exact .mk rfl rfl rfl
theorem Clone_spec(l:List Int)(hl:l.length≤1000000):FnSpec Sy.P 23 [.sl false 1 ((l).map .int)] [.sl false 1 ((l).map .int)] (.sl true 1 ((l).map .int)):=by
 refine enT Tryz.func23 Tryz.ntmps23 fun v0=>?_
 repeat' first|refine w9x ?_|(refine w9d ?_ ?_<;>intro _<;>try exact w9s)|(refine w9q ?_;intro bnil hbnil)|fail
 ·by_cases h:l=[]
  ·subst h
   exact .mkL rfl .nil rfl
  ·have:=hbnil (by simpa using h)
   simp_all
 ·exact .mk rfl rfl rfl
abbrev rowS(r:List Int):AV:=.sl false 1 (r.map .int)
def allOrders:Nat→List Int→List (List Int)
 | 0,_=>[[]]
 | n+1,l=>(List.range l.length).flatMap fun i=>(allOrders n (l.take i++l.drop (i+1))).map fun r=>l.getD i 0::r
def ordersTo(n:Nat)(l:List Int)(i:Nat):List (List Int):=(List.range i).flatMap fun i=>(allOrders n (l.take i++l.drop (i+1))).map fun r=>l.getD i 0::r
theorem length_flatMap_const{α β:Type}{f:α→List β}{m:Nat}:∀ {l:List α},(∀ x∈l,(f x).length=m)→(l.flatMap f).length=l.length*m
 | [],_=>by simp
 | x::l,h=>by
  rw [List.flatMap_cons,List.length_append,h x (List.mem_cons_self ..),length_flatMap_const fun y hy=>h y (List.mem_cons_of_mem _ hy),List.length_cons,Nat.add_mul]
  omega
theorem cutOut_length{l:List Int}{n i:Nat}(hl:l.length=n+1)(hi:i<l.length):(l.take i++l.drop (i+1)).length=n:=by
 rw [List.length_append,List.length_take,List.length_drop];omega
theorem allOrders_length:∀ (n:Nat) (l:List Int),l.length=n→(allOrders n l).length=factP n
 | 0,l,_=>rfl
 | n+1,l,hl=>by
  simp only [allOrders]
  rw [length_flatMap_const (m:=factP n) fun i hi=>by
   rw [List.length_map]
   exact allOrders_length n _ (cutOut_length hl (List.mem_range.1 hi))]
  rw [List.length_range,hl];rfl
theorem ordersTo_length(n:Nat)(l:List Int)(hl:l.length=n+1)(i:Nat)(hi:i≤l.length):(ordersTo n l i).length=i*factP n:=by
 unfold ordersTo
 rw [length_flatMap_const (m:=factP n) fun j hj=>by
  rw [List.length_map]
  exact allOrders_length n _ (cutOut_length hl (by have:=List.mem_range.1 hj;omega)),List.length_range]
theorem allOrders_row:∀ (n:Nat) (l:List Int),l.length=n→∀ r∈allOrders n l,r.length=n
 | 0,l,_,r,hr=>by simp [allOrders] at hr;subst hr;rfl
 | n+1,l,hl,r,hr=>by
  simp only [allOrders,List.mem_flatMap,List.mem_map,List.mem_range] at hr
  obtain⟨i,hi,r',hr',rfl⟩:=hr
  rw [List.length_cons,allOrders_row n _ (cutOut_length hl hi) r' hr']
theorem ordersTo_succ(n:Nat)(l:List Int)(i:Nat)(hi:i<l.length):ordersTo n l (i+1)=ordersTo n l i++(allOrders n (l.take i++l.drop (i+1))).map (fun r=>l[i]::r):=by
 unfold ordersTo
 rw [List.range_succ,List.flatMap_append]
 simp [hi]
theorem take_map_succ{α β:Type}(f:α→β)(l:List α)(j:Nat)(h:j<l.length)(pre:List β):(pre++(l.take j).map f)++[f l[j]]=pre++(l.take (j+1)).map f:=by
 rw [List.take_succ_eq_append_getElem h,List.map_append,List.append_assoc];rfl
theorem fact_mul_le:∀ i n,n≤5→i≤n+1→i*factP n≤720:=by
 intro i n hn hi
 have h1:i*factP n≤(n+1)*factP n:=Nat.mul_le_mul_right _ hi
 have h2:=factP_le (n+1) (by omega)
 have h3:factP (n+1)=(n+1)*factP n:=rfl
 omega
theorem AllOrders_spec:∀ (n:Nat) (l:List Int),l.length=n→n≤6→FnSpec Sy.P 213 [.sl false 1 ((l).map .int)] [.sl false 1 ((l).map .int)] (.sl true 1 ((allOrders n l).map rowS))
 | 0,l,hl,hn=>by
  obtain rfl:l=[]:=List.eq_nil_of_length_eq_zero hl
  refine enT Tryz.func213 Tryz.ntmps213 fun v0=>?_
  repeat' first|refine w9x ?_|(refine w9c ?_ ?_<;>intro _<;>try exact w9o)|fail
  refine .mkL rfl (.sl rfl ?_ ?_ ?_) rfl
  ·intro x hx;simp only [List.mem_singleton] at hx;subst hx;rfl
  ·intro x hx;simp only [allOrders,List.map_cons,List.map_nil,List.mem_singleton] at hx;subst hx;rfl
  ·intro i x y hx hy
   cases i with
   | zero =>
    simp only [allOrders,List.map_cons,List.map_nil,List.getElem?_cons_zero,Option.some.injEq] at hx hy
    subst hx;subst hy;exact .nil
   | succ i=>simp at hx
 | n+1,l,hl,hn=>by
  refine enT Tryz.func213 Tryz.ntmps213 fun v0=>?_
  have hne:¬ ((l.length:Nat):Int)=0:=by omega
  repeat' first|refine w9x ?_|(refine w9c ?_ ?_<;>intro _<;>try exact w9o)|fail
  refine CW.own 3 1 rfl ?_
  refine CW.loop (fun i:Nat=>[(0,.av (.sl false 1 ((l).map .int))),(3,.av (.sl true 1 ((ordersTo n l i).map rowS))),(13,.av (.sl false 1 ((l).map .int))),(14,.av (.int (l.length))),(15,.av (.int (i)))]) (fun i=>i≤l.length) (fun i=>l.length-i) (0) ?_ (w9a) ?_
  ·exact Nat.zero_le _
  intro i hi
  by_cases hlt:i<l.length
  ·have hx:l[i]?=some l[i]:=List.getElem?_eq_getElem hlt
   have h1:(i:Int).toNat≤l.length:=by omega
   have h2:((i:Int)+1).toNat≤l.length:=by omega
   have hcl:=Clone_spec (l.take (i:Int).toNat) (by simp;omega)
   repeat' first|refine w9z ?_|(refine w9c ?_ ?_<;>intro _<;>try exact w9o)|fail
   refine CW.cut [(6,.av (.sl true 1 ((l.take i++l.drop (i+1)).map .int))),(0,.av (.sl false 1 ((l).map .int))),(3,.av (.sl true 1 ((ordersTo n l i).map rowS))),(5,.av (.int (l[i]))),(13,.av (.sl false 1 ((l).map .int))),(14,.av (.int (l.length))),(15,.av (.int (i)))] ?_ ?_
   ·refine CW.reg0 10 rfl [false,false,false,false,false,false,false,false,false,false] (by kernel_rfl) rfl ?_
    refine w9jt 0 ?_
    refine w9jt 1 ?_
    refine w9jt 4 ?_
    refine w9jt 5 ?_
    refine w9j2 2 6 ?_ ?_
    ·repeat' first|refine w9x ?_|refine w9p (hcl) ?_|(refine w9c ?_ ?_<;>intro _<;>try exact w9o)|fail
     refine w9j2 3 6 ?_ ?_
     ·repeat' first|refine w9x ?_|refine w9p (hcl) ?_|(refine w9c ?_ ?_<;>intro _<;>try exact w9o)|fail
      refine w9j1 6 ?_
      repeat' first|refine w9x ?_|refine w9p (hcl) ?_|(refine w9c ?_ ?_<;>intro _<;>try exact w9o)|fail
      refine w9j1 7 ?_
      repeat' first|refine w9x ?_|refine w9p (hcl) ?_|(refine w9c ?_ ?_<;>intro _<;>try exact w9o)|fail
      refine w9j1 8 ?_
      repeat' first|refine w9x ?_|refine w9p (hcl) ?_|(refine w9c ?_ ?_<;>intro _<;>try exact w9o)|fail
      refine w9jt 9 ?_
      refine JA.done (by kernel_rfl) ?_
      exact⟨rfl,w9a⟩
     ·repeat' first|refine w9x ?_|refine w9p (hcl) ?_|(refine w9c ?_ ?_<;>intro _<;>try exact w9o)|fail
      refine w9j2 3 7 ?_ ?_
      ·repeat' first|refine w9x ?_|refine w9p (hcl) ?_|(refine w9c ?_ ?_<;>intro _<;>try exact w9o)|fail
       refine w9j1 7 ?_
       repeat' first|refine w9x ?_|refine w9p (hcl) ?_|(refine w9c ?_ ?_<;>intro _<;>try exact w9o)|fail
       refine w9j1 8 ?_
       repeat' first|refine w9x ?_|refine w9p (hcl) ?_|(refine w9c ?_ ?_<;>intro _<;>try exact w9o)|fail
       refine w9jt 9 ?_
       refine JA.done (by kernel_rfl) ?_
       exact⟨rfl,w9a⟩
      ·repeat' first|refine w9x ?_|refine w9p (hcl) ?_|(refine w9c ?_ ?_<;>intro _<;>try exact w9o)|fail
       refine w9j1 3 ?_
       repeat' first|refine w9x ?_|refine w9p (hcl) ?_|(refine w9c ?_ ?_<;>intro _<;>try exact w9o)|fail
       refine w9j1 8 ?_
       repeat' first|refine w9x ?_|refine w9p (hcl) ?_|(refine w9c ?_ ?_<;>intro _<;>try exact w9o)|fail
       refine w9jt 9 ?_
       refine JA.done (by kernel_rfl) ?_
       exact⟨rfl,w9a⟩
    ·repeat' first|refine w9x ?_|refine w9p (hcl) ?_|(refine w9c ?_ ?_<;>intro _<;>try exact w9o)|fail
     refine w9j2 2 7 ?_ ?_
     ·repeat' first|refine w9x ?_|refine w9p (hcl) ?_|(refine w9c ?_ ?_<;>intro _<;>try exact w9o)|fail
      refine w9j2 3 7 ?_ ?_
      ·repeat' first|refine w9x ?_|refine w9p (hcl) ?_|(refine w9c ?_ ?_<;>intro _<;>try exact w9o)|fail
       refine w9j1 7 ?_
       repeat' first|refine w9x ?_|refine w9p (hcl) ?_|(refine w9c ?_ ?_<;>intro _<;>try exact w9o)|fail
       refine w9j1 8 ?_
       repeat' first|refine w9x ?_|refine w9p (hcl) ?_|(refine w9c ?_ ?_<;>intro _<;>try exact w9o)|fail
       refine w9jt 9 ?_
       refine JA.done (by kernel_rfl) ?_
       exact⟨rfl,w9a⟩
      ·repeat' first|refine w9x ?_|refine w9p (hcl) ?_|(refine w9c ?_ ?_<;>intro _<;>try exact w9o)|fail
       refine w9j1 3 ?_
       repeat' first|refine w9x ?_|refine w9p (hcl) ?_|(refine w9c ?_ ?_<;>intro _<;>try exact w9o)|fail
       refine w9j1 8 ?_
       repeat' first|refine w9x ?_|refine w9p (hcl) ?_|(refine w9c ?_ ?_<;>intro _<;>try exact w9o)|fail
       refine w9jt 9 ?_
       refine JA.done (by kernel_rfl) ?_
       exact⟨rfl,w9a⟩
     ·repeat' first|refine w9x ?_|refine w9p (hcl) ?_|(refine w9c ?_ ?_<;>intro _<;>try exact w9o)|fail
      refine w9j1 2 ?_
      repeat' first|refine w9x ?_|refine w9p (hcl) ?_|(refine w9c ?_ ?_<;>intro _<;>try exact w9o)|fail
      refine w9j1 3 ?_
      repeat' first|refine w9x ?_|refine w9p (hcl) ?_|(refine w9c ?_ ?_<;>intro _<;>try exact w9o)|fail
      refine w9j1 8 ?_
      repeat' first|refine w9x ?_|refine w9p (hcl) ?_|(refine w9c ?_ ?_<;>intro _<;>try exact w9o)|fail
      refine w9jt 9 ?_
      refine JA.done (by kernel_rfl) ?_
      exact⟨rfl,w9a⟩
   refine CW.freeze 6 rfl sh_int rfl ?_
   have hcut:=cutOut_length hl hlt
   have ih:=AllOrders_spec n (l.take i++l.drop (i+1)) hcut (by omega)
   have hRl:=allOrders_length n _ hcut
   have hRr:=allOrders_row n _ hcut
   have hsucc:=ordersTo_succ n l i hlt
   generalize allOrders n (l.take i++l.drop (i+1))=R at *
   have hOl:=ordersTo_length n l hl i hi
   have hb:=fact_mul_le i n (by omega) (by omega)
   have hf:=factP_le n (by omega)
   repeat' first|refine w9x ?_|refine w9p (ih) ?_|(refine w9c ?_ ?_<;>intro _<;>try exact w9o)|fail
   refine CW.loop (fun j:Nat=>[(0,.av (.sl false 1 ((l).map .int))),(3,.av (.sl true 1 ((ordersTo n l i++(R.take j).map (fun r=>l[i]::r)).map rowS))),(5,.av (.int (l[i]))),(13,.av (.sl false 1 ((l).map .int))),(14,.av (.int (l.length))),(15,.av (.int (i))),(30,.av (.sl true 1 (R.map rowS))),(31,.av (.int (R.length))),(32,.av (.int (j)))]) (fun j=>j≤R.length) (fun j=>R.length-j) (0) ?_ (by(repeat' (first|exact w9b|refine And.intro ?_ ?_|exact map_congr' (List.append_nil _).symm))) ?_
   ·exact Nat.zero_le _
   intro j hj
   by_cases hjl:j<R.length
   ·have hr:R[j]?=some R[j]:=List.getElem?_eq_getElem hjl
    have hrl:=hRr _ (List.getElem_mem hjl)
    have hm:=take_map_succ (fun r=>l[i]::r) R j hjl (ordersTo n l i)
    have hml:(ordersTo n l i++(R.take j).map (fun r=>l[i]::r)).length≤1440:=by rw [List.length_append,List.length_map,List.length_take];omega
    (repeat' (first |  (refine J.freezeO 40 rfl rfl (sh_int (l:=l[i]::R[j])) rfl ?_)|refine w9x ?_|(refine w9c ?_ ?_<;>intro _<;>try exact w9o)|fail))
    refine⟨j+1,?_,w9n,w9a⟩
    omega
   ·obtain rfl:j=R.length:=by omega
    rw [List.take_length]
    repeat' first|refine w9x ?_|(refine w9c ?_ ?_<;>intro _<;>try exact w9o)|fail
    refine⟨i+1,?_,w9n,w9a⟩
    omega
  ·obtain rfl:i=l.length:=by omega
   repeat' first|refine w9x ?_|(refine w9c ?_ ?_<;>intro _<;>try exact w9o)|fail
   refine .mk rfl ?_ rfl
   unfold ordersTo
   rfl
def stepP(w:List Int)(q:Int)(st:List Int×Int)(x:Int):List Int×Int :=
 (if st.2<q∧q≤st.2+w.getD x.toNat 0 then st.1.set x.toNat (st.1.getD x.toNat 0+1) else st.1,st.2+w.getD x.toNat 0)
def runP(w:List Int)(q:Int)(b:List Int)(p:List Int):List Int:=(p.foldl (stepP w q) (b,0)).1
def pivL(w:List Int)(q:Int):List Int:=(allOrders w.length (iotaP w.length)).foldl (runP w q) (List.replicate w.length 0)
theorem foldl_take_succ{α β:Type}(f:β→α→β)(b:β)(l:List α)(k:Nat)(h:k<l.length):(l.take (k+1)).foldl f b=f ((l.take k).foldl f b) l[k]:=by
 rw [List.take_succ_eq_append_getElem h,List.foldl_append];rfl
def inB(n m:Nat)(b:List Int):Prop:=b.length=n∧∀ v∈b,0≤v∧v≤m
theorem stepP_inB{w:List Int}{q:Int}{n m:Nat}{st:List Int×Int}{x:Int}(h:inB n m st.1):inB n (m+1) (stepP w q st x).1:=by
 unfold stepP
 refine⟨?_,fun v hv=>?_⟩
 ·simp only;split
  ·rw [List.length_set];exact h.1
  ·exact h.1
 ·simp only at hv
  split at hv
  ·rcases List.mem_or_eq_of_mem_set hv with hv|rfl
   ·have:=h.2 v hv;omega
   ·rw [List.getD_eq_getElem?_getD]
    cases hx:st.1[x.toNat]? with
    | none=>simp;omega
    | some u=>have:=h.2 u (List.mem_of_getElem? hx);simp;omega
  ·have:=h.2 v hv;omega
theorem foldP_inB{w:List Int}{q:Int}{n:Nat}:∀ (p:List Int) (m:Nat) (st:List Int×Int),inB n m st.1→inB n (m+p.length) (p.foldl (stepP w q) st).1
 | [],m,st,h=>h
 | x::p,m,st,h=>by
  have:=foldP_inB (w:=w) (q:=q) p (m+1) (stepP w q st x) (stepP_inB h)
  simp only [List.foldl_cons,List.length_cons]
  rw [show m+(p.length+1)=m+1+p.length by omega];exact this
theorem foldP_sum{w:List Int}{q:Int}(hw:okW w):∀ (p:List Int) (st:List Int×Int),st.2≤(p.foldl (stepP w q) st).2∧(p.foldl (stepP w q) st).2≤st.2+1000*p.length
 | [],st=>by simp
 | x::p,st=>by
  have:=foldP_sum (q:=q) hw p (stepP w q st x)
  have hx:0≤w.getD x.toNat 0∧w.getD x.toNat 0≤1000:=by
   rw [List.getD_eq_getElem?_getD]
   cases h:w[x.toNat]? with
   | none=>simp
   | some u=>simpa using hw.2 u (List.mem_of_getElem? h)
  simp only [List.foldl_cons,List.length_cons]
  have h2:(stepP w q st x).2=st.2+w.getD x.toNat 0:=rfl
  omega
theorem foldR_inB{w:List Int}{q:Int}{n m:Nat}:∀ (R:List (List Int)) (k:Nat) (b:List Int),(∀ r∈R,r.length=m)→inB n k b→inB n (k+R.length*m) (R.foldl (runP w q) b)
 | [],k,b,_,h=>by simpa using h
 | r::R,k,b,hR,h=>by
  have h1:=foldP_inB (w:=w) (q:=q) r k (b,0) h
  rw [hR r (List.mem_cons_self ..)] at h1
  have:=foldR_inB (w:=w) (q:=q) R (k+m) (runP w q b r) (fun r hr=>hR r (List.mem_cons_of_mem _ hr)) h1
  simp only [List.foldl_cons,List.length_cons,Nat.add_mul,Nat.one_mul]
  rw [show k+(R.length*m+m)=k+m+R.length*m by omega];exact this
theorem allOrders_mem:∀ (n:Nat) (l:List Int),∀ r∈allOrders n l,∀ x∈r,x∈l
 | 0,l,r,hr,x,hx=>by simp [allOrders] at hr;subst hr;cases hx
 | n+1,l,r,hr,x,hx=>by
  simp only [allOrders,List.mem_flatMap,List.mem_map,List.mem_range] at hr
  obtain⟨i,hi,r',hr',rfl⟩:=hr
  rcases List.mem_cons.1 hx with rfl|hx
  ·simp [hi]
  ·have:=allOrders_mem n _ r' hr' x hx
   rcases List.mem_append.1 this with h|h
   ·exact List.mem_of_mem_take h
   ·exact List.mem_of_mem_drop h
theorem iota_mem{n:Nat}{x:Int}(h:x∈iotaP n):0≤x∧x<n:=by
 simp only [iotaP,List.mem_map,List.mem_range] at h
 obtain⟨k,hk,rfl⟩:=h
 omega
theorem hv_off:∀ (w:List Int) (s i:Nat) (h:i<w.length),shr s i%2=1→hv w (off s i)=hv w s-w[i]
 | [],s,i,h,_=>by simp at h
 | x::r,s,0,_,hb=>by
  have hb':s%2=1:=by simpa [shr] using hb
  have e1:off s 0%2=0:=by
   have:(s ^^^ (s &&& 2 ^ 0)).testBit 0=false:=by
    rw [Nat.testBit_xor,Nat.testBit_and,Nat.testBit_two_pow];simp [hb']
   rw [Nat.testBit_zero] at this
   have:=of_decide_eq_false this
   show(s ^^^ (s &&& 2 ^ 0))%2=0
   omega
  have e2:off s 0 / 2=s / 2:=by
   apply Nat.eq_of_testBit_eq
   intro j
   rw [Nat.testBit_div_two,Nat.testBit_div_two]
   show(s ^^^ (s &&& 2 ^ 0)).testBit (j+1)=_
   rw [Nat.testBit_xor,Nat.testBit_and,Nat.testBit_two_pow]
   simp
  simp only [hv,e1,e2,hb',List.getElem_cons_zero]
  omega
 | x::r,s,i+1,h,hb=>by
  have hb':shr (s / 2) i%2=1:=by
   unfold shr at *
   rw [Nat.div_div_eq_div_mul,show 2*2 ^ i=2 ^ (i+1) by rw [Nat.pow_succ];omega];exact hb
  have ih:=hv_off r (s / 2) i (by simpa using h) hb'
  have e1:off s (i+1)%2=s%2:=by
   have:(s ^^^ (s &&& 2 ^ (i+1))).testBit 0=s.testBit 0:=by
    rw [Nat.testBit_xor,Nat.testBit_and,Nat.testBit_two_pow];simp
   rw [Nat.testBit_zero,Nat.testBit_zero] at this
   have:=decide_eq_decide.1 this
   show(s ^^^ (s &&& 2 ^ (i+1)))%2=s%2
   omega
  have e2:off s (i+1) / 2=off (s / 2) i:=by
   apply Nat.eq_of_testBit_eq
   intro j
   rw [Nat.testBit_div_two]
   show(s ^^^ (s &&& 2 ^ (i+1))).testBit (j+1)=(s / 2 ^^^ (s / 2 &&& 2 ^ i)).testBit j
   rw [Nat.testBit_xor,Nat.testBit_and,Nat.testBit_two_pow,Nat.testBit_xor,Nat.testBit_and,Nat.testBit_two_pow,Nat.testBit_div_two]
   simp
  simp only [hv,e1,e2,ih,List.getElem_cons_succ]
  omega
end Go.Proofs.YtkkcnppgcnmikaaGreatDoor
