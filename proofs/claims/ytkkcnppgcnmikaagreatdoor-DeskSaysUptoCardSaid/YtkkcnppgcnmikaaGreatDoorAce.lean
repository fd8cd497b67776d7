/- Offers: found, copied, compared. -/
import Derived.Test.YtkkcnppgcnmikaaGreatDoorAcc
import Derived.Test.YtkkcnppgcnmikaaGreatDoorAcb
import Derived.Test.YtkkcnppgcnmikaaGreatDoorAbg
import Derived.Test.YtkkcnppgcnmikaaGreatDoorAbd
namespace Go.Proofs.YtkkcnppgcnmikaaGreatDoor
open Go FM Go.Proofs
set_option maxRecDepth 10000
set_option maxHeartbeats 3200000
set_option linter.all false
noncomputable def fnDl (D:Dl→Prop) (p:Dl→Bool):AV:=.fn (BehA Sy.P (fun ws=>∃ a,ws=[dlA a]∧D a) (fun ws=>match ws with|[.agg [.str s,.str t,.int m,.int n,.int f,.int z]]=>.bool (p (s,t,m,n,f,z,()))|_=>.bool false))
theorem cloDl{m:Nat}{v:Nat→Value}{N:Nat}{σ:St}{f t:Nat}{caps:List Nat}{zs:List AV}{D:Dl→Prop}{p:Dl→Bool}(ht:FM.get σ t=.clo f caps)(hc:CapsOk σ caps zs)(hf:FnOk Sy.P f)(hs:∀ x,D x→FnSpec Sy.P f (dlA x::zs) (dlA x::zs) (.bool (p x))):ArgOk (Sy.fixed m v) N σ (.tmp t) true (fnDl D p) :=
 .clo rfl ht hc hf (fun ws hd=>by obtain⟨x,rfl,hx⟩:=hd;exact hs x hx) (fun ws hd=>by obtain⟨x,rfl,hx⟩:=hd;rfl)
theorem indexDl_spec(l:List Dl)(D:Dl→Prop)(p:Dl→Bool)(hl:l.length≤9223372036854775807)(hD:∀ x∈l,D x):FnSpec Sy.P 125 [.sl false 6 (l.map dlA),fnDl D p] [.sl false 6 (l.map dlA),fnDl D p] (.int (fidx p l 0)):=by
 refine enT Tryz.func125 Tryz.ntmps125 fun v0=>?_
 repeat' first|refine w9x ?_|(refine w9c ?_ ?_<;>intro _<;>try exact w9o)|(refine w9d ?_ ?_<;>intro _<;>try exact w9s)|fail
 refine CW.loop (fun k:Nat=>[(0,.av (.sl false 6 (l.map dlA))),(1,.av (fnDl D p)),(7,.av (.int (l.length))),(8,.av (.int (k)))]) (fun k=>k≤l.length∧fidx p l 0=fidx p (l.drop k) k) (fun k=>l.length-k) (0) ?_ (w9a) ?_
 ·exact⟨Nat.zero_le _,rfl⟩
 intro k ⟨hk,hp⟩
 by_cases hlt:k<l.length
 ·have hx:l[k]?=some l[k]:=List.getElem?_eq_getElem hlt
  have hd:D l[k]:=hD _ (List.getElem_mem hlt)
  rw [fidx_drop hlt] at hp
  have hres:(AV.bool (p (l[k].1,l[k].2.1,l[k].2.2.1,l[k].2.2.2.1,l[k].2.2.2.2.1,l[k].2.2.2.2.2.1,())))=.bool (p l[k]):=rfl
  cases hb:p l[k] with
  | true =>
   rw [hb,cond_true] at hp
   rw [hb] at hres
   rw [hp]
   repeat' first|refine w9x ?_|(refine J.callF [dlA l[k]] rfl rfl rfl ⟨_,rfl,hd⟩ (by exact w9A) (by first|assumption|rfl|simp) rfl ?_)|(refine J.callFQ [dlA l[k]] rfl rfl rfl ⟨_,rfl,hd⟩ (by exact w9A) (by first|assumption|rfl|simp) rfl ?_)|(refine w9c ?_ ?_<;>intro _<;>try exact w9o)|(refine w9d ?_ ?_<;>intro _<;>try exact w9s)|fail
   all_goals first|(rw [hb] at *;contradiction)|exact .mk rfl rfl rfl
  | false =>
   rw [hb,cond_false] at hp
   rw [hb] at hres
   repeat' first|refine w9x ?_|(refine J.callF [dlA l[k]] rfl rfl rfl ⟨_,rfl,hd⟩ (by exact w9A) (by first|assumption|rfl|simp) rfl ?_)|(refine J.callFQ [dlA l[k]] rfl rfl rfl ⟨_,rfl,hd⟩ (by exact w9A) (by first|assumption|rfl|simp) rfl ?_)|(refine w9c ?_ ?_<;>intro _<;>try exact w9o)|(refine w9d ?_ ?_<;>intro _<;>try exact w9s)|fail
   all_goals first|(rw [hb] at *;contradiction)|skip
   refine⟨k+1,?_,w9n,w9a⟩
   exact⟨by omega,hp⟩
 ·obtain rfl:k=l.length:=by omega
  rw [fidx_end] at hp
  rw [hp]
  repeat' first|refine w9x ?_|(refine w9c ?_ ?_<;>intro _<;>try exact w9o)|(refine w9d ?_ ?_<;>intro _<;>try exact w9s)|fail
  exact .mk rfl rfl rfl
def tD(s:Str)(n:Int)(d:Dl):Bool:=decide (d.1=s)&&decide (d.2.2.1=n)
def fD(l:List Dl)(s:Str)(n:Int):Int:=fidx (tD s n) l 0
theorem findD1_spec(d:Dl)(s:Str)(n:Int):FnSpec Sy.P 126 [dlA d,.pt false [.str s],.pt false [.int n]] [dlA d,.pt false [.str s],.pt false [.int n]] (.bool (tD s n d)):=by
 unfold tD
 obtain⟨a,b,c,e,f,g,u⟩:=d
 refine enT Tryz.func126 Tryz.ntmps126 fun v0=>?_
 by_cases h:a=s
 ·rw [decide_eq_true h,Bool.true_and]
  repeat' first|refine w9x ?_|(refine w9c ?_ ?_<;>intro _<;>try exact w9o)|fail
  all_goals exact w9e
 ·rw [decide_eq_false h,Bool.false_and]
  repeat' first|refine w9x ?_|(refine w9c ?_ ?_<;>intro _<;>try exact w9o)|fail
  all_goals exact w9e
theorem offer1_spec(d:Dl)(s:Str)(n:Int):FnSpec Sy.P 144 [dlA d,.pt false [.str s],.pt false [.int n]] [dlA d,.pt false [.str s],.pt false [.int n]] (.bool (tD s n d)):=by
 unfold tD
 obtain⟨a,b,c,e,f,g,u⟩:=d
 refine enT Tryz.func144 Tryz.ntmps144 fun v0=>?_
 by_cases h:a=s
 ·rw [decide_eq_true h,Bool.true_and]
  repeat' first|refine w9x ?_|(refine w9c ?_ ?_<;>intro _<;>try exact w9o)|fail
  all_goals exact w9e
 ·rw [decide_eq_false h,Bool.false_and]
  repeat' first|refine w9x ?_|(refine w9c ?_ ?_<;>intro _<;>try exact w9o)|fail
  all_goals exact w9e
abbrev d0:Dl:=([],[],0,0,0,0,())
theorem findD1_arg{s:Str}{n:Int}{m:Nat}{v:Nat→Value}{N:Nat}{σ:St}{t q r:Nat}(ht:FM.get σ t=.clo 126 [q,r])(h1:FM.get σ q=.av (.pt true [.str s]))(h2:FM.get σ r=.av (.pt true [.int n])):ArgOk (Sy.fixed m v) N σ (.tmp t) true (fnDl (fun _=>True) (tD s n)) :=
 cloDl (zs:=[.pt false [.str s],.pt false [.int n]]) ht (.cons h1 rfl (.cons h2 rfl .nil)) (findD1_spec d0 [] 0).ok fun x _=>findD1_spec x s n
theorem offer1_arg{s:Str}{n:Int}{m:Nat}{v:Nat→Value}{N:Nat}{σ:St}{t q r:Nat}(ht:FM.get σ t=.clo 144 [q,r])(h1:FM.get σ q=.av (.pt true [.str s]))(h2:FM.get σ r=.av (.pt true [.int n])):ArgOk (Sy.fixed m v) N σ (.tmp t) true (fnDl (fun _=>True) (tD s n)) :=
 cloDl (zs:=[.pt false [.str s],.pt false [.int n]]) ht (.cons h1 rfl (.cons h2 rfl .nil)) (offer1_spec d0 [] 0).ok fun x _=>offer1_spec x s n
theorem findD_spec(l:List Dl)(s:Str)(n:Int)(hl:l.length≤9223372036854775807):FnSpec Sy.P 68 [.sl false 6 (l.map dlA),.str s,.int n] [.sl false 6 (l.map dlA),.str s,.int n] (.int (fD l s n)):=by
 have hI:=indexDl_spec l (fun _=>True) (tD s n) hl (fun _ _=>trivial)
 refine enT Tryz.func68 Tryz.ntmps68 fun v0=>?_
 repeat' first|((with_reducible apply J.step);rfl;(exact s_mkf (caps:=[4,5]) rfl rfl))|refine w9x ?_|((with_reducible first|apply J.callP (hI)|apply J.callPQ (hI));rfl;rfl;(repeat' (first|exact ArgsOk.nil|exact findD1_arg rfl rfl rfl|apply ArgsOk.cons|exact ArgOk.pl rfl rfl|exact ArgOk.br rfl AV.noConfusion (by first|rfl|exact sh_int|exact sh_rows|exact sh_rowsO|exact sh_box|exact sh_map (fun _=>rfl))));(first|rfl|exact gn0|exact gnI))
 exact .mk rfl rfl rfl
theorem offerOf_spec(l:List Dl)(s:Str)(n:Int)(hl:l.length≤9223372036854775807):FnSpec Sy.P 86 [.sl false 6 (l.map dlA),.str s,.int n] [.sl false 6 (l.map dlA),.str s,.int n] (.int (fD l s n)):=by
 have hI:=indexDl_spec l (fun _=>True) (tD s n) hl (fun _ _=>trivial)
 refine enT Tryz.func86 Tryz.ntmps86 fun v0=>?_
 repeat' first|((with_reducible apply J.step);rfl;(exact s_mkf (caps:=[4,5]) rfl rfl))|refine w9x ?_|((with_reducible first|apply J.callP (hI)|apply J.callPQ (hI));rfl;rfl;(repeat' (first|exact ArgsOk.nil|exact offer1_arg rfl rfl rfl|apply ArgsOk.cons|exact ArgOk.pl rfl rfl|exact ArgOk.br rfl AV.noConfusion (by first|rfl|exact sh_int|exact sh_rows|exact sh_rowsO|exact sh_box|exact sh_map (fun _=>rfl))));(first|rfl|exact gn0|exact gnI))
 exact .mk rfl rfl rfl
theorem cloneDl_spec(l:List Dl)(hl:l.length≤1000000):FnSpec Sy.P 50 [.sl false 6 (l.map dlA)] [.sl false 6 (l.map dlA)] (.sl true 6 (l.map dlA)):=by
 refine enT Tryz.func50 Tryz.ntmps50 fun v0=>?_
 repeat' first|refine w9x ?_|(refine w9d ?_ ?_<;>intro _<;>try exact w9s)|(refine w9q ?_;intro bnil hbnil)|fail
 ·by_cases h:l=[]
  ·subst h
   exact .mkL rfl .nil rfl
  ·have:=hbnil (by simpa using h)
   simp_all
 ·exact .mk rfl rfl rfl
theorem dl_ext(a b:Dl):(a.1=b.1∧a.2.1=b.2.1∧a.2.2.1=b.2.2.1∧a.2.2.2.1=b.2.2.2.1∧a.2.2.2.2.1=b.2.2.2.2.1∧a.2.2.2.2.2.1=b.2.2.2.2.2.1)↔a=b:=by
 constructor
 ·rintro⟨h1,h2,h3,h4,h5,h6⟩
  exact Prod.ext h1 (Prod.ext h2 (Prod.ext h3 (Prod.ext h4 (Prod.ext h5 (Prod.ext h6 rfl)))))
 ·intro h;subst h;exact⟨rfl,rfl,rfl,rfl,rfl,rfl⟩
instance : DecidableEq Dl := fun a b => decidable_of_iff _ (dl_ext a b)
/-! ### what is right -/
def ofR(l:List Dl):Nat→Nat→Int
 | 0,_=>0
 | m+1,k=>if dlE (l.getD k d0)≠0 then dlE (l.getD k d0) else if 0≤fD (l.take k) (l.getD k d0).1 (l.getD k d0).2.2.1 then 7 else ofR l m (k+1)
def ofE(l:List Dl):Int:=if 20<l.length then 2 else ofR l l.length 0
theorem fidx_cons{α:Type}{p:α→Bool}{x:α}{r:List α}{k:Nat}:fidx p (x::r) k=bif p x then(k:Int) else fidx p r (k+1):=rfl
theorem fidx_app{α:Type}{p:α→Bool}:∀ (a b:List α) (k:Nat),fidx p (a++b) k=if 0≤fidx p a k then fidx p a k else fidx p b (k+a.length)
 | [],b,k=>by
  have:fidx p ([]:List α) k=-1:=rfl
  rw [this,if_neg (by omega)];rfl
 | x::a,b,k=>by
  rw [List.cons_append,fidx_cons,fidx_cons]
  cases hp:p x with
  | true=>rw [cond_true,cond_true,if_pos (by omega)]
  | false =>
   rw [cond_false,cond_false,fidx_app a b (k+1),List.length_cons,show k+1+a.length=k+(a.length+1) by omega]
theorem fidx_ge{α:Type}{p:α→Bool}:∀ {l:List α} {k:Nat},0≤fidx p l k→(k:Int)≤fidx p l k∧fidx p l k<k+l.length
 | [],k,h=>by have:fidx p ([]:List α) k=-1:=rfl;omega
 | x::a,k,h=>by
  rw [fidx_cons] at h ⊢
  cases hp:p x with
  | true=>rw [cond_true,List.length_cons];omega
  | false =>
   rw [hp,cond_false] at h
   rw [cond_false,List.length_cons]
   have:=fidx_ge h
   omega
theorem fD_take{l:List Dl}{k:Nat}{s:Str}{n:Int}:0≤fD (l.take k) s n↔(0≤fD l s n∧fD l s n<k):=by
 have e:=fidx_app (p:=tD s n) (l.take k) (l.drop k) 0
 rw [List.take_append_drop] at e
 have g1:=@fidx_ge _ (tD s n) (l.take k) 0
 have g2:=@fidx_ge _ (tD s n) (l.drop k) (0+(l.take k).length)
 unfold fD
 rw [e]
 rw [List.length_take] at *
 constructor
 ·intro h
  rw [if_pos h]
  have:=g1 h
  omega
 ·rintro⟨h1,h2⟩
  by_cases c:0≤fidx (tD s n) (l.take k) 0
  ·exact c
  ·rw [if_neg c] at h1 h2
   have:=g2 h1
   exfalso
   by_cases hk:k≤l.length
   ·rw [Nat.min_eq_left hk] at this;omega
   ·rw [List.drop_eq_nil_of_le (by omega)] at h1
    have:fidx (tD s n) ([]:List Dl) (0+min k l.length)=-1:=rfl
    omega
theorem fidx_some{α:Type}{p:α→Bool}:∀ {l:List α} {k:Nat} {x:α},x∈l→p x=true→0≤fidx p l k
 | y::a,k,x,hx,hp=>by
  rw [fidx_cons]
  cases hy:p y with
  | true=>rw [cond_true];omega
  | false =>
   rw [cond_false]
   rcases List.mem_cons.1 hx with rfl|hx
   ·rw [hp] at hy;cases hy
   ·exact fidx_some hx hp
theorem tD_self(d:Dl):tD d.1 d.2.2.1 d=true:=by unfold tD;simp
theorem ofR_step{l:List Dl}{k:Nat}(h:k<l.length):ofR l (l.length-k) k=if dlE l[k]≠0 then dlE l[k] else if 0≤fD (l.take k) l[k].1 l[k].2.2.1 then 7 else ofR l (l.length-(k+1)) (k+1):=by
 rw [show l.length-k=(l.length-(k+1))+1 by omega]
 have:l.getD k d0=l[k]:=by rw [List.getD_eq_getElem?_getD,List.getElem?_eq_getElem h];rfl
 rw [ofR,this]
structure DlL(l:List Dl):Prop where
 len:l.length≤9223372036854775807
 s1:∀ d∈l,d.1.length≤9223372036854775807
 s2:∀ d∈l,d.2.1.length≤9223372036854775807
theorem qcheck_spec(l:List Dl)(h:DlL l):FnSpec Sy.P 66 [.sl false 6 (l.map dlA)] [.sl false 6 (l.map dlA)] (.int (ofE l)):=by
 have hl:=h.len
 refine enT Tryz.func66 Tryz.ntmps66 fun v0=>?_
 by_cases h6:20<l.length
 ·rw [show ofE l=2 from if_pos h6]
  repeat' first|refine w9x ?_|(refine w9c ?_ ?_<;>intro _<;>try exact w9o)|fail
  all_goals exact w9e
 rw [show ofE l=ofR l l.length 0 from if_neg h6]
 repeat' first|refine w9x ?_|(refine w9c ?_ ?_<;>intro _<;>try exact w9o)|fail
 all_goals try exact w9o
 refine CW.loop (fun k:Nat=>[(0,.av (.sl false 6 (l.map dlA))),(9,.av (.sl false 6 (l.map dlA))),(10,.av (.int (l.length))),(11,.av (.int (k)))]) (fun k=>k≤l.length∧ofR l l.length 0=ofR l (l.length-k) k) (fun k=>l.length-k) (0) ?_ (w9a) ?_
 ·exact⟨Nat.zero_le _,rfl⟩
 intro k ⟨hk,ha⟩
 by_cases hkl:k<l.length
 ·have hx:l[k]?=some l[k]:=List.getElem?_eq_getElem hkl
  have hR:=right_spec l[k] (h.s1 _ (List.getElem_mem hkl)) (h.s2 _ (List.getElem_mem hkl))
  have hF:=findD_spec (l.take k) l[k].1 l[k].2.2.1 (by rw [List.length_take];omega)
  rw [ofR_step hkl] at ha
  generalize l[k]=d at *
  by_cases c1:dlE d≠0
  ·rw [if_pos c1] at ha
   rw [ha]
   generalize dlE d=e at *
   repeat' first|refine w9x ?_|refine w9p (hR) ?_|refine w9p (hF) ?_|(refine w9c ?_ ?_<;>intro _<;>try exact w9o)|fail
   all_goals exact w9e
  ·rw [if_neg c1] at ha
   rw [Classical.not_not.1 c1] at hR
   by_cases c2:0≤fD (l.take k) d.1 d.2.2.1
   ·rw [if_pos c2] at ha
    rw [ha]
    repeat' first|refine w9x ?_|refine w9p (hR) ?_|refine w9p (hF) ?_|(refine w9c ?_ ?_<;>intro _<;>try exact w9o)|fail
    all_goals exact w9e
   ·rw [if_neg c2] at ha
    repeat' first|refine w9x ?_|refine w9p (hR) ?_|refine w9p (hF) ?_|(refine w9c ?_ ?_<;>intro _<;>try exact w9o)|fail
    all_goals try exact w9o
    refine⟨k+1,?_,w9n,w9a⟩
    exact⟨by omega,ha⟩
 ·obtain rfl:l.length=k:=by omega
  rw [Nat.sub_self] at ha
  rw [ha]
  repeat' first|refine w9x ?_|(refine w9c ?_ ?_<;>intro _<;>try exact w9o)|fail
  exact .mk rfl rfl rfl
theorem offerErr_spec(l:List Dl)(h:DlL l):FnSpec Sy.P 84 [.sl false 6 (l.map dlA)] [.sl false 6 (l.map dlA)] (.int (ofE l)):=by
 have hl:=h.len
 refine enT Tryz.func84 Tryz.ntmps84 fun v0=>?_
 by_cases h6:20<l.length
 ·rw [show ofE l=2 from if_pos h6]
  repeat' first|refine w9x ?_|(refine w9c ?_ ?_<;>intro _<;>try exact w9o)|fail
  all_goals exact w9e
 rw [show ofE l=ofR l l.length 0 from if_neg h6]
 repeat' first|refine w9x ?_|(refine w9c ?_ ?_<;>intro _<;>try exact w9o)|fail
 all_goals try exact w9o
 refine CW.loop (fun k:Nat=>[(0,.av (.sl false 6 (l.map dlA))),(9,.av (.sl false 6 (l.map dlA))),(10,.av (.int (l.length))),(11,.av (.int (k)))]) (fun k=>k≤l.length∧ofR l l.length 0=ofR l (l.length-k) k) (fun k=>l.length-k) (0) ?_ (w9a) ?_
 ·exact⟨Nat.zero_le _,rfl⟩
 intro k ⟨hk,ha⟩
 by_cases hkl:k<l.length
 ·have hx:l[k]?=some l[k]:=List.getElem?_eq_getElem hkl
  have hR:=dealErr_spec l[k] (h.s1 _ (List.getElem_mem hkl)) (h.s2 _ (List.getElem_mem hkl))
  have hF:=offerOf_spec l l[k].1 l[k].2.2.1 hl
  rw [ofR_step hkl] at ha
  have hft:=fD_take (l:=l) (k:=k) (s:=l[k].1) (n:=l[k].2.2.1)
  have hself:0≤fD l l[k].1 l[k].2.2.1:=fidx_some (List.getElem_mem hkl) (tD_self _)
  generalize l[k]=d at *
  by_cases c1:dlE d≠0
  ·rw [if_pos c1] at ha
   rw [ha]
   generalize dlE d=e at *
   repeat' first|refine w9x ?_|refine w9p (hR) ?_|refine w9p (hF) ?_|(refine w9c ?_ ?_<;>intro _<;>try exact w9o)|fail
   all_goals exact w9e
  ·rw [if_neg c1] at ha
   rw [Classical.not_not.1 c1] at hR
   by_cases c2:0≤fD (l.take k) d.1 d.2.2.1
   ·rw [if_pos c2] at ha
    have:=hft.1 c2
    rw [ha]
    repeat' first|refine w9x ?_|refine w9p (hR) ?_|refine w9p (hF) ?_|(refine w9c ?_ ?_<;>intro _<;>try exact w9o)|fail
    all_goals exact w9e
   ·rw [if_neg c2] at ha
    have:¬ fD l d.1 d.2.2.1<k:=fun h=>c2 (hft.2 ⟨hself,h⟩)
    repeat' first|refine w9x ?_|refine w9p (hR) ?_|refine w9p (hF) ?_|(refine w9c ?_ ?_<;>intro _<;>try exact w9o)|fail
    all_goals try exact w9o
    refine⟨k+1,?_,w9n,w9a⟩
    exact⟨by omega,ha⟩
 ·obtain rfl:l.length=k:=by omega
  rw [Nat.sub_self] at ha
  rw [ha]
  repeat' first|refine w9x ?_|(refine w9c ?_ ?_<;>intro _<;>try exact w9o)|fail
  exact .mk rfl rfl rfl
end Go.Proofs.YtkkcnppgcnmikaaGreatDoor
namespace Go.Proofs.YtkkcnppgcnmikaaGreatDoor
open Go FM
set_option maxRecDepth 10000
set_option maxHeartbeats 1600000
set_option linter.all false
theorem logSum_spec(s:List UInt8)(hl:s.length≤9223372036854775807):FnSpec Sy.P 131 [.str s] [.str s] (u16 (crc s)):=by
 refine enT Tryz.func131 Tryz.ntmps131 fun v0=>?_
 repeat' first|refine w9x ?_|(refine w9c ?_ ?_<;>intro _<;>try exact w9o)|fail
 refine CW.loop (fun k:Nat=>[(0,.av (.str s)),(3,.av (u16 (crc (s.take k)))),(7,.av (.sl false 1 (s.map b8))),(8,.av (.int (s.length))),(9,.av (.int (k)))]) (fun k=>k≤s.length) (fun k=>s.length-k) (0) ?_ (w9a) ?_
 ·exact Nat.zero_le _
 intro k hk
 have hx:=crc_lt (s.take k)
 by_cases hlt:k<s.length
 ·have hg:s[k]?=some s[k]:=List.getElem?_eq_getElem hlt
  have ht:=crc_take1 hlt
  have hc:=s[k].toNat_lt
  have hm:=sl16_lt s[k].toNat 8
  generalize s[k]=c at *
  generalize crc (s.take k)=x at *
  repeat' first|refine w9x ?_|(refine w9c ?_ ?_<;>intro _<;>try exact w9o)|fail
  have hy:=xor_u16 hx hm
  generalize x ^^^ sl16 c.toNat 8=y at *
  refine CW.loop (fun j:Nat=>[(0,.av (.str s)),(3,.av (u16 (st1s y j))),(7,.av (.sl false 1 (s.map b8))),(8,.av (.int (s.length))),(9,.av (.int (k))),(18,.av (.int (j)))]) (fun j=>j≤8) (fun j=>8-j) (0) ?_ (w9a) ?_
  ·exact Nat.zero_le _
  intro j hj
  by_cases hj8:j<8
  ·have hz:=st1s_lt hy j
   have hs:st1s y (j+1)=st1 (st1s y j):=rfl
   generalize st1s y j=z at *
   have hm2:=sl16_lt z 1
   by_cases ht:shr z 15=1
   ·unfold st1 at hs
    rw [if_pos ht] at hs
    repeat' first|refine w9x ?_|(refine w9c ?_ ?_<;>intro _<;>try exact w9o)|fail
    all_goals try exact w9o
    refine⟨j+1,?_,w9n,by(repeat' (first|exact w9b|refine And.intro ?_ ?_|(rw [hs])))⟩
    omega
   ·unfold st1 at hs
    rw [if_neg ht] at hs
    repeat' first|refine w9x ?_|(refine w9c ?_ ?_<;>intro _<;>try exact w9o)|fail
    all_goals try exact w9o
    refine⟨j+1,?_,w9n,by(repeat' (first|exact w9b|refine And.intro ?_ ?_|(rw [hs])))⟩
    omega
  ·obtain rfl:j=8:=by omega
   rw [← ht]
   repeat' first|refine w9x ?_|(refine w9c ?_ ?_<;>intro _<;>try exact w9o)|fail
   refine⟨k+1,?_,w9n,w9a⟩
   omega
 ·obtain rfl:k=s.length:=by omega
  rw [List.take_length]
  repeat' first|refine w9x ?_|(refine w9c ?_ ?_<;>intro _<;>try exact w9o)|fail
  exact .mk rfl rfl rfl
section
variable {S:FM.Sys} {σ:FM.St} {d ty t t2 a:Nat} {pos:String} {aft:Array Edge} {g:Option (Nat×Bool)} {x y:Operand}
theorem s_quo32768(hx:ov σ x=.av (.int (a:Int)))(hy:ov σ y=.av (.int 32768))(ha:a<65536):Step S ⟨some d,.binOp .quo t x y t2,ty,pos,aft,g⟩ σ (σ.put d (.av (.int ((a / 32768:Nat):Int)))):=by
 have e:Int.tdiv (a:Int) 32768=((a / 32768:Nat):Int):=rfl
 have:=s_quo (S:=S) (d:=d) (ty:=ty) (t:=t) (t2:=t2) (pos:=pos) (aft:=aft) (g:=g) hx hy (by decide) (by rw [e];exact InR.mk (by omega))
 rwa [e] at this
theorem s_mulN2(hx:ov σ x=.av (.int (a:Int)))(hy:ov σ y=.av (.int 2))(ha:a<65536):Step S ⟨some d,.binOp .mul t x y t2,ty,pos,aft,g⟩ σ (σ.put d (.av (.int ((a*2:Nat):Int)))):=by
 have:=s_mul (S:=S) (d:=d) (ty:=ty) (t:=t) (t2:=t2) (pos:=pos) (aft:=aft) (g:=g) hx hy (InR.mk (by omega))
 rwa [show(a:Int)*2=((a*2:Nat):Int) by omega] at this
theorem s_rem65536(hx:ov σ x=.av (.int (a:Int)))(hy:ov σ y=.av (.int 65536)):Step S ⟨some d,.binOp .rem t x y t2,ty,pos,aft,g⟩ σ (σ.put d (.av (.int ((a%65536:Nat):Int)))):=by
 have e:Int.tmod (a:Int) 65536=((a%65536:Nat):Int):=rfl
 have:=s_rem (S:=S) (d:=d) (ty:=ty) (t:=t) (t2:=t2) (pos:=pos) (aft:=aft) (g:=g) hx hy (by decide)
 rwa [e] at this
theorem s_xor4129(hx:ov σ x=.av (.int (a:Int)))(hy:ov σ y=.av (.int 4129))(ha:a<65536):Step S ⟨some d,.binOp .xor t x y t2,ty,pos,aft,g⟩ σ (σ.put d (.av (.int ((a ^^^ 4129:Nat):Int)))) :=
 s_xorN (b:=4129) hx hy (InR.mk (by omega)) (InR.mk (by omega))
end
theorem sumOf_spec(s:List UInt8)(hl:s.length≤9223372036854775807):FnSpec Sy.P 139 [.str s] [.str s] (u16 (crc s)):=by
 refine enT Tryz.func139 Tryz.ntmps139 fun v0=>?_
 repeat' first|refine w9x ?_|(refine w9c ?_ ?_<;>intro _<;>try exact w9o)|fail
 refine CW.loop (fun k:Nat=>[(0,.av (.str s)),(3,.av (.int (((crc (s.take k):Nat):Int)))),(8,.av (.int (s.length))),(9,.av (.int (k)))]) (fun k=>k≤s.length) (fun k=>s.length-k) (0) ?_ (w9a) ?_
 ·exact Nat.zero_le _
 intro k hk
 have hx:=crc_lt (s.take k)
 by_cases hlt:k<s.length
 ·have hg:s[k]?=some s[k]:=List.getElem?_eq_getElem hlt
  have ht:=crc_take hlt
  have hc:=s[k].toNat_lt
  generalize s[k]=c at *
  generalize crc (s.take k)=x at *
  repeat' first|refine w9x ?_|(refine w9c ?_ ?_<;>intro _<;>try exact w9o)|fail
  refine CW.loop (fun j:Nat=>[(0,.av (.str s)),(3,.av (.int (((st2s c.toNat x j:Nat):Int)))),(4,.av (.int (k))),(5,.av (.int (7-(j:Int)))),(8,.av (.int (s.length))),(9,.av (.int (k)))]) (fun j=>j≤8) (fun j=>8-j) (0) ?_ (w9a) ?_
  ·exact Nat.zero_le _
  intro j hj
  by_cases hj8:j<8
  ·have hz:=st2s_lt (c:=c.toNat) hx j
   have hs:st2s c.toNat x (j+1)=st2 c.toNat (st2s c.toNat x j) (7-j):=rfl
   generalize st2s c.toNat x j=z at *
   obtain⟨m,hm⟩:∃ m,m=7-j:=⟨_,rfl⟩
   rw [← hm] at hs
   rw [show(7:Int)-(j:Int)=(m:Int) by omega]
   have hbit:shr c.toNat m%2<2:=Nat.mod_lt _ (by decide)
   have hc2:=shr_le c.toNat m
   have hmz:z*2%65536<65536:=Nat.mod_lt _ (by decide)
   unfold st2 at hs
   by_cases ht2:z / 32768 ^^^ (shr c.toNat m%2)=1
   ·rw [if_pos ht2] at hs
    repeat' first|((with_reducible apply J.step);rfl;(exact s_quo32768 rfl rfl hz))|((with_reducible apply J.step);rfl;(exact s_mulN2 rfl rfl hz))|((with_reducible apply J.step);rfl;(exact s_rem65536 rfl rfl))|((with_reducible apply J.step);rfl;(exact s_xor4129 rfl rfl hmz))|refine w9x ?_|(refine w9c ?_ ?_<;>intro _<;>try exact w9o)|fail
    all_goals try exact w9o
    refine⟨j+1,?_,w9n,by(repeat' (first|exact w9b|refine And.intro ?_ ?_|(rw [hs])))⟩
    omega
   ·rw [if_neg ht2] at hs
    repeat' first|((with_reducible apply J.step);rfl;(exact s_quo32768 rfl rfl hz))|((with_reducible apply J.step);rfl;(exact s_mulN2 rfl rfl hz))|((with_reducible apply J.step);rfl;(exact s_rem65536 rfl rfl))|((with_reducible apply J.step);rfl;(exact s_xor4129 rfl rfl hmz))|refine w9x ?_|(refine w9c ?_ ?_<;>intro _<;>try exact w9o)|fail
    all_goals try exact w9o
    refine⟨j+1,?_,w9n,by(repeat' (first|exact w9b|refine And.intro ?_ ?_|(rw [hs])))⟩
    omega
  ·obtain rfl:j=8:=by omega
   rw [← ht]
   repeat' first|refine w9x ?_|(refine w9c ?_ ?_<;>intro _<;>try exact w9o)|fail
   refine⟨k+1,?_,w9n,w9a⟩
   omega
 ·obtain rfl:k=s.length:=by omega
  rw [List.take_length]
  have hcl:=crc_lt s
  generalize crc s=x at *
  repeat' first|refine w9x ?_|(refine w9c ?_ ?_<;>intro _<;>try exact w9o)|fail
  exact .mk rfl (by rw [Nat.mod_eq_of_lt hcl];rfl) rfl
theorem logFrame_spec(rec:List UInt8)(hl:rec.length≤9223372036854775807):FnSpec Sy.P 124 [.str rec] [.str rec] (if 64<rec.length then .tup [.str [],.int 2] else .tup [.str (frm rec),.int 0]):=by
 refine enT Tryz.func124 Tryz.ntmps124 fun v0=>?_
 by_cases h:64<rec.length
 ·rw [if_pos h]
  repeat' first|refine w9x ?_|(refine w9c ?_ ?_<;>intro _<;>try exact w9o)|fail
  exact .mk rfl rfl rfl
 ·rw [if_neg h]
  have hb:(body rec).length=rec.length+1:=by simp [body]
  have hS:=logSum_spec (body rec) (by omega)
  have hx:=crc_lt (body rec)
  have hf:frm rec=body rec++[UInt8.ofNat (shr (crc (body rec)) 8%256),UInt8.ofNat (crc (body rec)%256)]:=rfl
  rw [hf]
  have hb2:[UInt8.ofNat (rec.length%256)]++rec=body rec:=rfl
  generalize crc (body rec)=x at *
  repeat' first|refine w9x ?_|refine w9p (hS) ?_|(refine w9c ?_ ?_<;>intro _<;>try exact w9o)|fail
  exact .mk rfl rfl rfl
theorem frameOf_spec(rec:List UInt8)(hl:rec.length≤1000000):FnSpec Sy.P 81 [.str rec] [.str rec] (.str (frm rec)):=by
 refine enT Tryz.func81 Tryz.ntmps81 fun v0=>?_
 have hb:(body rec).length=rec.length+1:=by simp [body]
 have hS:=sumOf_spec (body rec) (by omega)
 have hx:=crc_lt (body rec)
 have hf:frm rec=body rec++[UInt8.ofNat (crc (body rec) / 256%256),UInt8.ofNat (crc (body rec)%256%256)]:=by rw [Nat.mod_mod];rfl
 rw [hf]
 generalize crc (body rec)=x at *
 repeat' first|refine w9x ?_|refine w9p (hS) ?_|fail
 exact .mk rfl rfl rfl
abbrev strs(o:Bool)(l:List (List UInt8)):AV:=.sl o 1 (l.map .str)
theorem ofNat_iff{p:UInt8}{m:Nat}(h:m<256):p=UInt8.ofNat m↔((p.toNat:Nat):Int)=((m:Nat):Int):=by
 constructor
 ·rintro rfl;rw [UInt8.toNat_ofNat',Nat.mod_eq_of_lt h]
 ·intro e
  have:p.toNat=m:=by omega
  rw [← this];exact UInt8.ofNat_toNat.symm
theorem nx_large{s:List UInt8}{b:UInt8}(h0:s[0]?=some b)(h:64<b.toNat∨s.length<b.toNat+3):nx s=none:=by
 cases s with
 | nil=>cases h0
 | cons b' r =>
  simp only [List.getElem?_cons_zero,Option.some.injEq] at h0
  subst h0
  rw [List.length_cons] at h
  rw [nx_cons,if_pos (by omega)]
theorem logScan_spec(s:List UInt8)(hl:s.length≤1000000000):FnSpec Sy.P 71 [.str s] [.str s] (.tup [strs true (scan s).1,.int ((scan s).2:Nat)]):=by
 refine enT Tryz.func71 Tryz.ntmps71 fun v0=>?_
 repeat' first|refine w9x ?_|(refine w9c ?_ ?_<;>intro _<;>try exact w9o)|fail
 refine CW.own 4 1 rfl ?_
 refine CW.loop (fun z:Nat×List (List UInt8)=>[(0,.av (.str s)),(4,.av (strs true z.2)),(5,.av (.int (z.1)))]) (fun z=>z.1≤s.length∧z.2++(scan (s.drop z.1)).1=(scan s).1∧z.1+(scan (s.drop z.1)).2=(scan s).2∧z.2.length≤z.1) (fun z=>s.length-z.1) ((0,[])) ?_ (w9a) ?_
 ·simp
 intro ⟨k,out⟩ ⟨hk,h1,h2,ho⟩
 dsimp only at hk h1 h2 ho ⊢
 by_cases hlt:k<s.length
 ·have hg:s[k]?=some s[k]:=List.getElem?_eq_getElem hlt
  have hd0:(s.drop k)[0]?=some s[k]:=by rw [List.getElem?_drop,Nat.add_zero];exact hg
  have hdl:(s.drop k).length=s.length-k:=List.length_drop
  have hb:=s[k].toNat_lt
  generalize s[k]=b at *
  have hb256:b.toNat<256:=hb
  by_cases hc:64<b.toNat∨s.length-k<b.toNat+3
  ·rw [scan_none (nx_large hd0 (by rw [hdl];exact hc))] at h1 h2
   simp only [List.append_nil,Nat.add_zero] at h1 h2
   rw [← h1,←h2]
   repeat' first|refine w9x ?_|(refine w9c ?_ ?_<;>intro _<;>try exact w9o)|fail
   all_goals exact w9e
  ·have hp:s[((k:Int)+(b.toNat:Int)+1).toNat]?=some (s[k+b.toNat+1]'(by omega)):=by
    rw [show((k:Int)+(b.toNat:Int)+1).toNat=k+b.toNat+1 by omega];exact List.getElem?_eq_getElem _
   have hq:s[((k:Int)+(b.toNat:Int)+2).toNat]?=some (s[k+b.toNat+2]'(by omega)):=by
    rw [show((k:Int)+(b.toNat:Int)+2).toNat=k+b.toNat+2 by omega];exact List.getElem?_eq_getElem _
   have hp':(s.drop k)[b.toNat+1]?=some (s[k+b.toNat+1]'(by omega)):=by
    rw [List.getElem?_drop,show k+(b.toNat+1)=k+b.toNat+1 by omega];exact List.getElem?_eq_getElem _
   have hq':(s.drop k)[b.toNat+2]?=some (s[k+b.toNat+2]'(by omega)):=by
    rw [List.getElem?_drop,show k+(b.toNat+2)=k+b.toNat+2 by omega];exact List.getElem?_eq_getElem _
   obtain⟨t1,t2⟩:=nx_test hd0 (by omega) (by omega) hp' hq'
   have hT:(s.take ((k:Int)+(b.toNat:Int)+1).toNat).drop (k:Int).toNat=(s.drop k).take (b.toNat+1):=by
    rw [show((k:Int)+(b.toNat:Int)+1).toNat=k+(b.toNat+1) by omega,Int.toNat_natCast,List.take_add,List.drop_append]
    have:(List.take k s).length=k:=by rw [List.length_take];omega
    rw [List.drop_of_length_le (by omega),this,Nat.sub_self,List.drop_zero,List.nil_append]
   have hR:(s.take ((k:Int)+1+(b.toNat:Int)).toNat).drop ((k:Int)+1).toNat=((s.drop k).take (b.toNat+1)).drop 1:=by
    rw [← hT,show((k:Int)+1+(b.toNat:Int)).toNat=((k:Int)+(b.toNat:Int)+1).toNat by omega,List.drop_drop]
    congr 1
   have hTl:((s.take ((k:Int)+(b.toNat:Int)+1).toNat).drop (k:Int).toNat).length≤9223372036854775807:=by rw [hT,List.length_take];omega
   have hS:=logSum_spec _ hTl
   have hx:=crc_lt ((s.take ((k:Int)+(b.toNat:Int)+1).toNat).drop (k:Int).toNat)
   rw [← hT] at t1 t2
   generalize s[k+b.toNat+1]'(by omega)=p at *
   generalize s[k+b.toNat+2]'(by omega)=q at *
   generalize hxx:crc ((s.take ((k:Int)+(b.toNat:Int)+1).toNat).drop (k:Int).toNat)=x at *
   have ep:=ofNat_iff (p:=p) (m:=shr x 8%256) (by omega)
   have eq:=ofNat_iff (p:=q) (m:=x%256) (by omega)
   have ehi:hiB x=UInt8.ofNat (shr x 8%256):=rfl
   have elo:loB x=UInt8.ofNat (x%256):=rfl
   rw [ehi,elo,ep,eq] at t1 t2
   by_cases hpq:((p.toNat:Nat):Int)=((shr x 8%256:Nat):Int)∧((q.toNat:Nat):Int)=((x%256:Nat):Int)
   ·have hn:=t1 hpq
    have hnl:=nx_some hn
    have hrl:(((s.take ((k:Int)+(b.toNat:Int)+1).toNat).drop (k:Int).toNat).drop 1).length=b.toNat:=by rw [hT,List.length_drop,List.length_take];omega
    rw [scan_some hn,hrl] at h1 h2
    have hdd:(s.drop k).drop (b.toNat+3)=s.drop (k+b.toNat+3):=by rw [List.drop_drop,Nat.add_assoc]
    rw [hdd] at h1 h2
    rw [hT,←hR] at h1
    obtain⟨hpq1,hpq2⟩:=hpq
    clear t1 t2 ep eq ehi elo hn hnl
    repeat' first|refine w9x ?_|refine w9p (hS) ?_|(refine w9c ?_ ?_<;>intro _<;>try exact w9o)|fail
    all_goals try exact w9o
    refine⟨(k+b.toNat+3,out++[(s.take ((k:Int)+1+(b.toNat:Int)).toNat).drop ((k:Int)+1).toNat]),?_,w9n,w9a⟩
    refine⟨by simp only;omega,?_,?_,by simp only [List.length_append,List.length_cons,List.length_nil];omega⟩
    ·simp only [List.append_assoc,List.singleton_append]
     exact h1
    ·simp only
     omega
   ·rw [scan_none (t2 hpq)] at h1 h2
    simp only [List.append_nil,Nat.add_zero] at h1 h2
    rw [← h1,←h2]
    clear t1 t2 ep eq ehi elo
    repeat' first|refine w9x ?_|refine w9p (hS) ?_|(refine w9c ?_ ?_<;>intro _<;>try exact w9o)|fail
    all_goals exact w9e
 ·obtain rfl:k=s.length:=by omega
  rw [List.drop_length] at h1 h2
  have:scan []=([],0):=rfl
  rw [this] at h1 h2
  simp only [List.append_nil,Nat.add_zero] at h1 h2
  rw [← h1,←h2]
  repeat' first|refine w9x ?_|(refine w9c ?_ ?_<;>intro _<;>try exact w9o)|fail
  exact .mk rfl rfl rfl
theorem scan_len:∀ (n:Nat) (s:List UInt8),s.length≤n→(scan s).1.length≤s.length
 | 0,s,h=>by
  have:s=[]:=List.eq_nil_of_length_eq_zero (by omega)
  subst this;exact Nat.le_refl _
 | n+1,s,h=>by
  cases hn:nx s with
  | none=>rw [scan_none hn];exact Nat.zero_le _
  | some rec =>
   have h1:=nx_some hn
   have ih:=scan_len n (s.drop (rec.length+3)) (by rw [List.length_drop];omega)
   rw [scan_some hn]
   rw [List.length_drop] at ih
   simp only [List.length_cons];omega
theorem nx_frame{s:List UInt8}{b:UInt8}(h0:s[0]?=some b)(h1:¬ 64<b.toNat)(h2:b.toNat+3≤s.length) :
  (frm ((s.take (b.toNat+1)).drop 1)=s.take (b.toNat+3)→nx s=some ((s.take (b.toNat+1)).drop 1))∧(frm ((s.take (b.toNat+1)).drop 1)≠s.take (b.toNat+3)→nx s=none):=by
 cases s with
 | nil=>cases h0
 | cons b' r =>
  simp only [List.getElem?_cons_zero,Option.some.injEq] at h0
  subst h0
  rw [List.length_cons] at h2
  have hd:((b'::r).take (b'.toNat+1)).drop 1=r.take b'.toNat:=by rw [List.take_succ_cons];rfl
  rw [nx_cons,if_neg (by omega),hd]
  exact⟨fun h=>if_pos h,fun h=>if_neg h⟩
theorem scanOf_spec:∀ (n:Nat) (s:List UInt8),s.length≤n→n≤1000000000→FnSpec Sy.P 45 [.str s] [.str s] (.tup [strs true (scan s).1,.int ((scan s).2:Nat)]):=by
 intro n
 induction n with
 | zero =>
  intro s hs _
  have:s=[]:=List.eq_nil_of_length_eq_zero (by omega)
  subst this
  have e:scan []=([],0):=rfl
  rw [e]
  refine enT Tryz.func45 Tryz.ntmps45 fun v0=>?_
  repeat' first|refine w9x ?_|(refine w9c ?_ ?_<;>intro _<;>try exact w9o)|fail
  all_goals first|contradiction|(exact .mkL rfl (le_tup2 .nil (.refl _)) rfl)
 | succ n ih =>
  intro s hs hn
  by_cases h0:s=[]
  ·subst h0;exact ih [] (by simp) (by omega)
  have hpos:0<s.length:=List.length_pos_iff.2 h0
  have hg:s[0]?=some s[0]:=List.getElem?_eq_getElem hpos
  have hb:=s[0].toNat_lt
  generalize s[0]=b at *
  have hb256:b.toNat<256:=hb
  refine enT Tryz.func45 Tryz.ntmps45 fun v0=>?_
  by_cases hc:64<b.toNat∨s.length<b.toNat+3
  ·rw [scan_none (nx_large hg hc)]
   repeat' first|refine w9x ?_|(refine w9c ?_ ?_<;>intro _<;>try exact w9o)|fail
   all_goals first|(exfalso;omega)|contradiction|(exact .mkL rfl (le_tup2 .nil (.refl _)) rfl)
  ·obtain⟨t1,t2⟩:=nx_frame hg (by omega) (by omega)
   have hR:(s.take ((1:Int)+(b.toNat:Int)).toNat).drop (1:Int).toNat=(s.take (b.toNat+1)).drop 1:=by
    rw [show((1:Int)+(b.toNat:Int)).toNat=b.toNat+1 by omega];rfl
   have hT:s.take ((b.toNat:Int)+3).toNat=s.take (b.toNat+3):=by
    rw [show((b.toNat:Int)+3).toNat=b.toNat+3 by omega]
   have hD:s.drop ((b.toNat:Int)+3).toNat=s.drop (b.toNat+3):=by
    rw [show((b.toNat:Int)+3).toNat=b.toNat+3 by omega]
   have hrl:((s.take (b.toNat+1)).drop 1).length=b.toNat:=by rw [List.length_drop,List.length_take];omega
   have hF:=frameOf_spec ((s.take ((1:Int)+(b.toNat:Int)).toNat).drop (1:Int).toNat) (by rw [hR,hrl];omega)
   rw [← hR,←hT] at t1 t2
   have hI:=ih (s.drop ((b.toNat:Int)+3).toNat) (by rw [hD,List.length_drop];omega) (by omega)
   by_cases hf:frm ((s.take ((1:Int)+(b.toNat:Int)).toNat).drop (1:Int).toNat)=s.take ((b.toNat:Int)+3).toNat
   ·have hsc:=scan_some (t1 hf)
    rw [hR,hrl,←hD] at hsc
    have hzl:=scan_len _ (s.drop ((b.toNat:Int)+3).toNat) (Nat.le_refl _)
    have hle:=scan_le _ (s.drop ((b.toNat:Int)+3).toNat) (Nat.le_refl _)
    have hdl:(s.drop ((b.toNat:Int)+3).toNat).length≤s.length:=by rw [hD,List.length_drop];omega
    rw [hsc,←hR]
    generalize scan (s.drop ((b.toNat:Int)+3).toNat)=z at *
    obtain⟨zl,zk⟩:=z
    dsimp only at *
    clear t1 t2 hsc
    repeat' first|refine w9x ?_|refine w9p (hF) ?_|refine w9p (hI) ?_|(refine w9c ?_ ?_<;>intro _<;>try exact w9o)|fail
    all_goals first|(exfalso;omega)|contradiction|skip
    exact .mk rfl (by rw [show(zk:Int)+(b.toNat:Int)+3=((zk+(b.toNat+3):Nat):Int) by omega];rfl) rfl
   ·rw [scan_none (t2 hf)]
    clear t1 t2
    repeat' first|refine w9x ?_|refine w9p (hF) ?_|(refine w9c ?_ ?_<;>intro _<;>try exact w9o)|fail
    all_goals first|(exfalso;omega)|contradiction|(exact .mkL rfl (le_tup2 .nil (.refl _)) rfl)
end Go.Proofs.YtkkcnppgcnmikaaGreatDoor
