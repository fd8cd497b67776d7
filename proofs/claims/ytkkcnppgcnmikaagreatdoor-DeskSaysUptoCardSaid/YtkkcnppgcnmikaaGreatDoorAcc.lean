/- Accounts: Check, and the reference's error. -/
import Derived.Test.YtkkcnppgcnmikaaGreatDoorAcb
import Derived.Test.YtkkcnppgcnmikaaGreatDoorAbb
import Derived.MapKept
namespace Go.Proofs.YtkkcnppgcnmikaaGreatDoor
open Go FM Go.Proofs
set_option maxRecDepth 10000
set_option maxHeartbeats 3200000
set_option linter.all false
def acR:Str→List Ac→Int
 | _,[]=>0
 | last,a::r=>if nmB a.1=false∨(a.1<last∨a.1=last) then 3 else if (wiB a.2.1&&(wiB a.2.2.1&&true))=false then 1 else acR a.1 r
def acE(l:List Ac):Int:=if 6<l.length then 2 else acR [] l
def prv(l:List Ac):Nat→Str
 | 0=>[]
 | k+1=>(l.getD k ([],0,0,())).1
theorem prv_succ{l:List Ac}{k:Nat}(h:k<l.length):prv l (k+1)=l[k].1:=by
 show(l.getD k ([],0,0,())).1=_
 rw [List.getD_eq_getElem?_getD,List.getElem?_eq_getElem h];rfl
theorem acR_drop{l:List Ac}{k:Nat}(h:k<l.length):acR (prv l k) (l.drop k)=if nmB l[k].1=false∨(l[k].1<prv l k∨l[k].1=prv l k) then 3 else if (wiB l[k].2.1&&(wiB l[k].2.2.1&&true))=false then 1 else acR (prv l (k+1)) (l.drop (k+1)):=by
 rw [List.drop_eq_getElem_cons h,prv_succ h];rfl
theorem nmB_ne{s:Str}(h:nmB s=true):¬ (s<[]∨s=[]):=by
 rintro(h'|h')
 ·cases s<;>cases h'
 ·subst h';cases h
structure AcL(l:List Ac):Prop where
 len:l.length≤9223372036854775807
 str:∀ a∈l,a.1.length≤9223372036854775807
theorem check_spec(l:List Ac)(h:AcL l):FnSpec Sy.P 102 [.sl false 3 (l.map acA)] [.sl false 3 (l.map acA)] (.int (acE l)):=by
 have hl:=h.len
 refine enT Tryz.func102 Tryz.ntmps102 fun v0=>?_
 by_cases h6:6<l.length
 ·rw [show acE l=2 from if_pos h6]
  repeat' first|refine w9x ?_|(refine w9c ?_ ?_<;>intro _<;>try exact w9o)|fail
  all_goals exact w9e
 rw [show acE l=acR [] l from if_neg h6]
 repeat' first|refine w9x ?_|(refine w9c ?_ ?_<;>intro _<;>try exact w9o)|fail
 all_goals try exact w9o
 refine CW.loop (fun k:Nat=>[(0,.av (.sl false 3 (l.map acA))),(8,.av (.sl false 3 (l.map acA))),(9,.av (.int (l.length))),(10,.av (.int (k)))]) (fun k=>k≤l.length∧acR [] l=acR (prv l k) (l.drop k)) (fun k=>l.length-k) (0) ?_ (w9a) ?_
 ·exact⟨Nat.zero_le _,rfl⟩
 intro k ⟨hk,ha⟩
 by_cases hkl:k<l.length
 ·have hx:l[k]?=some l[k]:=List.getElem?_eq_getElem hkl
  have hN:=named_spec l[k].1 (h.str _ (List.getElem_mem hkl))
  rw [acR_drop hkl] at ha
  have hpv:=prv_succ hkl
  rw [hpv] at ha
  generalize l[k]=a at *
  cases b1:nmB a.1 with
  | false =>
   rw [b1] at hN
   rw [if_pos (.inl b1)] at ha
   rw [ha]
   repeat' first|refine w9x ?_|refine w9p (hN) ?_|(refine w9c ?_ ?_<;>intro _<;>try exact w9o)|fail
   all_goals exact w9e
  | true =>
   rw [b1] at hN
   have fin:(if (wiB a.2.1&&(wiB a.2.2.1&&true))=false then(1:Int) else acR a.1 (l.drop (k+1)))=if a.2.1<0∨1000000<a.2.1∨a.2.2.1<0∨1000000<a.2.2.1 then 1 else acR a.1 (l.drop (k+1)):=by
    by_cases c:a.2.1<0∨1000000<a.2.1∨a.2.2.1<0∨1000000<a.2.2.1
    ·rw [if_pos c,if_pos (by simp only [Bool.and_true,Bool.and_eq_false_iff,wiB_no];omega)]
    ·rw [if_neg c,if_neg (by simp only [Bool.and_true,Bool.and_eq_false_iff,wiB_no];omega)]
   rw [fin] at ha
   cases k with
   | zero =>
    have hne:=nmB_ne b1
    rw [if_neg (by rintro(h|h);rw [b1] at h;cases h;exact hne h)] at ha
    by_cases c:a.2.1<0∨1000000<a.2.1∨a.2.2.1<0∨1000000<a.2.2.1
    ·rw [if_pos c] at ha
     rw [ha]
     repeat' first|refine w9x ?_|refine w9p (hN) ?_|(refine w9c ?_ ?_<;>intro _<;>try exact w9o)|fail
     all_goals exact w9e
    ·rw [if_neg c] at ha
     repeat' first|refine w9x ?_|refine w9p (hN) ?_|(refine w9c ?_ ?_<;>intro _<;>try exact w9o)|fail
     all_goals first|(exfalso;omega)|(exfalso;contradiction)|skip
     refine⟨0+1,?_,w9n,w9a⟩
     exact⟨by omega,by rw [hpv];exact ha⟩
   | succ k =>
    have hk2:k<l.length:=by omega
    have hp:l[(((k+1:Nat):Int)-1).toNat]?=some l[k]:=by rw [show(((k+1:Nat):Int)-1).toNat=k by omega];exact List.getElem?_eq_getElem hk2
    have hpp:=prv_succ hk2
    rw [hpp] at ha
    generalize l[k]=a0 at *
    by_cases b2:a.1<a0.1∨a.1=a0.1
    ·rw [if_pos (.inr b2)] at ha
     rw [ha]
     repeat' first|refine w9x ?_|refine w9p (hN) ?_|(refine w9c ?_ ?_<;>intro _<;>try exact w9o)|fail
     all_goals exact w9e
    ·rw [if_neg (by rintro(h|h);rw [b1] at h;cases h;exact b2 h)] at ha
     by_cases c:a.2.1<0∨1000000<a.2.1∨a.2.2.1<0∨1000000<a.2.2.1
     ·rw [if_pos c] at ha
      rw [ha]
      repeat' first|refine w9x ?_|refine w9p (hN) ?_|(refine w9c ?_ ?_<;>intro _<;>try exact w9o)|fail
      all_goals exact w9e
     ·rw [if_neg c] at ha
      repeat' first|refine w9x ?_|refine w9p (hN) ?_|(refine w9c ?_ ?_<;>intro _<;>try exact w9o)|fail
      all_goals first|(exfalso;omega)|(exfalso;contradiction)|skip
      refine⟨k+1+1,?_,w9n,w9a⟩
      exact⟨by omega,by rw [hpv];exact ha⟩
 ·obtain rfl:l.length=k:=by omega
  rw [List.drop_length] at ha
  rw [ha]
  repeat' first|refine w9x ?_|(refine w9c ?_ ?_<;>intro _<;>try exact w9o)|fail
  exact .mk rfl rfl rfl
theorem accErr_spec(l:List Ac)(h:AcL l):FnSpec Sy.P 77 [.sl false 3 (l.map acA)] [.sl false 3 (l.map acA)] (.int (acE l)):=by
 have hl:=h.len
 refine enT Tryz.func77 Tryz.ntmps77 fun v0=>?_
 by_cases h6:6<l.length
 ·rw [show acE l=2 from if_pos h6]
  repeat' first|refine w9x ?_|(refine w9c ?_ ?_<;>intro _<;>try exact w9o)|(refine w9d ?_ ?_<;>intro _<;>try exact w9s)|fail
  all_goals exact w9e
 rw [show acE l=acR [] l from if_neg h6]
 repeat' first|refine w9x ?_|(refine w9c ?_ ?_<;>intro _<;>try exact w9o)|(refine w9d ?_ ?_<;>intro _<;>try exact w9s)|fail
 all_goals try exact w9o
 refine CW.loop (fun k:Nat=>[(3,.av (.str (prv l k))),(9,.av (.sl false 3 (l.map acA))),(10,.av (.int (l.length))),(11,.av (.int (k)))]) (fun k=>k≤l.length∧acR [] l=acR (prv l k) (l.drop k)) (fun k=>l.length-k) (0) ?_ (w9a) ?_
 ·exact⟨Nat.zero_le _,rfl⟩
 intro k ⟨hk,ha⟩
 by_cases hkl:k<l.length
 ·have hx:l[k]?=some l[k]:=List.getElem?_eq_getElem hkl
  have hN:=namedR_spec l[k].1 (h.str _ (List.getElem_mem hkl))
  have hW:=within_spec [l[k].2.1,l[k].2.2.1] (by simp)
  rw [acR_drop hkl] at ha
  have hpv:=prv_succ hkl
  rw [hpv] at ha
  generalize l[k]=a at *
  simp only [List.all_cons,List.all_nil] at hW
  generalize prv l k=last at *
  cases b1:nmB a.1 with
  | false =>
   rw [b1] at hN
   rw [if_pos (.inl b1)] at ha
   rw [ha]
   repeat' first|refine w9x ?_|refine w9p (hN) ?_|refine w9p (hW) ?_|(refine w9c ?_ ?_<;>intro _<;>try exact w9o)|(refine w9d ?_ ?_<;>intro _<;>try exact w9s)|fail
   all_goals exact w9e
  | true =>
   rw [b1] at hN
   by_cases b2:a.1<last∨a.1=last
   ·rw [if_pos (.inr b2)] at ha
    rw [ha]
    repeat' first|refine w9x ?_|refine w9p (hN) ?_|refine w9p (hW) ?_|(refine w9c ?_ ?_<;>intro _<;>try exact w9o)|(refine w9d ?_ ?_<;>intro _<;>try exact w9s)|fail
    all_goals exact w9e
   ·rw [if_neg (by rintro(h|h);rw [b1] at h;cases h;exact b2 h)] at ha
    generalize (wiB a.2.1&&(wiB a.2.2.1&&true))=wb at *
    cases wb with
    | false =>
     rw [if_pos rfl] at ha
     rw [ha]
     repeat' first|refine w9x ?_|refine w9p (hN) ?_|refine w9p (hW) ?_|(refine w9c ?_ ?_<;>intro _<;>try exact w9o)|(refine w9d ?_ ?_<;>intro _<;>try exact w9s)|fail
     all_goals exact w9e
    | true =>
     rw [if_neg (by simp)] at ha
     repeat' first|refine w9x ?_|refine w9p (hN) ?_|refine w9p (hW) ?_|(refine w9c ?_ ?_<;>intro _<;>try exact w9o)|(refine w9d ?_ ?_<;>intro _<;>try exact w9s)|fail
     all_goals first|(exfalso;omega)|(exfalso;contradiction)|skip
     refine⟨k+1,?_,w9n,by(repeat' (first|exact w9b|refine And.intro ?_ ?_|(rw [hpv];rfl)))⟩
     exact⟨by omega,by rw [hpv];exact ha⟩
 ·obtain rfl:l.length=k:=by omega
  rw [List.drop_length] at ha
  rw [ha]
  repeat' first|refine w9x ?_|(refine w9c ?_ ?_<;>intro _<;>try exact w9o)|(refine w9d ?_ ?_<;>intro _<;>try exact w9s)|fail
  exact .mk rfl rfl rfl
noncomputable def fnAc (D:Ac→Prop) (p:Ac→Bool):AV:=.fn (BehA Sy.P (fun ws=>∃ a,ws=[acA a]∧D a) (fun ws=>match ws with|[.agg [.str s,.int m,.int n]]=>.bool (p (s,m,n,()))|_=>.bool false))
theorem cloAc{m:Nat}{v:Nat→Value}{N:Nat}{σ:St}{f t:Nat}{caps:List Nat}{zs:List AV}{D:Ac→Prop}{p:Ac→Bool}(ht:FM.get σ t=.clo f caps)(hc:CapsOk σ caps zs)(hf:FnOk Sy.P f)(hs:∀ x,D x→FnSpec Sy.P f (acA x::zs) (acA x::zs) (.bool (p x))):ArgOk (Sy.fixed m v) N σ (.tmp t) true (fnAc D p) :=
 .clo rfl ht hc hf (fun ws hd=>by obtain⟨x,rfl,hx⟩:=hd;exact hs x hx) (fun ws hd=>by obtain⟨x,rfl,hx⟩:=hd;rfl)
theorem indexAc_spec(l:List Ac)(D:Ac→Prop)(p:Ac→Bool)(hl:l.length≤9223372036854775807)(hD:∀ x∈l,D x):FnSpec Sy.P 74 [.sl false 3 (l.map acA),fnAc D p] [.sl false 3 (l.map acA),fnAc D p] (.int (fidx p l 0)):=by
 refine enT Tryz.func74 Tryz.ntmps74 fun v0=>?_
 repeat' first|refine w9x ?_|(refine w9c ?_ ?_<;>intro _<;>try exact w9o)|(refine w9d ?_ ?_<;>intro _<;>try exact w9s)|fail
 refine CW.loop (fun k:Nat=>[(0,.av (.sl false 3 (l.map acA))),(1,.av (fnAc D p)),(7,.av (.int (l.length))),(8,.av (.int (k)))]) (fun k=>k≤l.length∧fidx p l 0=fidx p (l.drop k) k) (fun k=>l.length-k) (0) ?_ (w9a) ?_
 ·exact⟨Nat.zero_le _,rfl⟩
 intro k ⟨hk,hp⟩
 by_cases hlt:k<l.length
 ·have hx:l[k]?=some l[k]:=List.getElem?_eq_getElem hlt
  have hd:D l[k]:=hD _ (List.getElem_mem hlt)
  rw [fidx_drop hlt] at hp
  have hres:(AV.bool (p (l[k].1,l[k].2.1,l[k].2.2.1,())))=.bool (p l[k]):=rfl
  cases hb:p l[k] with
  | true =>
   rw [hb,cond_true] at hp
   rw [hb] at hres
   rw [hp]
   repeat' first|refine w9x ?_|(refine J.callF [acA l[k]] rfl rfl rfl ⟨_,rfl,hd⟩ (by exact w9A) (by first|assumption|rfl|simp) rfl ?_)|(refine J.callFQ [acA l[k]] rfl rfl rfl ⟨_,rfl,hd⟩ (by exact w9A) (by first|assumption|rfl|simp) rfl ?_)|(refine w9c ?_ ?_<;>intro _<;>try exact w9o)|(refine w9d ?_ ?_<;>intro _<;>try exact w9s)|fail
   all_goals first|(rw [hb] at *;contradiction)|exact .mk rfl rfl rfl
  | false =>
   rw [hb,cond_false] at hp
   rw [hb] at hres
   repeat' first|refine w9x ?_|(refine J.callF [acA l[k]] rfl rfl rfl ⟨_,rfl,hd⟩ (by exact w9A) (by first|assumption|rfl|simp) rfl ?_)|(refine J.callFQ [acA l[k]] rfl rfl rfl ⟨_,rfl,hd⟩ (by exact w9A) (by first|assumption|rfl|simp) rfl ?_)|(refine w9c ?_ ?_<;>intro _<;>try exact w9o)|(refine w9d ?_ ?_<;>intro _<;>try exact w9s)|fail
   all_goals first|(rw [hb] at *;contradiction)|skip
   refine⟨k+1,?_,w9n,w9a⟩
   exact⟨by omega,hp⟩
 ·obtain rfl:k=l.length:=by omega
  rw [fidx_end] at hp
  rw [hp]
  repeat' first|refine w9x ?_|(refine w9c ?_ ?_<;>intro _<;>try exact w9o)|(refine w9d ?_ ?_<;>intro _<;>try exact w9s)|fail
  exact .mk rfl rfl rfl
theorem find1_spec(a:Ac)(s:Str):FnSpec Sy.P 164 [acA a,.pt false [.str s]] [acA a,.pt false [.str s]] (.bool (decide (a.1=s))):=by
 refine enT Tryz.func164 Tryz.ntmps164 fun v0=>?_
 repeat' first|refine w9x ?_|fail
 exact .mk rfl rfl rfl
theorem acc1_spec(a:Ac)(s:Str):FnSpec Sy.P 87 [acA a,.pt false [.str s]] [acA a,.pt false [.str s]] (.bool (decide (a.1=s))):=by
 refine enT Tryz.func87 Tryz.ntmps87 fun v0=>?_
 repeat' first|refine w9x ?_|fail
 exact .mk rfl rfl rfl
theorem find1_arg{s:Str}{m:Nat}{v:Nat→Value}{N:Nat}{σ:St}{t q:Nat}(ht:FM.get σ t=.clo 164 [q])(h1:FM.get σ q=.av (.pt true [.str s])):ArgOk (Sy.fixed m v) N σ (.tmp t) true (fnAc (fun _=>True) fun a=>decide (a.1=s)) :=
 cloAc (zs:=[.pt false [.str s]]) ht (.cons h1 rfl .nil) (find1_spec ([],0,0,()) []).ok fun x _=>find1_spec x s
theorem acc1_arg{s:Str}{m:Nat}{v:Nat→Value}{N:Nat}{σ:St}{t q:Nat}(ht:FM.get σ t=.clo 87 [q])(h1:FM.get σ q=.av (.pt true [.str s])):ArgOk (Sy.fixed m v) N σ (.tmp t) true (fnAc (fun _=>True) fun a=>decide (a.1=s)) :=
 cloAc (zs:=[.pt false [.str s]]) ht (.cons h1 rfl .nil) (acc1_spec ([],0,0,()) []).ok fun x _=>acc1_spec x s
def fA(l:List Ac)(s:Str):Int:=fidx (fun a=>decide (a.1=s)) l 0
theorem find_spec(l:List Ac)(s:Str)(hl:l.length≤9223372036854775807):FnSpec Sy.P 103 [.sl false 3 (l.map acA),.str s] [.sl false 3 (l.map acA),.str s] (.int (fA l s)):=by
 have hI:=indexAc_spec l (fun _=>True) (fun a=>decide (a.1=s)) hl (fun _ _=>trivial)
 refine enT Tryz.func103 Tryz.ntmps103 fun v0=>?_
 repeat' first|((with_reducible apply J.step);rfl;(exact s_mkf (caps:=[3]) rfl rfl))|refine w9x ?_|((with_reducible first|apply J.callP (hI)|apply J.callPQ (hI));rfl;rfl;(repeat' (first|exact ArgsOk.nil|exact find1_arg rfl rfl|apply ArgsOk.cons|exact ArgOk.pl rfl rfl|exact ArgOk.br rfl AV.noConfusion (by first|rfl|exact sh_int|exact sh_rows|exact sh_rowsO|exact sh_box|exact sh_map (fun _=>rfl))));(first|rfl|exact gn0|exact gnI))
 exact .mk rfl rfl rfl
theorem accOf_spec(l:List Ac)(s:Str)(hl:l.length≤9223372036854775807):FnSpec Sy.P 40 [.sl false 3 (l.map acA),.str s] [.sl false 3 (l.map acA),.str s] (.int (fA l s)):=by
 have hI:=indexAc_spec l (fun _=>True) (fun a=>decide (a.1=s)) hl (fun _ _=>trivial)
 refine enT Tryz.func40 Tryz.ntmps40 fun v0=>?_
 repeat' first|((with_reducible apply J.step);rfl;(exact s_mkf (caps:=[3]) rfl rfl))|refine w9x ?_|((with_reducible first|apply J.callP (hI)|apply J.callPQ (hI));rfl;rfl;(repeat' (first|exact ArgsOk.nil|exact acc1_arg rfl rfl|apply ArgsOk.cons|exact ArgOk.pl rfl rfl|exact ArgOk.br rfl AV.noConfusion (by first|rfl|exact sh_int|exact sh_rows|exact sh_rowsO|exact sh_box|exact sh_map (fun _=>rfl))));(first|rfl|exact gn0|exact gnI))
 exact .mk rfl rfl rfl
theorem cloneAc_spec(l:List Ac)(hl:l.length≤1000000):FnSpec Sy.P 49 [.sl false 3 (l.map acA)] [.sl false 3 (l.map acA)] (.sl true 3 (l.map acA)):=by
 refine enT Tryz.func49 Tryz.ntmps49 fun v0=>?_
 repeat' first|refine w9x ?_|(refine w9d ?_ ?_<;>intro _<;>try exact w9s)|(refine w9q ?_;intro bnil hbnil)|fail
 ·by_cases h:l=[]
  ·subst h
   exact .mkL rfl .nil rfl
  ·have:=hbnil (by simpa using h)
   simp_all
 ·exact .mk rfl rfl rfl
end Go.Proofs.YtkkcnppgcnmikaaGreatDoor
namespace FM
open Go Go.RowKit
set_option linter.unusedVariables false
theorem e_stFS{S:Sys}{σ:St}{t:Nat}{ti:TI}{x v:Operand}{s e off c:Nat}{y0 z:AV}{xs cs:List AV}{ty:Nat}{pos:String}{aft:Array Edge}{g:Option (Nat×Bool)}(hx:ov σ x=.fpt s (e*c+off) y0)(hs:FM.get σ s=.av (.sl true c xs))(hxe:xs[e]?=some (.agg cs))(hoff:off<cs.length)(hT:S.T t=some ti)(hv:ov σ v=.av z)(hz:z.isOwn=false)(hok:z.varOk=true)(h1:z.cells=[z])(hc2:Nat.beq ti.size 1=true) :
  EStep S ⟨none,.store t x v,ty,pos,aft,g⟩ σ (σ.upd false s (.av (.sl true c (xs.set e (.agg (cs.set off z)))))):=by
 intro w0 L0 N a w _ ⟨L,hR⟩
 have hc3:=Nat.eq_of_beq_eq_true hc2
 obtain⟨_,⟨b,hL,hp,_⟩,_⟩:=hold_plain hR hx (by simp)
 have hsN:=own_lt hR hs (by simp)
 have hh:=hR.hold s hsN
 rw [hs] at hh
 simp only [Hold] at hh
 obtain⟨v1,v2,v3⟩:=val_cells hR hv hz hok
 rw [h1] at v1
 have v1:(a.eval v).cells.size=1:=v1
 obtain⟨u0,hu0,hru0⟩:=v3 0 z (by rw [h1];rfl)
 have hlt:e<xs.length:=(List.getElem?_eq_some_iff.1 hxe).1
 generalize hsv:a.tmps.getD s undef=sv at hh
 cases hh with
 | slE h=>simp at hxe
 | @slO p _ _ b' cap arr ee u hL' hb hcap hsz hcx hcell hr =>
  have:=hR.lok.inj _ _ _ hL hL'
  subst this
  have hcl:cs.length=c:=hcx _ (List.mem_of_getElem? hxe)
  have hmul:(e+1)*c≤cap*c:=Nat.mul_le_mul_right _ (by omega)
  rw [Nat.add_mul,Nat.one_mul] at hmul
  obtain⟨A,hrun,hAsz,harr⟩:∃ A:Array Value,(Instr.storeAt t (.pointer (some ⟨b,e*c+off,none⟩)) (a.eval v)).run S.P w=.ok () (w.setRow b A)∧A.size=arr.size∧∀ j,A[j]?=if e*c+off≤j∧j<e*c+off+(a.eval v).cells.size then(a.eval v).cells[j-(e*c+off)]? else arr[j]? :=
   ⟨_,run_store_at (S:=S) hT (off:=e*c+off) (v:=a.eval v) hb (by omega) v2 (by omega),by simp;omega,fun j=>by
    have:=getElem?_splice arr.toList (a.eval v).cells.toList (e*c+off) j (by simp;omega)
    simpa using this⟩
  have hother:∀ k,k≠b→(w.setRow b A).heap[k]?=w.heap[k]?:=fun k hk=>setRow_other w b k A hk
  have hnew:=setRow_heap w b arr A ee (0,0) hb
  have hsz':(w.setRow b A).heap.size=w.heap.size:=by simp
  refine⟨undef,w.setRow b A,.inr ⟨by simp only [execOp,hp,Sem.run_bind,hrun];rfl,rfl⟩,L,hR.write (b:=b) (q0:=[]) hsN hL hsz' rfl rfl rfl hother ?_ false (fun h=>by cases h)⟩
  have ho:(w.setRow b A).os=w.os:=rfl
  have ht:(w.setRow b A).tape=w.tape:=rfl
  have hu:(w.setRow b A).output=w.output:=rfl
  rw [hsv]
  generalize w.setRow b A=W at hrun hother hnew hsz' ho ht hu
  have hlen:(xs.set e (.agg (cs.set off z))).length=xs.length:=by simp
  have hslots:∀ π (y:AV) (u:Value),Rep L w π y u→(∀ p',π=some p'→∃ o q,p'=[s]++o::q)→Rep L W π y u:=fun π y u h hπ =>
   h.frame (by omega) ho ht hu (fun k hk _=>⟨hk,hother k (fun e=>by subst e;rw [hL] at hk;cases hk)⟩) π fun p' hp'=>⟨p',hp',fun k q hk=>⟨hk,hother k (fun e=>by
    subst e
    obtain⟨o,q',rfl⟩:=hπ p' hp'
    rw [hL] at hk;injection hk with hk
    have:=congrArg List.length hk
    simp at this)⟩⟩
  rw [← hlen]
  refine .slO (fun o=>(A[o]?).getD undef) hL hnew (by rw [hlen];exact hcap) (by rw [hAsz];exact hsz) (fun y hy=>?_) (fun o ho=>?_) (fun o y hy=>?_)
  ·rcases List.mem_or_eq_of_mem_set hy with h|h
   ·exact hcx y h
   ·rw [h];show(cs.set off z).length=c;rw [List.length_set];exact hcl
  ·have hlt:o<A.size:=by
    rw [hAsz,hsz]
    rw [hlen] at ho
    exact Nat.lt_of_lt_of_le ho (Nat.mul_le_mul_right _ hcap)
   simp [hlt]
  ·rw [harr,v1]
   have old:∀ y,(flat xs)[o]?=some y→¬ (e*c+off≤o∧o<e*c+off+1)→Rep L W (some ([s]++[o])) y (((if e*c+off≤o∧o<e*c+off+1 then(a.eval v).cells[o-(e*c+off)]? else arr[o]?)).getD undef):=fun y h2 hno=>by
    have ho:o<xs.length*c:=by rw [← flat_length hcx];exact(List.getElem?_eq_some_iff.1 h2).1
    rw [if_neg hno,hcell o ho]
    exact hslots _ y _ (hr o y h2) (fun p hp=>by cases hp;exact⟨o,[],rfl⟩)
   rcases flat_set hcx (show(AV.agg (cs.set off z)).cells.length=c by show(cs.set off z).length=c;rw [List.length_set];exact hcl) o y hy with⟨g1,g2,g3,g4⟩|⟨g1,g2⟩
   ·have g4:(cs.set off z)[o-e*c]?=some y:=g4
    rw [List.getElem?_set] at g4
    by_cases e1:off=o-e*c
    ·rw [if_pos e1,if_pos hoff] at g4
     cases g4
     rw [if_pos (by omega),show o-(e*c+off)=0 by omega,hu0]
     exact(hslots none z u0 hru0 (fun p hp=>by cases hp)).any _
    ·rw [if_neg e1] at g4
     have:=flat_get (j:=o-e*c) hcx hxe (show(AV.agg cs).cells[o-e*c]?=some y from g4)
     rw [show e*c+(o-e*c)=o by omega] at this
     exact old y this (by omega)
   ·exact old y g2 (by omega)
end FM
namespace Go.Proofs.YtkkcnppgcnmikaaGreatDoor
open Go FM Go.Proofs
set_option linter.all false
theorem e_stMo{S:FM.Sys}{σ:FM.St}{t:Nat}{ti:TI}{x v:Operand}{s e:Nat}{y0:AV}{l:List Ac}{a:Ac}{n:Int}{ty:Nat}{pos:String}{aft:Array Edge}{g:Option (Nat×Bool)}(hx:ov σ x=.fpt s (e*3+1) y0)(hs:FM.get σ s=.av (.sl true 3 (l.map acA)))(ha:l[e]?=some a)(hT:S.T t=some ti)(hv:ov σ v=.av (.int n))(hc2:Nat.beq ti.size 1=true) :
  EStep S ⟨none,.store t x v,ty,pos,aft,g⟩ σ (σ.upd false s (.av (.sl true 3 ((l.set e (a.1,n,a.2.2.1,())).map acA)))):=by
 have:=e_stFS (S:=S) (ty:=ty) (pos:=pos) (aft:=aft) (g:=g) (t:=t) (v:=v) (z:=.int n) hx hs (cs:=[.str a.1,.int a.2.1,.int a.2.2.1]) (by rw [List.getElem?_map,ha];rfl) (by simp) hT hv rfl rfl rfl hc2
 rw [List.map_set]
 exact this
theorem e_stNu{S:FM.Sys}{σ:FM.St}{t:Nat}{ti:TI}{x v:Operand}{s e:Nat}{y0:AV}{l:List Ac}{a:Ac}{n:Int}{ty:Nat}{pos:String}{aft:Array Edge}{g:Option (Nat×Bool)}(hx:ov σ x=.fpt s (e*3+2) y0)(hs:FM.get σ s=.av (.sl true 3 (l.map acA)))(ha:l[e]?=some a)(hT:S.T t=some ti)(hv:ov σ v=.av (.int n))(hc2:Nat.beq ti.size 1=true) :
  EStep S ⟨none,.store t x v,ty,pos,aft,g⟩ σ (σ.upd false s (.av (.sl true 3 ((l.set e (a.1,a.2.1,n,())).map acA)))):=by
 have:=e_stFS (S:=S) (ty:=ty) (pos:=pos) (aft:=aft) (g:=g) (t:=t) (v:=v) (z:=.int n) hx hs (cs:=[.str a.1,.int a.2.1,.int a.2.2.1]) (by rw [List.getElem?_map,ha];rfl) (by simp) hT hv rfl rfl rfl hc2
 rw [List.map_set]
 exact this
end Go.Proofs.YtkkcnppgcnmikaaGreatDoor
namespace Go.Proofs.YtkkcnppgcnmikaaGreatDoor
open Go FM
set_option maxRecDepth 10000
set_option linter.all false
theorem str_tri{a b:Str}(h:¬ (a<b∨a=b)):b<a:=by
 have h1:¬ a<b:=fun h'=>h (.inl h')
 have h2:b≤a:=List.not_lt.1 h1
 refine Classical.byContradiction fun hn=>h (.inr ?_)
 exact List.le_antisymm (List.not_lt.1 hn) h2
structure AcOk(l:List Ac):Prop where
 len:l.length≤6
 nm:∀ a∈l,nmB a.1=true
 mo:∀ a∈l,0≤a.2.1∧a.2.1≤1000000
 nu:∀ a∈l,0≤a.2.2.1∧a.2.2.1≤1000000
 srt:l.Pairwise fun a b=>a.1<b.1
theorem acR_zero:∀ {l:List Ac} {last:Str},acR last l=0→(∀ a∈l,nmB a.1=true∧(0≤a.2.1∧a.2.1≤1000000)∧(0≤a.2.2.1∧a.2.2.1≤1000000)∧last<a.1)∧l.Pairwise fun a b=>a.1<b.1
 | [],last,_=>⟨fun a h=>(by cases h),List.Pairwise.nil⟩
 | a::r,last,h=>by
  unfold acR at h
  by_cases c:nmB a.1=false∨(a.1<last∨a.1=last)
  ·rw [if_pos c] at h;cases h
  rw [if_neg c] at h
  by_cases c2:(wiB a.2.1&&(wiB a.2.2.1&&true))=false
  ·rw [if_pos c2] at h;cases h
  rw [if_neg c2] at h
  obtain⟨h1,h2⟩:=acR_zero h
  have c2:(wiB a.2.1&&(wiB a.2.2.1&&true))=true:=by simpa using c2
  rw [Bool.and_true,Bool.and_eq_true,wiB_iff,wiB_iff] at c2
  have hn:nmB a.1=true:=by
   cases e:nmB a.1 with
   | true=>rfl
   | false=>exact absurd (.inl e) c
  have hl:last<a.1:=str_tri fun h=>c (.inr h)
  refine⟨fun b hb=>?_,List.pairwise_cons.2 ⟨fun b hb=>(h1 b hb).2.2.2,h2⟩⟩
  rcases List.mem_cons.1 hb with rfl|hb
  ·exact⟨hn,c2.1,c2.2,hl⟩
  ·obtain⟨g1,g2,g3,g4⟩:=h1 b hb
   exact⟨g1,g2,g3,List.lt_trans hl g4⟩
theorem acE_ok{l:List Ac}(h:acE l=0):AcOk l:=by
 unfold acE at h
 by_cases c:6<l.length
 ·rw [if_pos c] at h;cases h
 rw [if_neg c] at h
 obtain⟨h1,h2⟩:=acR_zero h
 exact⟨by omega,fun a ha=>(h1 a ha).1,fun a ha=>(h1 a ha).2.1,fun a ha=>(h1 a ha).2.2.1,h2⟩
theorem acR_range:∀ (l:List Ac) (last:Str),0≤acR last l∧acR last l≤3
 | [],last=>by simp [acR]
 | a::r,last=>by
  have:=acR_range r a.1
  unfold acR
  repeat' split
  all_goals omega
theorem acE_range(l:List Ac):0≤acE l∧acE l≤3:=by
 have:=acR_range l []
 unfold acE;split<;>omega
theorem dlE_range(d:Dl):0≤dlE d∧dlE d≤3:=by
 unfold dlE;repeat' split
 all_goals omega
structure DlOk(d:Dl):Prop where
 f:nmB d.1=true
 t:nmB d.2.1=true
 ne:d.1≠d.2.1
 num:0≤d.2.2.1∧d.2.2.1≤1000000
 much:0≤d.2.2.2.1∧d.2.2.2.1≤1000000
 fee:0≤d.2.2.2.2.1∧d.2.2.2.2.1≤1000000
 size:1≤d.2.2.2.2.2.1∧d.2.2.2.2.2.1≤100
theorem dlE_ok{d:Dl}(h:dlE d=0):DlOk d:=by
 unfold dlE at h
 by_cases c:nmB d.1=false∨nmB d.2.1=false∨d.1=d.2.1
 ·rw [if_pos c] at h;cases h
 rw [if_neg c] at h
 by_cases c2:(wiB d.2.2.1&&(wiB d.2.2.2.1&&(wiB d.2.2.2.2.1&&true)))=false∨d.2.2.2.2.2.1<1∨100<d.2.2.2.2.2.1
 ·rw [if_pos c2] at h;cases h
 have e1:nmB d.1=true:=by
  cases e:nmB d.1 with
  | true=>rfl
  | false=>exact absurd (.inl e) c
 have e2:nmB d.2.1=true:=by
  cases e:nmB d.2.1 with
  | true=>rfl
  | false=>exact absurd (.inr (.inl e)) c
 have e3:(wiB d.2.2.1&&(wiB d.2.2.2.1&&(wiB d.2.2.2.2.1&&true)))=true:=by
  cases e:(wiB d.2.2.1&&(wiB d.2.2.2.1&&(wiB d.2.2.2.2.1&&true))) with
  | true=>rfl
  | false=>exact absurd (.inl e) c2
 rw [Bool.and_true,Bool.and_eq_true,Bool.and_eq_true,wiB_iff,wiB_iff,wiB_iff] at e3
 exact⟨e1,e2,fun h=>c (.inr (.inr h)),e3.1,e3.2.1,e3.2.2,by omega⟩
/-! ### where an account is -/
theorem fidx_at{α:Type}{p:α→Bool}:∀ {l:List α} {k:Nat},0≤fidx p l k→∃ i:Nat,∃ (h:i<l.length),fidx p l k=((k+i:Nat):Int)∧p l[i]=true
 | [],k,h=>by simp [fidx] at h
 | x::r,k,h=>by
  unfold fidx at h ⊢
  cases hp:p x with
  | true=>exact⟨0,by simp,by rw [cond_true];rfl,hp⟩
  | false =>
   rw [hp,cond_false] at h
   obtain⟨i,hi,e1,e2⟩:=fidx_at h
   refine⟨i+1,by simpa using hi,?_,e2⟩
   rw [cond_false,e1,show k+1+i=k+(i+1) by omega]
theorem fA_at{l:List Ac}{s:Str}(h:0≤fA l s):∃ i:Nat,∃ (h:i<l.length),fA l s=(i:Int)∧l[i].1=s:=by
 obtain⟨i,hi,e1,e2⟩:=fidx_at (p:=fun a:Ac=>decide (a.1=s)) (k:=0) h
 exact⟨i,hi,by unfold fA;rw [e1,Nat.zero_add],of_decide_eq_true e2⟩
theorem fA_range(l:List Ac)(s:Str):-1≤fA l s∧fA l s<l.length:=by
 have:=fidx_range (p:=fun a:Ac=>decide (a.1=s)) (l:=l) (k:=0)
 rw [Nat.zero_add] at this;exact this
theorem set_name{l:List Ac}(h:l.Pairwise fun a b=>a.1<b.1){i:Nat}(hi:i<l.length)(f:Ac→Ac):l.set i (f l[i])=l.map fun a=>if a.1=l[i].1 then f a else a:=by
 refine List.ext_getElem (by simp) fun j h1 h2=>?_
 rw [List.getElem_set,List.getElem_map]
 have hj:j<l.length:=by simpa using h2
 by_cases e:i=j
 ·subst e;rw [if_pos rfl,if_pos rfl]
 ·rw [if_neg e,if_neg]
  intro hn
  rcases Nat.lt_or_gt_of_ne e with h'|h'
  ·have:=List.pairwise_iff_getElem.1 h i j hi hj h'
   rw [hn] at this;exact List.lt_irrefl _ this
  ·have:=List.pairwise_iff_getElem.1 h j i hj hi h'
   rw [hn] at this;exact List.lt_irrefl _ this
def pay1(d:Dl)(a:Ac):Ac:=(a.1,a.2.1-(d.2.2.2.1+d.2.2.2.2.1),a.2.2.1+1,())
def pay2(d:Dl)(a:Ac):Ac:=(a.1,a.2.1+d.2.2.2.1,a.2.2.1,())
def pay3(d:Dl)(a:Ac):Ac:=(a.1,a.2.1+d.2.2.2.2.1,a.2.2.1,())
def if1(d:Dl)(a:Ac):Ac:=if a.1=d.1 then pay1 d a else a
def if2(d:Dl)(a:Ac):Ac:=if a.1=d.2.1 then pay2 d a else a
def if3(d:Dl)(w:Str)(a:Ac):Ac:=if a.1=w then pay3 d a else a
theorem if1_nm{d:Dl}{a:Ac}:(if1 d a).1=a.1:=by unfold if1;split<;>rfl
theorem if2_nm{d:Dl}{a:Ac}:(if2 d a).1=a.1:=by unfold if2;split<;>rfl
theorem if3_nm{d:Dl}{w:Str}{a:Ac}:(if3 d w a).1=a.1:=by unfold if3;split<;>rfl
def tkM(l:List Ac)(d:Dl)(w:Str):List Ac:=l.map fun a=>if3 d w (if2 d (if1 d a))
theorem map_srt{l:List Ac}(h:l.Pairwise fun a b=>a.1<b.1){f:Ac→Ac}(hf:∀ a,(f a).1=a.1):(l.map f).Pairwise fun a b=>a.1<b.1:=by
 rw [List.pairwise_map]
 exact h.imp fun h=>by rw [hf,hf];exact h
def tkE(l:List Ac)(d:Dl)(w:Str):Int :=
 if acE l≠0 then acE l else if dlE d≠0 then dlE d else if fA l d.1<0∨fA l d.2.1<0∨fA l w<0 then 4
 else if d.2.2.1≠(l.getD (fA l d.1).toNat ([],0,0,())).2.2.1 then 6 else if (l.getD (fA l d.1).toNat ([],0,0,())).2.1<d.2.2.2.1+d.2.2.2.2.1 then 11
 else if acE (tkM l d w)≠0 then 8 else 0
theorem tkM_len{l:List Ac}{d:Dl}{w:Str}:(tkM l d w).length=l.length:=List.length_map _
theorem tkM_L{l:List Ac}{d:Dl}{w:Str}(h:AcL l):AcL (tkM l d w):=⟨by rw [tkM_len];exact h.len,fun a ha=>by
 obtain⟨b,hb,rfl⟩:=List.mem_map.1 ha
 rw [if3_nm,if2_nm,if1_nm];exact h.str b hb⟩
end Go.Proofs.YtkkcnppgcnmikaaGreatDoor
namespace Go.Proofs.YtkkcnppgcnmikaaGreatDoor
open Go FM Go.Proofs
set_option maxRecDepth 10000
set_option maxHeartbeats 3200000
set_option linter.all false
theorem tk_facts{l:List Ac}(h:l.Pairwise fun a b=>a.1<b.1){d:Dl}{w:Str}{i j k:Nat}(hi:i<l.length)(hj:j<l.length)(hk:k<l.length){a0 aj ak:Ac}(ha:l[i]?=some a0)(haj:l[j]?=some aj)(hak:l[k]?=some ak)(ei:a0.1=d.1)(ej:aj.1=d.2.1)(ek:ak.1=w) :
  let X1:=(l.set i (a0.1,a0.2.1-(d.2.2.2.1+d.2.2.2.2.1),a0.2.2.1,())).set i (a0.1,a0.2.1-(d.2.2.2.1+d.2.2.2.2.1),a0.2.2.1+1,())
  let b:=if1 d aj
  let X2:=X1.set j (b.1,b.2.1+d.2.2.2.1,b.2.2.1,())
  let c:=if2 d (if1 d ak)
  let X3:=X2.set k (c.1,c.2.1+d.2.2.2.2.1,c.2.2.1,())
  (l.set i (a0.1,a0.2.1-(d.2.2.2.1+d.2.2.2.2.1),a0.2.2.1,()))[i]?=some (a0.1,a0.2.1-(d.2.2.2.1+d.2.2.2.2.1),a0.2.2.1,())∧X1[j]?=some b∧X2[k]?=some c∧X3=tkM l d w:=by
 intro X1 b X2 c X3
 obtain⟨_,ha'⟩:=List.getElem?_eq_some_iff.1 ha
 obtain⟨_,haj'⟩:=List.getElem?_eq_some_iff.1 haj
 obtain⟨_,hak'⟩:=List.getElem?_eq_some_iff.1 hak
 have e1:X1=l.map (if1 d):=by
  show(l.set i _).set i _=_
  rw [List.set_set]
  have:=set_name h hi (pay1 d)
  rw [ha',ei] at this
  exact this
 have s1:X1.Pairwise fun a b=>a.1<b.1:=by rw [e1];exact map_srt h fun a=>if1_nm
 have g1:X1[j]?=some b:=by rw [e1,List.getElem?_map,haj];rfl
 have hj1:j<X1.length:=by rw [e1,List.length_map];exact hj
 have e2:X2=X1.map (if2 d):=by
  have:=set_name s1 hj1 (pay2 d)
  have hb:X1[j]=b:=by obtain⟨_,h⟩:=List.getElem?_eq_some_iff.1 g1;exact h
  rw [hb] at this
  have hn:b.1=d.2.1:=by show(if1 d aj).1=_;rw [if1_nm,ej]
  rw [hn] at this
  exact this
 have s2:X2.Pairwise fun a b=>a.1<b.1:=by rw [e2];exact map_srt s1 fun a=>if2_nm
 have g2:X2[k]?=some c:=by rw [e2,e1,List.getElem?_map,List.getElem?_map,hak];rfl
 have hk2:k<X2.length:=by rw [e2,e1,List.length_map,List.length_map];exact hk
 refine⟨by rw [List.getElem?_set,if_pos rfl,if_pos hi],g1,g2,?_⟩
 have:=set_name s2 hk2 (pay3 d)
 have hc:X2[k]=c:=by obtain⟨_,h⟩:=List.getElem?_eq_some_iff.1 g2;exact h
 rw [hc] at this
 have hn:c.1=w:=by show(if2 d (if1 d ak)).1=_;rw [if2_nm,if1_nm,ek]
 rw [hn] at this
 show X2.set k (pay3 d c)=_
 rw [this,e2,e1,List.map_map,List.map_map]
 rfl
theorem getD_at{l:List Ac}{i:Nat}{a:Ac}(h:l[i]?=some a):l.getD i ([],0,0,())=a:=by rw [List.getD_eq_getElem?_getD,h];rfl
def resA(l:List Ac)(e:Int):AV:=if e=0 then .tup [.sl true 3 (l.map acA),.int 0] else .tup [.nil,.int e]
theorem take_spec(l:List Ac)(d:Dl)(w:Str)(hL:AcL l)(h1:d.1.length≤9223372036854775807)(h2:d.2.1.length≤9223372036854775807):FnSpec Sy.P 56 [.sl false 3 (l.map acA),dlA d,.str w] [.sl false 3 (l.map acA),dlA d,.str w] (resA (tkM l d w) (tkE l d w)):=by
 have hC:=check_spec l hL
 have hR:=right_spec d h1 h2
 have hCr:=acE_range l
 have hRr:=dlE_range d
 unfold tkE resA
 by_cases c1:acE l=0
 ·have hok:=acE_ok c1
  rw [c1] at hC
  rw [if_neg (not_not_intro c1)]
  by_cases c2:dlE d=0
  ·have hdk:=dlE_ok c2
   rw [c2] at hR
   rw [if_neg (not_not_intro c2)]
   have hl6:=hok.len
   have hF1:=find_spec l d.1 hL.len
   have hF2:=find_spec l d.2.1 hL.len
   have hF3:=find_spec l w hL.len
   have r1:=fA_range l d.1
   have r2:=fA_range l d.2.1
   have r3:=fA_range l w
   have k1:=hdk.num;have k2:=hdk.much;have k3:=hdk.fee
   by_cases c3:fA l d.1<0∨fA l d.2.1<0∨fA l w<0
   ·rw [if_pos c3,if_neg (by decide)]
    generalize fA l d.1=x1 at *
    generalize fA l d.2.1=x2 at *
    generalize fA l w=x3 at *
    refine enT Tryz.func56 Tryz.ntmps56 fun v0=>?_
    repeat' first|refine w9x ?_|refine w9p (hC) ?_|refine w9p (hR) ?_|refine w9p (hF1) ?_|refine w9p (hF2) ?_|refine w9p (hF3) ?_|(refine w9c ?_ ?_<;>intro _<;>try exact w9o)|fail
    all_goals exact w9e
   rw [if_neg c3]
   obtain⟨i,hi,e1,n1⟩:=fA_at (l:=l) (s:=d.1) (by omega)
   obtain⟨j,hj,e2,n2⟩:=fA_at (l:=l) (s:=d.2.1) (by omega)
   obtain⟨k,hk,e3,n3⟩:=fA_at (l:=l) (s:=w) (by omega)
   have ga:l[i]?=some l[i]:=List.getElem?_eq_getElem hi
   have gj:l[j]?=some l[j]:=List.getElem?_eq_getElem hj
   have gk:l[k]?=some l[k]:=List.getElem?_eq_getElem hk
   rw [e1] at hF1 ⊢
   rw [e2] at hF2
   rw [e3] at hF3
   rw [Int.toNat_natCast,getD_at ga]
   have m1:=hok.mo _ (List.getElem_mem hi)
   have m2:=hok.nu _ (List.getElem_mem hi)
   have m3:=hok.mo _ (List.getElem_mem hj)
   have m4:=hok.mo _ (List.getElem_mem hk)
   obtain⟨f1,f2,f3,f4⟩:=tk_facts hok.srt hi hj hk ga gj gk n1 n2 n3
   generalize l[i]=a at *
   generalize l[j]=aj at *
   generalize l[k]=ak at *
   by_cases c4:d.2.2.1≠a.2.2.1
   ·rw [if_pos c4,if_neg (by decide)]
    refine enT Tryz.func56 Tryz.ntmps56 fun v0=>?_
    repeat' first|refine w9x ?_|refine w9p (hC) ?_|refine w9p (hR) ?_|refine w9p (hF1) ?_|refine w9p (hF2) ?_|refine w9p (hF3) ?_|(refine w9c ?_ ?_<;>intro _<;>try exact w9o)|fail
    all_goals exact w9e
   rw [if_neg c4]
   by_cases c5:a.2.1<d.2.2.2.1+d.2.2.2.2.1
   ·rw [if_pos c5,if_neg (by decide)]
    refine enT Tryz.func56 Tryz.ntmps56 fun v0=>?_
    repeat' first|refine w9x ?_|refine w9p (hC) ?_|refine w9p (hR) ?_|refine w9p (hF1) ?_|refine w9p (hF2) ?_|refine w9p (hF3) ?_|(refine w9c ?_ ?_<;>intro _<;>try exact w9o)|fail
    all_goals exact w9e
   rw [if_neg c5]
   have b1:-2000000≤(if1 d aj).2.1∧(if1 d aj).2.1≤1000000:=by unfold if1 pay1;split<;>((try dsimp only);omega)
   have b2:-2000000≤(if2 d (if1 d ak)).2.1∧(if2 d (if1 d ak)).2.1≤2000000:=by
    have:-2000000≤(if1 d ak).2.1∧(if1 d ak).2.1≤1000000:=by unfold if1 pay1;split<;>((try dsimp only);omega)
    unfold if2 pay2;split<;>((try dsimp only);omega)
   generalize if1 d aj=b at *
   generalize if2 d (if1 d ak)=c at *
   have hCl:=cloneAc_spec l (by omega)
   have hC2:=check_spec (tkM l d w) (tkM_L hL)
   have hC2r:=acE_range (tkM l d w)
   by_cases c6:acE (tkM l d w)≠0
   ·rw [if_pos c6,if_neg (by decide)]
    generalize acE (tkM l d w)=e6 at *
    rw [← f4] at hC2
    refine enT Tryz.func56 Tryz.ntmps56 fun v0=>?_
    repeat' first|((with_reducible apply J.eff);rfl;(exact e_stMo rfl rfl (by assumption) rfl rfl rfl))|((with_reducible apply J.eff);rfl;(exact e_stNu rfl rfl (by assumption) rfl rfl rfl))|refine w9x ?_|refine w9p (hC) ?_|refine w9p (hR) ?_|refine w9p (hF1) ?_|refine w9p (hF2) ?_|refine w9p (hF3) ?_|refine w9p (hCl) ?_|refine w9p (hC2) ?_|(refine w9c ?_ ?_<;>intro _<;>try exact w9o)|fail
    all_goals exact w9e
   ·rw [if_neg c6,if_pos rfl]
    rw [Classical.not_not.1 c6] at hC2
    rw [← f4] at hC2 ⊢
    refine enT Tryz.func56 Tryz.ntmps56 fun v0=>?_
    repeat' first|((with_reducible apply J.eff);rfl;(exact e_stMo rfl rfl (by assumption) rfl rfl rfl))|((with_reducible apply J.eff);rfl;(exact e_stNu rfl rfl (by assumption) rfl rfl rfl))|refine w9x ?_|refine w9p (hC) ?_|refine w9p (hR) ?_|refine w9p (hF1) ?_|refine w9p (hF2) ?_|refine w9p (hF3) ?_|refine w9p (hCl) ?_|refine w9p (hC2) ?_|(refine w9c ?_ ?_<;>intro _<;>try exact w9o)|fail
    all_goals exact w9e
  ·rw [if_pos c2,if_neg c2]
   generalize dlE d=e at *
   refine enT Tryz.func56 Tryz.ntmps56 fun v0=>?_
   repeat' first|refine w9x ?_|refine w9p (hC) ?_|refine w9p (hR) ?_|(refine w9c ?_ ?_<;>intro _<;>try exact w9o)|fail
   all_goals exact w9e
 ·rw [if_pos c1,if_neg c1]
  generalize acE l=e at *
  refine enT Tryz.func56 Tryz.ntmps56 fun v0=>?_
  repeat' first|refine w9x ?_|refine w9p (hC) ?_|refine w9p (hR) ?_|(refine w9c ?_ ?_<;>intro _<;>try exact w9o)|fail
  all_goals exact w9e
end Go.Proofs.YtkkcnppgcnmikaaGreatDoor
