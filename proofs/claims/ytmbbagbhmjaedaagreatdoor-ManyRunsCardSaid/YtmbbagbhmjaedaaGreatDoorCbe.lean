/- Part of the proof. -/
import Derived.Test.YtmbbagbhmjaedaaGreatDoorCbd
import Derived.Shelf.SlSortCmp.WholeK
set_option linter.all false
set_option maxRecDepth 10000
set_option maxHeartbeats 3200000
namespace Go.Proofs.YtmbbagbhmjaedaaGreatDoor
open Go FM Go.Proofs Tryz
def yf:bd->List Ac->Int
 | _,[]=>0
 | last,a::r=>if gV a.1=false∨(a.1<last∨a.1=last) then 3 else if (jo a.2.1&&(jo a.2.2.1&&true))=false then 1 else yf a.1 r
def eh(l:List Ac):Int:=if 6<l.length then 2 else yf [] l
def Ma(l:List Ac):Nat->bd
 | 0=>[]
 | k+1=>(l.getD k ([],0,0,())).1
theorem nE{l:List Ac}{k:Nat}(h:k<l.length):Ma l (k+1)=l[k].1:=by
 show(l.getD k ([],0,0,())).1=_;rw [ahK,ahn h];rfl
theorem yY{l:List Ac}{k:Nat}(h:k<l.length):yf (Ma l k) (l.drop k)=if gV l[k].1=false∨(l[k].1<Ma l k∨l[k].1=Ma l k) then 3 else if (jo l[k].2.1&&(jo l[k].2.2.1&&true))=false then 1 else yf (Ma l (k+1)) (l.drop (k+1)):=by
 rw [List.drop_eq_getElem_cons h,nE h];rfl
theorem QB{s:bd}(h:gV s=true):¬ (s<[]∨s=[]):=by
 rintro(h'|h')
 ·cases s<;>cases h'
 ·subst h';cases h
structure kz(l:List Ac):Prop where
 len:l.length<=9223372036854775807
 str:∀ a∈l,a.1.length<=9223372036854775807
theorem gX(l:List Ac)(h:kz l):FnSpec Sy.P 130 [.sl false 3 (l.map bz)] [.sl false 3 (l.map bz)] (.int (eh l)):=by
 have hl:=h.len;refine bQ func130 ntmps130 fun v0=>?_;by_cases h6:6<l.length
 ·rw [show eh l=2 from if_pos h6];repeat' first|refine aG ?_|(refine aK ?_ ?_<;>intro _<;>try exact aE)|fail
  all_goals exact bw
 rw [show eh l=yf [] l from if_neg h6];repeat' first|refine aG ?_|(refine aK ?_ ?_<;>intro _<;>try exact aE)|fail
 all_goals try exact aE
 refine CW.loop (fun k:Nat=>[(0,.av (.sl false 3 (l.map bz))),(8,.av (.sl false 3 (l.map bz))),(9,.av (.int (l.length))),(10,.av (.int (k)))]) (fun k=>k<=l.length/\yf [] l=yf (Ma l k) (l.drop k)) (fun k=>l.length-k) (0) ?_ (ck) ?_
 ·exact⟨ahQ _,rfl⟩
 intro k ⟨hk,ha⟩;by_cases gW:k<l.length
 ·have hx:l[k]?=some l[k]:=ahn gW;have hN:=jN l[k].1 (h.str _ (ahB gW));rw [yY gW] at ha;have Ft:=nE gW;rw [Ft] at ha;generalize l[k]=a at *
  cases b1:gV a.1 with
  | false =>
   rw [b1] at hN;rw [if_pos (.inl b1)] at ha;rw [ha];repeat' first|refine aG ?_|refine aF (hN) ?_|(refine aK ?_ ?_<;>intro _<;>try exact aE)|fail
   all_goals exact bw
  | true =>
   rw [b1] at hN;have fin:(if (jo a.2.1&&(jo a.2.2.1&&true))=false then(1:Int) else yf a.1 (l.drop (k+1)))=if a.2.1<0∨1000000<a.2.1∨a.2.2.1<0∨1000000<a.2.2.1 then 1 else yf a.1 (l.drop (k+1)):=by
    by_cases c:a.2.1<0∨1000000<a.2.1∨a.2.2.1<0∨1000000<a.2.2.1
    ·rw [if_pos c,if_pos (by simp only [Bool.and_true,Bool.and_eq_false_iff,wL];omega)]
    ·rw [if_neg c,if_neg (by simp only [Bool.and_true,Bool.and_eq_false_iff,wL];omega)]
   rw [fin] at ha
   cases k with
   | zero =>
    have cr:=QB b1;rw [if_neg (by rintro(h|h);rw [b1] at h;cases h;exact cr h)] at ha;by_cases c:a.2.1<0∨1000000<a.2.1∨a.2.2.1<0∨1000000<a.2.2.1
    ·rw [if_pos c] at ha;rw [ha];repeat' first|refine aG ?_|refine aF (hN) ?_|(refine aK ?_ ?_<;>intro _<;>try exact aE)|fail
     all_goals exact bw
    ·rw [if_neg c] at ha;repeat' first|refine aG ?_|refine aF (hN) ?_|(refine aK ?_ ?_<;>intro _<;>try exact aE)|fail
     all_goals first|(exfalso;omega)|(exfalso;contradiction)|skip
     refine⟨0+1,?_,fM,ck⟩;exact⟨ae,by rw [Ft];exact ha⟩
   | succ k =>
    have SU:k<l.length:=ae;have hp:l[(((k+1:Nat):Int)-1).toNat]?=some l[k]:=by rw [show(((k+1:Nat):Int)-1).toNat=k by omega];exact ahn SU
    have hpp:=nE SU;rw [hpp] at ha;generalize l[k]=a0 at *;by_cases b2:a.1<a0.1∨a.1=a0.1
    ·rw [if_pos (.inr b2)] at ha;rw [ha];repeat' first|refine aG ?_|refine aF (hN) ?_|(refine aK ?_ ?_<;>intro _<;>try exact aE)|fail
     all_goals exact bw
    ·rw [if_neg (by rintro(h|h);rw [b1] at h;cases h;exact b2 h)] at ha;by_cases c:a.2.1<0∨1000000<a.2.1∨a.2.2.1<0∨1000000<a.2.2.1
     ·rw [if_pos c] at ha;rw [ha];repeat' first|refine aG ?_|refine aF (hN) ?_|(refine aK ?_ ?_<;>intro _<;>try exact aE)|fail
      all_goals exact bw
     ·rw [if_neg c] at ha;repeat' first|refine aG ?_|refine aF (hN) ?_|(refine aK ?_ ?_<;>intro _<;>try exact aE)|fail
      all_goals first|(exfalso;omega)|(exfalso;contradiction)|skip
      refine⟨k+1+1,?_,fM,ck⟩;exact⟨ae,by rw [Ft];exact ha⟩
 ·obtain rfl:l.length=k:=ae;rw [List.drop_length] at ha;rw [ha];repeat' first|refine aG ?_|(refine aK ?_ ?_<;>intro _<;>try exact aE)|fail
  exact .mk rfl rfl rfl
theorem iB(l:List Ac)(h:kz l):FnSpec Sy.P 46 [.sl false 3 (l.map bz)] [.sl false 3 (l.map bz)] (.int (eh l)):=by
 have hl:=h.len;refine bQ func46 ntmps46 fun v0=>?_;by_cases h6:6<l.length
 ·rw [show eh l=2 from if_pos h6];repeat' first|refine aG ?_|(refine aK ?_ ?_<;>intro _<;>try exact aE)|(refine l7 ?_ ?_<;>intro _<;>try exact l6)|fail
  all_goals exact bw
 rw [show eh l=yf [] l from if_neg h6];repeat' first|refine aG ?_|(refine aK ?_ ?_<;>intro _<;>try exact aE)|(refine l7 ?_ ?_<;>intro _<;>try exact l6)|fail
 all_goals try exact aE
 refine CW.loop (fun k:Nat=>[(3,.av (.str (Ma l k))),(9,.av (.sl false 3 (l.map bz))),(10,.av (.int (l.length))),(11,.av (.int (k)))]) (fun k=>k<=l.length/\yf [] l=yf (Ma l k) (l.drop k)) (fun k=>l.length-k) (0) ?_ (ck) ?_
 ·exact⟨ahQ _,rfl⟩
 intro k ⟨hk,ha⟩;by_cases gW:k<l.length
 ·have hx:l[k]?=some l[k]:=ahn gW;have hN:=iA l[k].1 (h.str _ (ahB gW));have hW:=kQ [l[k].2.1,l[k].2.2.1] ag;rw [yY gW] at ha;have Ft:=nE gW;rw [Ft] at ha;generalize l[k]=a at *;simp only [List.all_cons,List.all_nil] at hW;generalize Ma l k=last at *
  cases b1:gV a.1 with
  | false =>
   rw [b1] at hN;rw [if_pos (.inl b1)] at ha;rw [ha];repeat' first|refine aG ?_|refine aF (hN) ?_|refine aF (hW) ?_|(refine aK ?_ ?_<;>intro _<;>try exact aE)|(refine l7 ?_ ?_<;>intro _<;>try exact l6)|fail
   all_goals exact bw
  | true =>
   rw [b1] at hN;by_cases b2:a.1<last∨a.1=last
   ·rw [if_pos (.inr b2)] at ha;rw [ha];repeat' first|refine aG ?_|refine aF (hN) ?_|refine aF (hW) ?_|(refine aK ?_ ?_<;>intro _<;>try exact aE)|(refine l7 ?_ ?_<;>intro _<;>try exact l6)|fail
    all_goals exact bw
   ·rw [if_neg (by rintro(h|h);rw [b1] at h;cases h;exact b2 h)] at ha;generalize (jo a.2.1&&(jo a.2.2.1&&true))=wb at *
    cases wb with
    | false =>
     rw [if_pos rfl] at ha;rw [ha];repeat' first|refine aG ?_|refine aF (hN) ?_|refine aF (hW) ?_|(refine aK ?_ ?_<;>intro _<;>try exact aE)|(refine l7 ?_ ?_<;>intro _<;>try exact l6)|fail
     all_goals exact bw
    | true =>
     rw [if_neg ag] at ha;repeat' first|refine aG ?_|refine aF (hN) ?_|refine aF (hW) ?_|(refine aK ?_ ?_<;>intro _<;>try exact aE)|(refine l7 ?_ ?_<;>intro _<;>try exact l6)|fail
     all_goals first|(exfalso;omega)|(exfalso;contradiction)|skip
     refine⟨k+1,?_,fM,by(repeat' (first|exact ky|refine And.intro ?_ ?_|(rw [Ft];rfl)))⟩;exact⟨ae,by rw [Ft];exact ha⟩
 ·obtain rfl:l.length=k:=ae;rw [List.drop_length] at ha;rw [ha];repeat' first|refine aG ?_|(refine aK ?_ ?_<;>intro _<;>try exact aE)|(refine l7 ?_ ?_<;>intro _<;>try exact l6)|fail
  exact .mk rfl rfl rfl
variable {v:Nat->Value}
noncomputable def ud (D:Ac->Prop) (p:Ac->Bool):AV:=.fn (wv Sy.P (fun ws=>∃ a,ws=[bz a]/\D a) (fun ws=>match ws with|[.agg [.str s,.int m,.int n]]=>.bool (p (s,m,n,()))|_=>.bool false))
theorem cloAc{m:Nat}{N:Nat}{σ:St}{f t:Nat}{caps:List Nat}{zs:List AV}{D:Ac->Prop}{p:Ac->Bool}(ht:FM.get σ t=.clo f caps)(hc:iK σ caps zs)(hf:jd Sy.P f)(hs:∀ x,D x->FnSpec Sy.P f (bz x::zs) (bz x::zs) (.bool (p x))):aX (Sy.fixed m v) N σ (.tmp t) true (ud D p) :=
 .clo rfl ht hc hf (fun ws hd=>by obtain⟨x,rfl,hx⟩:=hd;exact hs x hx) (fun ws hd=>by obtain⟨x,rfl,hx⟩:=hd;rfl)
theorem gu(l:List Ac)(D:Ac->Prop)(p:Ac->Bool)(hl:l.length<=9223372036854775807)(hD:∀ x∈l,D x):FnSpec Sy.P 58 [.sl false 3 (l.map bz),ud D p] [.sl false 3 (l.map bz),ud D p] (.int (cp p l 0)):=by
 refine bQ func58 ntmps58 fun v0=>?_;repeat' first|refine aG ?_|(refine aK ?_ ?_<;>intro _<;>try exact aE)|(refine l7 ?_ ?_<;>intro _<;>try exact l6)|fail
 refine CW.loop (fun k:Nat=>[(0,.av (.sl false 3 (l.map bz))),(1,.av (ud D p)),(7,.av (.int (l.length))),(8,.av (.int (k)))]) (fun k=>k<=l.length/\cp p l 0=cp p (l.drop k) k) (fun k=>l.length-k) (0) ?_ (ck) ?_
 ·exact⟨ahQ _,rfl⟩
 intro k ⟨hk,hp⟩;by_cases aA:k<l.length
 ·have hx:l[k]?=some l[k]:=ahn aA;have hd:D l[k]:=hD _ (ahB aA);rw [oL aA] at hp;have mC:(AV.bool (p (l[k].1,l[k].2.1,l[k].2.2.1,())))=.bool (p l[k]):=rfl
  cases hb:p l[k] with
  | true =>
   rw [hb,cond_true] at hp;rw [hb] at mC;rw [hp];repeat' first|refine aG ?_|(refine J.pB [bz l[k]] rfl rfl rfl ⟨_,rfl,hd⟩ (by exact fX) (by first|assumption|rfl|simp) rfl ?_)|(refine J.mF [bz l[k]] rfl rfl rfl ⟨_,rfl,hd⟩ (by exact fX) (by first|assumption|rfl|simp) rfl ?_)|(refine aK ?_ ?_<;>intro _<;>try exact aE)|(refine l7 ?_ ?_<;>intro _<;>try exact l6)|fail
   all_goals first|(rw [hb] at *;contradiction)|exact .mk rfl rfl rfl
  | false =>
   rw [hb,cond_false] at hp;rw [hb] at mC;repeat' first|refine aG ?_|(refine J.pB [bz l[k]] rfl rfl rfl ⟨_,rfl,hd⟩ (by exact fX) (by first|assumption|rfl|simp) rfl ?_)|(refine J.mF [bz l[k]] rfl rfl rfl ⟨_,rfl,hd⟩ (by exact fX) (by first|assumption|rfl|simp) rfl ?_)|(refine aK ?_ ?_<;>intro _<;>try exact aE)|(refine l7 ?_ ?_<;>intro _<;>try exact l6)|fail
   all_goals first|(rw [hb] at *;contradiction)|skip
   refine⟨k+1,?_,fM,ck⟩;exact⟨ae,hp⟩
 ·obtain rfl:k=l.length:=ae;rw [rL] at hp;rw [hp];repeat' first|refine aG ?_|(refine aK ?_ ?_<;>intro _<;>try exact aE)|(refine l7 ?_ ?_<;>intro _<;>try exact l6)|fail
  exact .mk rfl rfl rfl
theorem rO(a:Ac)(s:bd):FnSpec Sy.P 161 [bz a,.pt false [.str s]] [bz a,.pt false [.str s]] (.bool (decide (a.1=s))):=by
 refine bQ func161 ntmps161 fun v0=>?_;repeat' first|refine aG ?_|fail
 exact .mk rfl rfl rfl
theorem uV(a:Ac)(s:bd):FnSpec Sy.P 59 [bz a,.pt false [.str s]] [bz a,.pt false [.str s]] (.bool (decide (a.1=s))):=by
 refine bQ func59 ntmps59 fun v0=>?_;repeat' first|refine aG ?_|fail
 exact .mk rfl rfl rfl
theorem FH{s:bd}{m:Nat}{N:Nat}{σ:St}{t q:Nat}(ht:FM.get σ t=.clo 161 [q])(h1:FM.get σ q=.av (.pt true [.str s])):aX (Sy.fixed m v) N σ (.tmp t) true (ud (fun _=>True) fun a=>decide (a.1=s)) :=
 cloAc (zs:=[.pt false [.str s]]) ht (.cons h1 rfl .nil) (rO ([],0,0,()) []).ok fun x _=>rO x s
theorem Ia{s:bd}{m:Nat}{N:Nat}{σ:St}{t q:Nat}(ht:FM.get σ t=.clo 59 [q])(h1:FM.get σ q=.av (.pt true [.str s])):aX (Sy.fixed m v) N σ (.tmp t) true (ud (fun _=>True) fun a=>decide (a.1=s)) :=
 cloAc (zs:=[.pt false [.str s]]) ht (.cons h1 rfl .nil) (uV ([],0,0,()) []).ok fun x _=>uV x s
def fA(l:List Ac)(s:bd):Int:=cp (fun a=>decide (a.1=s)) l 0
theorem find_spec(l:List Ac)(s:bd)(hl:l.length<=9223372036854775807):FnSpec Sy.P 132 [.sl false 3 (l.map bz),.str s] [.sl false 3 (l.map bz),.str s] (.int (fA l s)):=by
 have hI:=gu l (fun _=>True) (fun a=>decide (a.1=s)) hl (fun _ _=>trivial);refine bQ func132 ntmps132 fun v0=>?_;repeat' first|((with_reducible apply J.step);rfl;(exact ry (caps:=[3]) rfl rfl))|refine aG ?_|((with_reducible first|apply J.bq (hI)|apply J.dE (hI));rfl;rfl;(repeat' (first|exact aV.nil|exact FH rfl rfl|apply aV.cons|exact aX.pl rfl rfl|exact aX.br rfl AV.noConfusion (by first|rfl|exact dr|exact c7|exact cD|exact dL|exact bG (fun _=>rfl))));(first|rfl|exact Be|exact Bf))
 exact .mk rfl rfl rfl
theorem e7(l:List Ac)(s:bd)(hl:l.length<=9223372036854775807):FnSpec Sy.P 18 [.sl false 3 (l.map bz),.str s] [.sl false 3 (l.map bz),.str s] (.int (fA l s)):=by
 have hI:=gu l (fun _=>True) (fun a=>decide (a.1=s)) hl (fun _ _=>trivial);refine bQ func18 ntmps18 fun v0=>?_;repeat' first|((with_reducible apply J.step);rfl;(exact ry (caps:=[3]) rfl rfl))|refine aG ?_|((with_reducible first|apply J.bq (hI)|apply J.dE (hI));rfl;rfl;(repeat' (first|exact aV.nil|exact Ia rfl rfl|apply aV.cons|exact aX.pl rfl rfl|exact aX.br rfl AV.noConfusion (by first|rfl|exact dr|exact c7|exact cD|exact dL|exact bG (fun _=>rfl))));(first|rfl|exact Be|exact Bf))
 exact .mk rfl rfl rfl
theorem gw(l:List Ac)(hl:l.length<=1000000):FnSpec Sy.P 50 [.sl false 3 (l.map bz)] [.sl false 3 (l.map bz)] (.sl true 3 (l.map bz)):=by
 refine bQ func50 ntmps50 fun v0=>?_;repeat' first|refine aG ?_|(refine l7 ?_ ?_<;>intro _<;>try exact l6)|(refine w9q ?_;intro Yz Ib)|fail
 ·by_cases h:l=[]
  ·subst h;exact .KN rfl .nil rfl
  ·have:=Ib (by simpa using h)
   simp_all
 ·exact .mk rfl rfl rfl
end Go.Proofs.YtmbbagbhmjaedaaGreatDoor
namespace FM
open Go Go.RowKit
theorem Ic{S:Sys}{σ:St}{t:Nat}{ti:TI}{x v:Operand}{s e off c:Nat}{y0 z:AV}{xs cs:List AV}{ty:Nat}{pos:String}{aft:Array Edge}{g:Option (Nat×Bool)}(hx:ov σ x=.fpt s (e*c+off) y0)(hs:FM.get σ s=.av (.sl true c xs))(N8:xs[e]?=some (.agg cs))(FI:off<cs.length)(hT:S.T t=some ti)(hv:ov σ v=.av z)(hz:z.aW=false)(hok:z.fV=true)(h1:z.cells=[z])(kK:Nat.beq ti.size 1=true):
  EStep S ⟨none,.store t x v,ty,pos,aft,g⟩ σ (σ.upd false s (.av (.sl true c (xs.set e (.agg (cs.set off z)))))):=by
 intro w0 L0 N a w _ ⟨L,hR⟩;have KL:=ahz kK;obtain⟨_,⟨b,hL,hp,_⟩,_⟩:=aM hR hx ag;have ja:=aJ hR hs ag;have hh:=hR.hold s ja;rw [hs] at hh;simp only [Hold] at hh;obtain⟨v1,v2,v3⟩:=eW hR hv hz hok;rw [h1] at v1;have v1:(a.eval v).cells.size=1:=v1;obtain⟨u0,T8,YA⟩:=v3 0 z (by rw [h1];rfl);have aA:e<xs.length:=(aho.1 N8).1;generalize PN:a.tmps.getD s undef=sv at hh
 cases hh with
 | slE h=>simp at N8
 | @slO p _ _ b' cap arr ee u fS hb bK bc jF aH hr =>
  have:=hR.lok.inj _ _ _ hL fS;subst this;have fW:cs.length=c:=jF _ (ahH N8);have hmul:(e+1)*c<=cap*c:=ahT _ ae;rw [ah9,Nat.one_mul] at hmul;obtain⟨A,aD,Fj,kl⟩:∃ A:Array Value,(Instr.storeAt t (.pointer (some ⟨b,e*c+off,none⟩)) (a.eval v)).run S.P w=.ok () (w.setRow b A)/\A.size=arr.size/\∀ j,A[j]?=if e*c+off<=j/\j<e*c+off+(a.eval v).cells.size then(a.eval v).cells[j-(e*c+off)]? else arr[j]? :=
   ⟨_,jK (S:=S) hT (off:=e*c+off) (v:=a.eval v) hb ae v2 ae,by simp;omega,fun j=>by
    have:=fK arr.toList (a.eval v).cells.toList (e*c+off) j (by simp;omega)
    simpa using this⟩
  have cw:∀ k,k≠b->(w.setRow b A).heap[k]?=w.heap[k]?:=fun k hk=>setRow_other w b k A hk;have oG:=setRow_heap w b arr A ee (0,0) hb;have jh:(w.setRow b A).heap.size=w.heap.size:=ag;refine⟨undef,w.setRow b A,.inr ⟨by simp only [execOp,hp,Sem.run_bind,aD];rfl,rfl⟩,L,hR.write (b:=b) (q0:=[]) ja hL jh rfl rfl rfl cw ?_ false (fun h=>by cases h)⟩;have ho:(w.setRow b A).os=w.os:=rfl;have ht:(w.setRow b A).tape=w.tape:=rfl;have hu:(w.setRow b A).output=w.output:=rfl;rw [PN];generalize w.setRow b A=W at aD cw oG jh ho ht hu;have hlen:(xs.set e (.agg (cs.set off z))).length=xs.length:=ag;have kL:∀ π (y:AV) (u:Value),Rep L w π y u->(∀ p',π=some p'->∃ o q,p'=[s]++o::q)->Rep L W π y u:=fun π y u h TY =>
   h.frame ae ho ht hu (fun k hk _=>⟨hk,cw k (fun e=>by subst e;rw [hL] at hk;cases hk)⟩) π fun p' vU=>⟨p',vU,fun k q hk=>⟨hk,cw k (fun e=>by
    subst e
    obtain⟨o,q',rfl⟩:=TY p' vU
    rw [hL] at hk;injection hk with hk
    have:=congrArg List.length hk
    simp at this)⟩⟩
  rw [<- hlen];refine .slO (fun o=>(A[o]?).getD undef) hL oG (by rw [hlen];exact bK) (by rw [Fj];exact bc) (fun y hy=>?_) (fun o ho=>?_) (fun o y hy=>?_)
  ·rcases aiF hy with h|h
   ·exact jF y h
   ·rw [h];show(cs.set off z).length=c;rw [aiy];exact fW
  ·have aA:o<A.size:=by
    rw [Fj,bc];rw [hlen] at ho;exact ahv ho (ahT _ bK)
   simp [aA]
  ·rw [kl,v1];have old:∀ y,(flat xs)[o]?=some y->¬ (e*c+off<=o/\o<e*c+off+1)->Rep L W (some ([s]++[o])) y (((if e*c+off<=o/\o<e*c+off+1 then(a.eval v).cells[o-(e*c+off)]? else arr[o]?)).getD undef):=fun y h2 dJ=>by
    have ho:o<xs.length*c:=by rw [<- bh jF];exact(aho.1 h2).1
    rw [if_neg dJ,aH o ho];exact kL _ y _ (hr o y h2) (fun p hp=>by cases hp;exact⟨o,[],rfl⟩)
   rcases nt jF (show(AV.agg (cs.set off z)).cells.length=c by show(cs.set off z).length=c;rw [aiy];exact fW) o y hy with⟨g1,g2,g3,g4⟩|⟨g1,g2⟩
   ·have g4:(cs.set off z)[o-e*c]?=some y:=g4;rw [aio] at g4;by_cases e1:off=o-e*c
    ·rw [if_pos e1,if_pos FI] at g4;cases g4;rw [if_pos ae,show o-(e*c+off)=0 by omega,T8];exact(kL none z u0 YA (fun p hp=>by cases hp)).any _
    ·rw [if_neg e1] at g4;have:=flat_get (j:=o-e*c) jF N8 (show(AV.agg cs).cells[o-e*c]?=some y from g4);rw [show e*c+(o-e*c)=o by omega] at this;exact old y this ae
   ·exact old y g2 ae
end FM
namespace Go.Proofs.YtmbbagbhmjaedaaGreatDoor
open Go FM Go.Proofs
variable {g:Option (Nat×Bool)}
theorem BI{S:FM.Sys}{σ:FM.St}{t:Nat}{ti:TI}{x v:Operand}{s e:Nat}{y0:AV}{l:List Ac}{a:Ac}{n:Int}{ty:Nat}{pos:String}{aft:Array Edge}{g:Option (Nat×Bool)}(hx:ov σ x=.fpt s (e*3+1) y0)(hs:FM.get σ s=.av (.sl true 3 (l.map bz)))(ha:l[e]?=some a)(hT:S.T t=some ti)(hv:ov σ v=.av (.int n))(kK:Nat.beq ti.size 1=true):
  EStep S ⟨none,.store t x v,ty,pos,aft,g⟩ σ (σ.upd false s (.av (.sl true 3 ((l.set e (a.1,n,a.2.2.1,())).map bz)))):=by
 have:=Ic (S:=S) (ty:=ty) (pos:=pos) (aft:=aft) (g:=g) (t:=t) (v:=v) (z:=.int n) hx hs (cs:=[.str a.1,.int a.2.1,.int a.2.2.1]) (by rw [ahE,ha];rfl) ag hT hv rfl rfl rfl kK;rw [List.map_set];exact this
theorem BJ{S:FM.Sys}{σ:FM.St}{t:Nat}{ti:TI}{x v:Operand}{s e:Nat}{y0:AV}{l:List Ac}{a:Ac}{n:Int}{ty:Nat}{pos:String}{aft:Array Edge}{g:Option (Nat×Bool)}(hx:ov σ x=.fpt s (e*3+2) y0)(hs:FM.get σ s=.av (.sl true 3 (l.map bz)))(ha:l[e]?=some a)(hT:S.T t=some ti)(hv:ov σ v=.av (.int n))(kK:Nat.beq ti.size 1=true):
  EStep S ⟨none,.store t x v,ty,pos,aft,g⟩ σ (σ.upd false s (.av (.sl true 3 ((l.set e (a.1,a.2.1,n,())).map bz)))):=by
 have:=Ic (S:=S) (ty:=ty) (pos:=pos) (aft:=aft) (g:=g) (t:=t) (v:=v) (z:=.int n) hx hs (cs:=[.str a.1,.int a.2.1,.int a.2.2.1]) (by rw [ahE,ha];rfl) ag hT hv rfl rfl rfl kK;rw [List.map_set];exact this
end Go.Proofs.YtmbbagbhmjaedaaGreatDoor
namespace Go.Proofs.YtmbbagbhmjaedaaGreatDoor
open Go FM
theorem Mb{a b:bd}(h:¬ (a<b∨a=b)):b<a:=by
 have h1:¬ a<b:=fun h'=>h (.inl h');have h2:b<=a:=List.not_lt.1 h1;refine Classical.byContradiction fun hn=>h (.inr ?_);exact List.le_antisymm (List.not_lt.1 hn) h2
structure Uq(l:List Ac):Prop where
 len:l.length<=6
 nm:∀ a∈l,gV a.1=true
 mo:∀ a∈l,0<=a.2.1/\a.2.1<=1000000
 nu:∀ a∈l,0<=a.2.2.1/\a.2.2.1<=1000000
 srt:l.Pairwise fun a b=>a.1<b.1
theorem yZ:∀ {l:List Ac} {last:bd},yf last l=0->(∀ a∈l,gV a.1=true/\(0<=a.2.1/\a.2.1<=1000000)/\(0<=a.2.2.1/\a.2.2.1<=1000000)/\last<a.1)/\l.Pairwise fun a b=>a.1<b.1
 | [],last,_=>⟨fun a h=>(by cases h),List.Pairwise.nil⟩
 | a::r,last,h=>by
  unfold yf at h;by_cases c:gV a.1=false∨(a.1<last∨a.1=last)
  ·rw [if_pos c] at h;cases h
  rw [if_neg c] at h;by_cases c2:(jo a.2.1&&(jo a.2.2.1&&true))=false
  ·rw [if_pos c2] at h;cases h
  rw [if_neg c2] at h;obtain⟨h1,h2⟩:=yZ h;have c2:(jo a.2.1&&(jo a.2.2.1&&true))=true:=by simpa using c2
  rw [Bool.and_true,aht,lH,lH] at c2;have hn:gV a.1=true:=by
   cases e:gV a.1 with
   | true=>rfl
   | false=>exact absurd (.inl e) c
  have hl:last<a.1:=Mb fun h=>c (.inr h);refine⟨fun b hb=>?_,List.pairwise_cons.2 ⟨fun b hb=>(h1 b hb).2.2.2,h2⟩⟩;rcases ah1.1 hb with rfl|hb
  ·exact⟨hn,c2.1,c2.2,hl⟩
  ·obtain⟨g1,g2,g3,g4⟩:=h1 b hb;exact⟨g1,g2,g3,List.lt_trans hl g4⟩
theorem iN{l:List Ac}(h:eh l=0):Uq l:=by
 unfold eh at h;by_cases c:6<l.length
 ·rw [if_pos c] at h;cases h
 rw [if_neg c] at h;obtain⟨h1,h2⟩:=yZ h;exact⟨ae,fun a ha=>(h1 a ha).1,fun a ha=>(h1 a ha).2.1,fun a ha=>(h1 a ha).2.2.1,h2⟩
theorem uW:∀ (l:List Ac) (last:bd),0<=yf last l/\yf last l<=3
 | [],last=>by simp [yf]
 | a::r,last=>by
  have:=uW r a.1;unfold yf;repeat' split
  all_goals omega
theorem de(l:List Ac):0<=eh l/\eh l<=3:=by
 have:=uW l [];unfold eh;split<;>omega
theorem gI(d:Dl):0<=lT d/\lT d<=3:=by
 unfold lT;repeat' split
 all_goals omega
structure ue(d:Dl):Prop where
 f:gV d.1=true
 t:gV d.2.1=true
 ne:d.1≠d.2.1
 num:0<=d.2.2.1/\d.2.2.1<=1000000
 much:0<=d.2.2.2.1/\d.2.2.2.1<=1000000
 fee:0<=d.2.2.2.2.1/\d.2.2.2.2.1<=1000000
 size:1<=d.2.2.2.2.2.1/\d.2.2.2.2.2.1<=100
theorem oN{d:Dl}(h:lT d=0):ue d:=by
 unfold lT at h;by_cases c:gV d.1=false∨gV d.2.1=false∨d.1=d.2.1
 ·rw [if_pos c] at h;cases h
 rw [if_neg c] at h;by_cases c2:(jo d.2.2.1&&(jo d.2.2.2.1&&(jo d.2.2.2.2.1&&true)))=false∨d.2.2.2.2.2.1<1∨100<d.2.2.2.2.2.1
 ·rw [if_pos c2] at h;cases h
 have e1:gV d.1=true:=by
  cases e:gV d.1 with
  | true=>rfl
  | false=>exact absurd (.inl e) c
 have e2:gV d.2.1=true:=by
  cases e:gV d.2.1 with
  | true=>rfl
  | false=>exact absurd (.inr (.inl e)) c
 have e3:(jo d.2.2.1&&(jo d.2.2.2.1&&(jo d.2.2.2.2.1&&true)))=true:=by
  cases e:(jo d.2.2.1&&(jo d.2.2.2.1&&(jo d.2.2.2.2.1&&true))) with
  | true=>rfl
  | false=>exact absurd (.inl e) c2
 rw [Bool.and_true,aht,aht,lH,lH,lH] at e3;exact⟨e1,e2,fun h=>c (.inr (.inr h)),e3.1,e3.2.1,e3.2.2,ae⟩
theorem wM{α:Type}{p:α->Bool}:∀ {l:List α} {k:Nat},0<=cp p l k->∃ i:Nat,∃ (h:i<l.length),cp p l k=((k+i:Nat):Int)/\p l[i]=true
 | [],k,h=>by simp [cp] at h
 | x::r,k,h=>by
  unfold cp at h ⊢
  cases hp:p x with
  | true=>exact⟨0,ag,by rw [cond_true];rfl,hp⟩
  | false =>
   rw [hp,cond_false] at h;obtain⟨i,hi,e1,e2⟩:=wM h;refine⟨i+1,by simpa using hi,?_,e2⟩;rw [cond_false,e1,show k+1+i=k+(i+1) by omega]
theorem rP{l:List Ac}{s:bd}(h:0<=fA l s):∃ i:Nat,∃ (h:i<l.length),fA l s=(i:Int)/\l[i].1=s:=by
 obtain⟨i,hi,e1,e2⟩:=wM (p:=fun a:Ac=>decide (a.1=s)) (k:=0) h;exact⟨i,hi,by unfold fA;rw [e1,ahR],of_decide_eq_true e2⟩
theorem eF(l:List Ac)(s:bd):-1<=fA l s/\fA l s<l.length:=by
 have:=jM (p:=fun a:Ac=>decide (a.1=s)) (l:=l) (k:=0);rw [ahR] at this;exact this
theorem rQ{l:List Ac}(h:l.Pairwise fun a b=>a.1<b.1){i:Nat}(hi:i<l.length)(f:Ac->Ac):l.set i (f l[i])=l.map fun a=>if a.1=l[i].1 then f a else a:=by
 refine List.ext_getElem ag fun j h1 h2=>?_;rw [List.getElem_set,List.getElem_map];have hj:j<l.length:=by simpa using h2
 by_cases e:i=j
 ·subst e;rw [if_pos rfl,if_pos rfl]
 ·rw [if_neg e,if_neg];intro hn;rcases Nat.lt_or_gt_of_ne e with h'|h'
  ·have:=ain.1 h i j hi hj h';rw [hn] at this;exact List.lt_irrefl _ this
  ·have:=ain.1 h j i hj hi h';rw [hn] at this;exact List.lt_irrefl _ this
def Ie(d:Dl)(a:Ac):Ac:=(a.1,a.2.1-(d.2.2.2.1+d.2.2.2.2.1),a.2.2.1+1,())
def Mc(d:Dl)(a:Ac):Ac:=(a.1,a.2.1+d.2.2.2.1,a.2.2.1,())
def Md(d:Dl)(a:Ac):Ac:=(a.1,a.2.1+d.2.2.2.2.1,a.2.2.1,())
def uf(d:Dl)(a:Ac):Ac:=if a.1=d.1 then Ie d a else a
def FJ(d:Dl)(a:Ac):Ac:=if a.1=d.2.1 then Mc d a else a
def SV(d:Dl)(w:bd)(a:Ac):Ac:=if a.1=w then Md d a else a
theorem wN{d:Dl}{a:Ac}:(uf d a).1=a.1:=by unfold uf;split<;>rfl
theorem BK{d:Dl}{a:Ac}:(FJ d a).1=a.1:=by unfold FJ;split<;>rfl
theorem QC{d:Dl}{w:bd}{a:Ac}:(SV d w a).1=a.1:=by unfold SV;split<;>rfl
def jP(l:List Ac)(d:Dl)(w:bd):List Ac:=l.map fun a=>SV d w (FJ d (uf d a))
theorem D5{l:List Ac}(h:l.Pairwise fun a b=>a.1<b.1){f:Ac->Ac}(hf:∀ a,(f a).1=a.1):(l.map f).Pairwise fun a b=>a.1<b.1:=by
 rw [List.pairwise_map];exact h.imp fun h=>by rw [hf,hf];exact h
def pD(l:List Ac)(d:Dl)(w:bd):Int :=
 if eh l≠0 then eh l else if lT d≠0 then lT d else if fA l d.1<0∨fA l d.2.1<0∨fA l w<0 then 4
 else if d.2.2.1≠(l.getD (fA l d.1).toNat ([],0,0,())).2.2.1 then 6 else if (l.getD (fA l d.1).toNat ([],0,0,())).2.1<d.2.2.2.1+d.2.2.2.2.1 then 11
 else if eh (jP l d w)≠0 then 8 else 0
theorem D6{l:List Ac}{d:Dl}{w:bd}:(jP l d w).length=l.length:=ahu _
theorem rR{l:List Ac}{d:Dl}{w:bd}(h:kz l):kz (jP l d w):=⟨by rw [D6];exact h.len,fun a ha=>by
 obtain⟨b,hb,rfl⟩:=ahY.1 ha
 rw [QC,BK,wN];exact h.str b hb⟩
end Go.Proofs.YtmbbagbhmjaedaaGreatDoor
namespace Go.Proofs.YtmbbagbhmjaedaaGreatDoor
open Go FM Go.Proofs Tryz
theorem Ig{l:List Ac}(h:l.Pairwise fun a b=>a.1<b.1){d:Dl}{w:bd}{i j k:Nat}(hi:i<l.length)(hj:j<l.length)(hk:k<l.length){a0 aj ak:Ac}(ha:l[i]?=some a0)(haj:l[j]?=some aj)(hak:l[k]?=some ak)(ei:a0.1=d.1)(ej:aj.1=d.2.1)(ek:ak.1=w):
  let X1:=(l.set i (a0.1,a0.2.1-(d.2.2.2.1+d.2.2.2.2.1),a0.2.2.1,())).set i (a0.1,a0.2.1-(d.2.2.2.1+d.2.2.2.2.1),a0.2.2.1+1,())
  let b:=uf d aj
  let X2:=X1.set j (b.1,b.2.1+d.2.2.2.1,b.2.2.1,())
  let c:=FJ d (uf d ak)
  let X3:=X2.set k (c.1,c.2.1+d.2.2.2.2.1,c.2.2.1,())
  (l.set i (a0.1,a0.2.1-(d.2.2.2.1+d.2.2.2.2.1),a0.2.2.1,()))[i]?=some (a0.1,a0.2.1-(d.2.2.2.1+d.2.2.2.2.1),a0.2.2.1,())/\X1[j]?=some b/\X2[k]?=some c/\X3=jP l d w:=by
 intro X1 b X2 c X3;obtain⟨_,Lm⟩:=aho.1 ha;obtain⟨_,adJ⟩:=aho.1 haj;obtain⟨_,adK⟩:=aho.1 hak;have e1:X1=l.map (uf d):=by
  show(l.set i _).set i _=_;rw [List.set_set];have:=rQ h hi (Ie d);rw [Lm,ei] at this;exact this
 have s1:X1.Pairwise fun a b=>a.1<b.1:=by rw [e1];exact D5 h fun a=>wN
 have g1:X1[j]?=some b:=by rw [e1,ahE,haj];rfl
 have WU:j<X1.length:=by rw [e1,ahu];exact hj
 have e2:X2=X1.map (FJ d):=by
  have:=rQ s1 WU (Mc d);have hb:X1[j]=b:=by obtain⟨_,h⟩:=aho.1 g1;exact h
  rw [hb] at this;have hn:b.1=d.2.1:=by show(uf d aj).1=_;rw [wN,ej]
  rw [hn] at this;exact this
 have s2:X2.Pairwise fun a b=>a.1<b.1:=by rw [e2];exact D5 s1 fun a=>BK
 have g2:X2[k]?=some c:=by rw [e2,e1,ahE,ahE,hak];rfl
 have SU:k<X2.length:=by rw [e2,e1,ahu,ahu];exact hk
 refine⟨by rw [aio,if_pos rfl,if_pos hi],g1,g2,?_⟩;have:=rQ s2 SU (Md d);have hc:X2[k]=c:=by obtain⟨_,h⟩:=aho.1 g2;exact h
 rw [hc] at this;have hn:c.1=w:=by show(FJ d (uf d ak)).1=_;rw [BK,wN,ek]
 rw [hn] at this;show X2.set k (Md d c)=_;rw [this,e2,e1,List.map_map,List.map_map];rfl
theorem getD_at{l:List Ac}{i:Nat}{a:Ac}(h:l[i]?=some a):l.getD i ([],0,0,())=a:=by rw [ahK,h];rfl
def nF(l:List Ac)(e:Int):AV:=if e=0 then .tup [.sl true 3 (l.map bz),.int 0] else .tup [.nil,.int e]
theorem oO(l:List Ac)(d:Dl)(w:bd)(hL:kz l)(h1:d.1.length<=9223372036854775807)(h2:d.2.1.length<=9223372036854775807):FnSpec Sy.P 106 [.sl false 3 (l.map bz),bL d,.str w] [.sl false 3 (l.map bz),bL d,.str w] (nF (jP l d w) (pD l d w)):=by
 have hC:=gX l hL;have hR:=mG d h1 h2;have KO:=de l;have YB:=gI d;unfold pD nF;by_cases c1:eh l=0
 ·have hok:=iN c1;rw [c1] at hC;rw [if_neg (not_not_intro c1)];by_cases c2:lT d=0
  ·have yg:=oN c2;rw [c2] at hR;rw [if_neg (not_not_intro c2)];have YC:=hok.len;have aw:=find_spec l d.1 hL.len;have N9:=find_spec l d.2.1 hL.len;have Ha:=find_spec l w hL.len;have r1:=eF l d.1;have r2:=eF l d.2.1;have r3:=eF l w;have k1:=yg.num;have k2:=yg.much;have k3:=yg.fee;by_cases c3:fA l d.1<0∨fA l d.2.1<0∨fA l w<0
   ·rw [if_pos c3,if_neg af];generalize fA l d.1=x1 at *;generalize fA l d.2.1=x2 at *;generalize fA l w=x3 at *;refine bQ func106 ntmps106 fun v0=>?_;repeat' first|refine aG ?_|refine aF (hC) ?_|refine aF (hR) ?_|refine aF (aw) ?_|refine aF (N9) ?_|refine aF (Ha) ?_|(refine aK ?_ ?_<;>intro _<;>try exact aE)|fail
    all_goals exact bw
   rw [if_neg c3];obtain⟨i,hi,e1,n1⟩:=rP (l:=l) (s:=d.1) ae;obtain⟨j,hj,e2,n2⟩:=rP (l:=l) (s:=d.2.1) ae;obtain⟨k,hk,e3,n3⟩:=rP (l:=l) (s:=w) ae;have ga:l[i]?=some l[i]:=ahn hi;have gj:l[j]?=some l[j]:=ahn hj;have gk:l[k]?=some l[k]:=ahn hk;rw [e1] at aw ⊢;rw [e2] at N9;rw [e3] at Ha;rw [ahN,getD_at ga];have m1:=hok.mo _ (ahB hi);have m2:=hok.nu _ (ahB hi);have m3:=hok.mo _ (ahB hj);have m4:=hok.mo _ (ahB hk);obtain⟨f1,f2,f3,f4⟩:=Ig hok.srt hi hj hk ga gj gk n1 n2 n3;generalize l[i]=a at *;generalize l[j]=aj at *;generalize l[k]=ak at *;by_cases c4:d.2.2.1≠a.2.2.1
   ·rw [if_pos c4,if_neg af];refine bQ func106 ntmps106 fun v0=>?_;repeat' first|refine aG ?_|refine aF (hC) ?_|refine aF (hR) ?_|refine aF (aw) ?_|refine aF (N9) ?_|refine aF (Ha) ?_|(refine aK ?_ ?_<;>intro _<;>try exact aE)|fail
    all_goals exact bw
   rw [if_neg c4];by_cases c5:a.2.1<d.2.2.2.1+d.2.2.2.2.1
   ·rw [if_pos c5,if_neg af];refine bQ func106 ntmps106 fun v0=>?_;repeat' first|refine aG ?_|refine aF (hC) ?_|refine aF (hR) ?_|refine aF (aw) ?_|refine aF (N9) ?_|refine aF (Ha) ?_|(refine aK ?_ ?_<;>intro _<;>try exact aE)|fail
    all_goals exact bw
   rw [if_neg c5];have b1:-2000000<=(uf d aj).2.1/\(uf d aj).2.1<=1000000:=by unfold uf Ie;split<;>((try dsimp only);omega)
   have b2:-2000000<=(FJ d (uf d ak)).2.1/\(FJ d (uf d ak)).2.1<=2000000:=by
    have:-2000000<=(uf d ak).2.1/\(uf d ak).2.1<=1000000:=by unfold uf Ie;split<;>((try dsimp only);omega)
    unfold FJ Mc;split<;>((try dsimp only);omega)
   generalize uf d aj=b at *;generalize FJ d (uf d ak)=c at *;have eP:=gw l ae;have qe:=gX (jP l d w) (rR hL);have YD:=de (jP l d w);by_cases c6:eh (jP l d w)≠0
   ·rw [if_pos c6,if_neg af];generalize eh (jP l d w)=e6 at *;rw [<- f4] at qe;refine bQ func106 ntmps106 fun v0=>?_;repeat' first|((with_reducible apply J.fJ);rfl;(exact BI rfl rfl (by assumption) rfl rfl rfl))|((with_reducible apply J.fJ);rfl;(exact BJ rfl rfl (by assumption) rfl rfl rfl))|refine aG ?_|refine aF (hC) ?_|refine aF (hR) ?_|refine aF (aw) ?_|refine aF (N9) ?_|refine aF (Ha) ?_|refine aF (eP) ?_|refine aF (qe) ?_|(refine aK ?_ ?_<;>intro _<;>try exact aE)|fail
    all_goals exact bw
   ·rw [if_neg c6,if_pos rfl];rw [Classical.not_not.1 c6] at qe;rw [<- f4] at qe ⊢;refine bQ func106 ntmps106 fun v0=>?_;repeat' first|((with_reducible apply J.fJ);rfl;(exact BI rfl rfl (by assumption) rfl rfl rfl))|((with_reducible apply J.fJ);rfl;(exact BJ rfl rfl (by assumption) rfl rfl rfl))|refine aG ?_|refine aF (hC) ?_|refine aF (hR) ?_|refine aF (aw) ?_|refine aF (N9) ?_|refine aF (Ha) ?_|refine aF (eP) ?_|refine aF (qe) ?_|(refine aK ?_ ?_<;>intro _<;>try exact aE)|fail
    all_goals exact bw
  ·rw [if_pos c2,if_neg c2];generalize lT d=e at *;refine bQ func106 ntmps106 fun v0=>?_;repeat' first|refine aG ?_|refine aF (hC) ?_|refine aF (hR) ?_|(refine aK ?_ ?_<;>intro _<;>try exact aE)|fail
   all_goals exact bw
 ·rw [if_pos c1,if_neg c1];generalize eh l=e at *;refine bQ func106 ntmps106 fun v0=>?_;repeat' first|refine aG ?_|refine aF (hC) ?_|refine aF (hR) ?_|(refine aK ?_ ?_<;>intro _<;>try exact aE)|fail
  all_goals exact bw
end Go.Proofs.YtmbbagbhmjaedaaGreatDoor
namespace Go.Proofs.YtmbbagbhmjaedaaGreatDoor
open Go Go.Proofs Tryz
def Me:Go.Shelf.Ren:=⟨fun|6=>133|15=>163|14=>162|28=>182|29=>152|20=>174|21=>175|22=>176|23=>177|24=>178|25=>179|26=>180|27=>181|46=>190|47=>191|48=>192|49=>193|50=>194|57=>197|n=>n,fun|22=>28|24=>82|25=>194|3=>3|39=>92|0=>0|53=>57|55=>54|4=>4|46=>240|45=>239|50=>244|5=>5|9=>9|66=>252|70=>255|76=>257|77=>161|n=>n,fun|n=>n⟩
theorem lsa:SlLaysF0.n6 Tryz.prog Me:={
 mixed:=by kernel_rfl,
 f6:=⟨Tryz.f133.name,af,func133.trans (congrArg some ah)⟩,
 f14:=⟨Tryz.f162.name,af,func162.trans (congrArg some ah)⟩,
 f15:=func163.trans (congrArg some ah),
 f20:=⟨Tryz.f174.name,af,func174.trans (congrArg some ah)⟩,
 f21:=⟨Tryz.f175.name,af,func175.trans (congrArg some ah)⟩,
 f22:=⟨Tryz.f176.name,af,func176.trans (congrArg some ah)⟩,
 f23:=⟨Tryz.f177.name,af,func177.trans (congrArg some ah)⟩,
 f24:=⟨Tryz.f178.name,af,func178.trans (congrArg some ah)⟩,
 f25:=⟨Tryz.f179.name,af,func179.trans (congrArg some ah)⟩,
 f26:=⟨Tryz.f180.name,af,func180.trans (congrArg some ah)⟩,
 f27:=⟨Tryz.f181.name,af,func181.trans (congrArg some ah)⟩,
 f28:=func182.trans (congrArg some ah),
 f29:=func152.trans (congrArg some ah),
 f46:=⟨Tryz.f190.name,af,func190.trans (congrArg some ah)⟩,
 f47:=func191.trans (congrArg some ah),
 f48:=func192.trans (congrArg some ah),
 f49:=⟨Tryz.f193.name,af,func193.trans (congrArg some ah)⟩,
 f50:=⟨Tryz.f194.name,af,func194.trans (congrArg some ah)⟩,
 f57:=⟨Tryz.f197.name,af,func197.trans (congrArg some ah)⟩,
 t0:=underlying0,
 a0:=isAgg0,
 z0:=sizeOf0,
 v0:=zeroValue0,
 t3:=underlying3,
 a3:=isAgg3,
 z3:=sizeOf3,
 v3:=zeroValue3,
 t4:=underlying4,
 a4:=isAgg4,
 z4:=sizeOf4,
 v4:=zeroValue4,
 t5:=underlying5,
 a5:=isAgg5,
 z5:=sizeOf5,
 v5:=zeroValue5,
 t9:=underlying9,
 a9:=isAgg9,
 z9:=sizeOf9,
 v9:=zeroValue9,
 t22:=underlying28,
 a22:=isAgg28,
 z22:=sizeOf28,
 v22:=zeroValue28,
 t25:=underlying194,
 a25:=isAgg194,
 z25:=sizeOf194,
 v25:=zeroValue194,
 t39:=underlying92,
 a39:=isAgg92,
 z39:=sizeOf92,
 v39:=zeroValue92,
 t45:=underlying239,
 a45:=isAgg239,
 z45:=sizeOf239,
 v45:=zeroValue239,
 t46:=underlying240,
 a46:=isAgg240,
 z46:=sizeOf240,
 v46:=zeroValue240,
 t50:=underlying244,
 a50:=isAgg244,
 z50:=sizeOf244,
 v50:=zeroValue244,
 t53:=underlying57,
 a53:=isAgg57,
 z53:=sizeOf57,
 v53:=zeroValue57,
 t55:=underlying54,
 a55:=isAgg54,
 z55:=sizeOf54,
 v55:=zeroValue54,
 t66:=underlying252,
 a66:=isAgg252,
 z66:=sizeOf252,
 v66:=zeroValue252,
 t70:=underlying255,
 a70:=isAgg255,
 z70:=sizeOf255,
 v70:=zeroValue255,
 t76:=underlying257,
 a76:=isAgg257,
 z76:=sizeOf257,
 v76:=zeroValue257,
 t77:=underlying161,
 a77:=isAgg161,
 z77:=sizeOf161,
 v77:=zeroValue161 }
end Go.Proofs.YtmbbagbhmjaedaaGreatDoor
