/- Part of the proof. -/
import Derived.Test.YtmbbagbhmjaedaaGreatDoorCcc
set_option linter.all false
set_option maxRecDepth 10000
set_option maxHeartbeats 3200000
namespace FM
open Go Go.RowKit
inductive pO(σ:St)(ms:List (Nat×Nat)):List Nat->List AV->Prop
 | nil:pO σ ms [] []
 | cons {s ss x z zs} (h:get σ s=.av x) (hm:idxM ms s=none) (hz:x.sh=z) (r:pO σ ms ss zs):pO σ ms (s::ss) (z::zs)
theorem pO.length{σ:St}{ms:List (Nat×Nat)}{ss:List Nat}{zs:List AV}(h:pO σ ms ss zs):ss.length=zs.length:=by induction h<;>simp_all
open Classical in
noncomputable def El (B:Nat->Prop) (b:Nat):aO:=if B b then .sh else .fo
theorem pO.rep{S:Sys}{N:Nat}{σ:St}{ms:List (Nat×Nat)}{ss:List Nat}{zs:List AV}(h:pO σ ms ss zs){w0:World}{L0:Nat->aO}{a:Act}{w:World}{L:Nat->aO}(hR:RelL S w0 L0 N σ a w L):∀ (i:Nat) z v,zs[i]?=some z->(ss.map fun s=>a.tmps.getD s undef)[i]?=some v->Rep (El fun b=>qF ms L b=.sh) w none z v:=by
 induction h with
 | nil=>intro i z v hz;simp at hz
 | @cons s ss x z zs h hm hz r ih =>
  intro i z' v qw hv
  cases i with
  | zero =>
   simp only [ahq,ahp,aiw] at qw hv;subst qw;subst hv;subst hz;have hh:=hR.hold s (aJ hR h ag);rw [h] at hh;refine Rep.toSh (fun b _ hb=>?_) hh (fun p hp b q hb=>?_)
   ·unfold El;rw [if_pos (kO hb)]
   ·cases hp;unfold El;rw [if_pos (wH hb hm)]
  | succ i=>exact ih i z' v (by simpa using qw) (by simpa using hv)
theorem ArgM.clo{S:Sys}{N:Nat}{σ:St}{P:Program}{tZ:List AV->Prop}{r:List AV->AV}{ms:List (Nat×Nat)}{i f t:Nat}{caps:List Nat}{zs:List AV}(hP:P=S.P)(ht:get σ t=.clo f caps)(hc:pO σ ms caps zs)(hf:jd P f)(hs:∀ xs9,tZ xs9->FnSpec P f (xs9++zs) (xs9++zs) (r xs9))(hr:∀ xs9,tZ xs9->(r xs9).aR=true):ArgM S N σ ms i (.tmp t) (.fn (wv P tZ r)):=by
 subst hP;refine .fn fun w0 L0 a w L hR=>?_;have hh:=hR.hold t (aJ hR ht ag);rw [ht] at hh;simp only [Hold] at hh;refine⟨f,_,hh,hf,fun w' xs9 vs hd hx q8 hl bE=>?_⟩;have fW:(caps.map fun s=>a.tmps.getD s undef).length=zs.length:=by rw [ahu,hc.length]
 have:=(hs xs9 hd).calls w' (fun _=>.sh) (vs++caps.map fun s=>a.tmps.getD s undef) (by rw [ahC,ahC,hl,fW]) (kG (fun _ _ h=>by cases h) (fun _ _ h=>by cases h) q8) (fun i x v eQ hv=>by
  refine Rep.any ?_ _
  by_cases hi:i<xs9.length
  ·rw [ahG hi] at eQ
   rw [ahG ae] at hv
   exact bE i x v eQ hv
  ·rw [ahJ ae] at eQ
   rw [ahJ ae,hl] at hv
   refine(hc.rep hR _ x v eQ hv).frame hx.size hx.os hx.tape hx.output (fun b hb aA=>⟨rfl,hx.block b aA ?_⟩) none (fun p hp=>by cases hp)
   unfold El at hb
   split at hb
   ·assumption
   ·cases hb)
 have e:vs.toArray++(caps.map fun s=>a.tmps.getD s undef).toArray=(vs++caps.map fun s=>a.tmps.getD s undef).toArray:=ag;rw [e];refine this.mono fun e Hz ⟨v,L',he,hB⟩=>?_;subst he;have h1:=hr xs9 hd;have hv:v=(r xs9).toV:=by
  have h2:=hB.res;generalize r xs9=y at *;cases h2<;>first|rfl|(simp [AV.aR] at h1)
 subst hv;exact⟨rfl,⟨hB.keep.os,hB.keep.tape,hB.keep.output,hB.keep.size,fun b hb=>hB.keep.block b hb (fun p h=>by cases h)⟩⟩
end FM
namespace Go.Proofs.YtmbbagbhmjaedaaGreatDoor
open Go FM Go.Proofs Tryz
variable {j:Nat}
def cnt(p:Dl->Bool)(l:List Dl)(j:Nat):Nat:=((l.take j).filter fun d=>!p d).length
theorem oX{p:Dl->Bool}{l:List Dl}(h:j<l.length):((l.take (j+1)).filter fun d=>!p d)=((l.take j).filter fun d=>!p d)++(if p l[j] then [] else [l[j]]):=by
 rw [aid h,List.filter_append];congr 1
 cases hp:p l[j]<;>simp [hp]
structure He(p:Dl->Bool)(l:List Dl)(j:Nat)(X:List Dl):Prop where
 le:j<=l.length
 len:X.length=l.length
 lt:cnt p l j<j
 low:X.take (cnt p l j)=(l.take j).filter fun d=>!p d
 high:X.drop j=l.drop j
theorem He.skip{p:Dl->Bool}{l:List Dl}{X:List Dl}(h:He p l j X)(hj:j<l.length)(hp:p l[j]=true):cnt p l (j+1)=cnt p l j/\He p l (j+1) X:=by
 have hk:=oX (p:=p) hj;rw [if_pos hp,ais] at hk;have hc:cnt p l (j+1)=cnt p l j:=by unfold cnt;rw [hk]
 refine⟨hc,hj,h.len,by rw [hc];have:=h.lt;omega,by rw [hc,hk];exact h.low,?_⟩;have:=congrArg (List.drop 1) h.high
 rwa [List.drop_drop,List.drop_drop] at this
theorem He.keep{p:Dl->Bool}{l:List Dl}{X:List Dl}(h:He p l j X)(hj:j<l.length)(hp:p l[j]=false):cnt p l (j+1)=cnt p l j+1/\He p l (j+1) (X.set (cnt p l j) l[j]):=by
 have hk:=oX (p:=p) hj;rw [if_neg (by rw [hp];simp)] at hk;have hc:cnt p l (j+1)=cnt p l j+1:=by unfold cnt;rw [hk];simp
 have aA:=h.lt;have hlen:=h.len;refine⟨hc,hj,by rw [aiy];exact h.len,by rw [hc];omega,?_,?_⟩
 ·rw [hc,hk,<-h.low,aid (by rw [aiy];omega),List.getElem_set_self,List.take_set_of_le ae]
 ·rw [List.drop_set_of_lt ae];have:=congrArg (List.drop 1) h.high
  rwa [List.drop_drop,List.drop_drop] at this
theorem He.get{p:Dl->Bool}{l:List Dl}{X:List Dl}(h:He p l j X)(hj:j<l.length):X[j]?=some l[j]:=by
 have:=congrArg (fun z:List Dl=>z[0]?) h.high;simp only [ah5,aib] at this;rw [this,ahn hj]
theorem jV{α:Type}{p:α->Bool}:∀ {l:List α} {k:Nat},0<=cp p l k->∃ i:Nat,∃ (h:i<l.length),cp p l k=((k+i:Nat):Int)/\p l[i]=true/\∀ (j:Nat) (hj:j<i),p (l[j]' ae)=false
 | [],k,h=>by simp [cp] at h
 | x::r,k,h=>by
  rw [jq] at h ⊢
  cases hp:p x with
  | true=>exact⟨0,ag,by rw [cond_true];rfl,hp,fun j hj=>absurd hj (ait _)⟩
  | false =>
   rw [hp,cond_false] at h;obtain⟨i,hi,e1,e2,e3⟩:=jV h;refine⟨i+1,by simpa using hi,?_,e2,fun j hj=>?_⟩
   ·rw [cond_false,e1,show k+1+i=k+(i+1) by omega]
   ·cases j with
    | zero=>exact hp
    | succ j=>exact e3 j ae
theorem He.start{p:Dl->Bool}{l:List Dl}{i:Nat}(h:i<l.length)(hp:p l[i]=true)(ha:∀ (j:Nat) (hj:j<i),p (l[j]' ae)=false):cnt p l (i+1)=i/\He p l (i+1) l:=by
 have hf:((l.take i).filter fun d=>!p d)=l.take i:=by
  rw [List.filter_eq_self];intro d hd;obtain⟨j,hj,rfl⟩:=aip.1 hd;rw [ahF] at hj;rw [List.getElem_take,ha j ae];rfl
 have hk:=oX (p:=p) h;rw [if_pos hp,ais,hf] at hk;have hc:cnt p l (i+1)=i:=by unfold cnt;rw [hk,ahF];omega
 exact⟨hc,h,rfl,ae,by rw [hc,hk],rfl⟩
theorem F3{x y:AV}(h:x=y):AV.le x y:=h▸.refl _
theorem F4(l:List Dl)(D:Dl->Prop)(p:Dl->Bool)(hl:l.length<=1000)(hD:∀ x∈l,D x):FnSpec Sy.P 138 [.sl true 6 (l.map bL),ug D p] [.dead,ug D p] (.sl true 6 ((l.filter fun d=>!p d).map bL)):=by
 have hI:=jQ l D p ae hD;refine FnSpec.enter (S:=Sy) 1 func138 rfl rfl rfl ntmps138 rfl rfl rfl rfl fun v0=>?_;by_cases h0:0<=cp p l 0
 ·obtain⟨i,hi,e1,hp,ha⟩:=jV h0;obtain⟨Hd,hS0⟩:=He.start hi hp ha;rw [e1,ahR] at hI;repeat' first|refine aG ?_|refine aF (hI) ?_|(refine aK ?_ ?_<;>intro _<;>try exact aE)|(refine l7 ?_ ?_<;>intro _<;>try exact l6)|fail
  all_goals try exact aE
  refine CW.loop (fun v:Nat×List Dl=>[(0,.av (.sl true 6 (v.2.map bL))),(1,.av (ug D p)),(5,.av (.int (cnt p l v.1))),(6,.av (.int (v.1)))]) (fun v=>He p l v.1 v.2) (fun v=>l.length-v.1) ((i+1,l)) ?_ (ck) ?_
  ·exact hS0
  rintro⟨j,X⟩ hS;dsimp only at hS ⊢;have hle:=hS.le;have UQ:=hS.len;have hct:=hS.lt;by_cases aA:j<l.length
  ·have hx:=hS.get aA;have hd:D l[j]:=hD _ (ahB aA);have mC:(AV.bool (p (l[j].1,l[j].2.1,l[j].2.2.1,l[j].2.2.2.1,l[j].2.2.2.2.1,l[j].2.2.2.2.2.1,())))=.bool (p l[j]):=rfl
   cases hb:p l[j] with
   | true =>
    obtain⟨c1,Zm⟩:=hS.skip aA hb;generalize cnt p l j=c at *;obtain⟨o,NW⟩:∃ o,X[c]?=some o:=⟨_,ahn (show c<X.length by omega)⟩;rw [hb] at mC;repeat' first|refine aG ?_|(refine J.pB [bL l[j]] rfl rfl rfl ⟨_,rfl,hd⟩ (by exact fX) (by first|assumption|rfl|simp) rfl ?_)|(refine J.mF [bL l[j]] rfl rfl rfl ⟨_,rfl,hd⟩ (by exact fX) (by first|assumption|rfl|simp) rfl ?_)|(refine aK ?_ ?_<;>intro _<;>try exact aE)|(refine l7 ?_ ?_<;>intro _<;>try exact l6)|fail
    all_goals first|(exfalso;omega)|(exfalso;contradiction)|(exfalso;simp_all;done)|skip
    refine⟨(j+1,X),?_,fM,ck⟩;all_goals first|exact Zm|omega
   | false =>
    obtain⟨c1,Zm⟩:=hS.keep aA hb;generalize cnt p l j=c at *;obtain⟨o,NW⟩:∃ o,X[c]?=some o:=⟨_,ahn (show c<X.length by omega)⟩;rw [hb] at mC;repeat' first|((with_reducible apply J.fJ);rfl;(exact DG (x:=l[j]) rfl rfl rfl rfl rfl rfl))|refine aG ?_|(refine J.pB [bL l[j]] rfl rfl rfl ⟨_,rfl,hd⟩ (by exact fX) (by first|assumption|rfl|simp) rfl ?_)|(refine J.mF [bL l[j]] rfl rfl rfl ⟨_,rfl,hd⟩ (by exact fX) (by first|assumption|rfl|simp) rfl ?_)|(refine aK ?_ ?_<;>intro _<;>try exact aE)|(refine l7 ?_ ?_<;>intro _<;>try exact l6)|fail
    all_goals first|(exfalso;omega)|(exfalso;contradiction)|(exfalso;simp_all;done)|skip
    refine⟨(j+1,X.set c l[j]),?_,fM,ck⟩;all_goals first|exact Zm|omega
  ·obtain rfl:j=l.length:=ae;have um:=hS.low;rw [ah7] at um;have heq:∀ rep:List AV,((X.map bL).take (cnt p l l.length)++rep).take ((cnt p l l.length:Nat):Int).toNat=(l.filter fun d=>!p d).map bL:=fun rep=>by
    rw [ahN,List.take_append_of_le_length (by rw [ahF,ahu];omega),List.take_take,Nat.min_self,<-List.map_take,um]
   have U9:cnt p l l.length<=(X.map bL).length:=by rw [ahu];omega
   have hn2:X.map bL≠[]:=by intro e;rw [List.map_eq_nil_iff] at e;rw [e] at UQ;simp at UQ;omega
   have hn3:(0:Int)<=((cnt p l l.length:Nat):Int):=ae;have hn4:((cnt p l l.length:Nat):Int).toNat<=((X.map bL).take (cnt p l l.length)++List.replicate ((X.map bL).length-cnt p l l.length) (vg 6)).length:=by
    rw [ahC,ahF,List.length_replicate];omega
   repeat' first|(refine J.clr rfl rfl rfl U9 hn2 rfl rfl rfl rfl rfl ?_)|((with_reducible apply J.step);rfl;(exact Q5 rfl rfl rfl rfl rfl hn3 hn4 rfl))|refine aG ?_|(refine aK ?_ ?_<;>intro _<;>try exact aE)|(refine l7 ?_ ?_<;>intro _<;>try exact l6)|fail
   all_goals first|(exfalso;omega)|exact⟨rfl,⟨_,rfl,F3 (congrArg (AV.sl true 6) (heq _))⟩,rfl,gU (wK rfl (nC rfl kM))⟩
 ·have dJ:=lI (p:=p) (show cp p l 0<0 by omega);have hf:(l.filter fun d=>!p d)=l:=by rw [List.filter_eq_self];intro d hd;rw [dJ d hd];rfl
  have hr:=jM (p:=p) (l:=l) (k:=0);rw [show cp p l 0=-1 by omega] at hI;rw [hf];repeat' first|refine aG ?_|refine aF (hI) ?_|(refine aK ?_ ?_<;>intro _<;>try exact aE)|(refine l7 ?_ ?_<;>intro _<;>try exact l6)|fail
  all_goals first|(exfalso;omega)|exact⟨rfl,⟨_,rfl,.refl _⟩,rfl,gU (wK rfl (nC rfl kM))⟩
end Go.Proofs.YtmbbagbhmjaedaaGreatDoor
namespace Go.Proofs.YtmbbagbhmjaedaaGreatDoor
open Go FM Go.Proofs Tryz
def tA(d:Dl)(a:Ac):Bool:=decide (a.1=d.1)&&decide (d.2.2.1<a.2.2.1)
def late(L:List Ac)(d:Dl):Bool:=decide (0<=cp (tA d) L 0)
theorem nN(a:Ac)(d:Dl):FnSpec Sy.P 141 [bz a,.pt false [.str d.1,.str d.2.1,.int d.2.2.1,.int d.2.2.2.1,.int d.2.2.2.2.1,.int d.2.2.2.2.2.1]] [bz a,.pt false [.str d.1,.str d.2.1,.int d.2.2.1,.int d.2.2.2.1,.int d.2.2.2.2.1,.int d.2.2.2.2.2.1]] (.bool (tA d a)):=by
 unfold tA;obtain⟨s,t,n,m,f,z,u⟩:=d;obtain⟨s',m',n',u'⟩:=a;refine bQ func141 ntmps141 fun v0=>?_;by_cases h:s'=s
 ·rw [decide_eq_true h,Bool.true_and];repeat' first|refine aG ?_|(refine aK ?_ ?_<;>intro _<;>try exact aE)|fail
  all_goals exact bw
 ·rw [decide_eq_false h,aiL];repeat' first|refine aG ?_|(refine aK ?_ ?_<;>intro _<;>try exact aE)|fail
  all_goals exact bw
theorem zK{d:Dl}{m:Nat}{v:Nat->Value}{N:Nat}{σ:St}{t q:Nat}(ht:FM.get σ t=.clo 141 [q])(h1:FM.get σ q=.av (.pt true [.str d.1,.str d.2.1,.int d.2.2.1,.int d.2.2.2.1,.int d.2.2.2.2.1,.int d.2.2.2.2.2.1])):aX (Sy.fixed m v) N σ (.tmp t) true (ud (fun _=>True) (tA d)) :=
 cloAc (zs:=[.pt false [.str d.1,.str d.2.1,.int d.2.2.1,.int d.2.2.2.1,.int d.2.2.2.2.1,.int d.2.2.2.2.2.1]]) ht (.cons h1 rfl .nil) (nN ([],0,0,()) d0).ok fun x _=>nN x d
theorem qh(l:List Ac)(p:Ac->Bool)(hl:l.length<=9223372036854775807):FnSpec Sy.P 140 [.sl false 3 (l.map bz),ud (fun _=>True) p] [.sl false 3 (l.map bz),ud (fun _=>True) p] (.bool (decide (0<=cp p l 0))):=by
 have hI:=gu l (fun _=>True) p hl (fun _ _=>trivial);refine bQ func140 ntmps140 fun v0=>?_;repeat' first|refine aG ?_|refine aF (hI) ?_|fail
 exact .mk rfl rfl rfl
theorem pP(d:Dl)(L:List Ac)(hl:L.length<=9223372036854775807):FnSpec Sy.P 139 [bL d,.pt false [.sl false 3 (L.map bz)]] [bL d,.pt false [.sl false 3 (L.map bz)]] (.bool (late L d)):=by
 have hI:=qh L (tA d) hl;unfold late;refine bQ func139 ntmps139 fun v0=>?_;repeat' first|((with_reducible apply J.step);rfl;(exact ry (caps:=[2]) rfl rfl))|refine aG ?_|((with_reducible first|apply J.bq (hI)|apply J.dE (hI));rfl;rfl;(repeat' (first|exact aV.nil|exact zK rfl rfl|apply aV.cons|exact aX.pl rfl rfl|exact aX.br rfl AV.noConfusion (by first|rfl|exact dr|exact c7|exact cD|exact dL|exact bG (fun _=>rfl))));(first|rfl|exact Be|exact Bf))
 exact .mk rfl rfl rfl
def Xm(l:List Dl)(L:List Ac):Int:=if gY l≠0 then gY l else if eh L≠0 then eh L else 0
def KQ(l:List Dl)(L:List Ac):List Dl:=l.filter fun d=>!late L d
theorem MB{L:List Ac}:(AV.pt true [.sl false 3 (L.map bz)]).sh=.pt false [.sl false 3 (L.map bz)]:=by
 show AV.pt false [AV.sl false 3 (AV.Bb (L.map bz))]=_;rw [fZ bz L bz (fun _=>rfl)]
theorem zL{L:List Ac}{m:Nat}{v:Nat->Value}{N:Nat}{σ:St}{ms:List (Nat×Nat)}{i t q:Nat}(hl:L.length<=9223372036854775807)(ht:FM.get σ t=.clo 139 [q])(h1:FM.get σ q=.av (.pt true [.sl false 3 (L.map bz)]))(hm:idxM ms q=none):ArgM (Sy.fixed m v) N σ ms i (.tmp t) (ug (fun _=>True) (late L)) :=
 ArgM.clo (zs:=[.pt false [.sl false 3 (L.map bz)]]) rfl ht (.cons h1 hm MB .nil) (pP d0 [] ag).ok (fun ws hd=>by obtain⟨x,rfl,hx⟩:=hd;exact pP x L hl) (fun ws hd=>by obtain⟨x,rfl,hx⟩:=hd;rfl)
theorem B8(l:List Dl)(L:List Ac)(hl:qH l)(hL:kz L):FnSpec Sy.P 102 [.sl false 6 (l.map bL),.sl false 3 (L.map bz)] [.sl false 6 (l.map bL),.sl false 3 (L.map bz)] (oW (KQ l L) (Xm l L)):=by
 have hC:=iC l hl;have qe:=gX L hL;have KO:=e9 l;have U0:=de L;unfold Xm oW KQ;by_cases c1:gY l=0
 ·have hok:=iQ c1;rw [c1] at hC;rw [if_neg (not_not_intro c1)];have B5:=hok.len;have eP:=eG l ae;by_cases c2:eh L=0
  ·rw [if_neg (not_not_intro c2),if_pos rfl];rw [c2] at qe;have hDf:=F4 l (fun _=>True) (late L) ae (fun _ _=>trivial);refine bQ func102 ntmps102 fun v0=>?_;repeat' first|(refine J.H8 hDf rfl rfl rfl rfl rfl (.cons (zL hL.len rfl rfl rfl) .nil) zB .dead ?_)|((with_reducible apply J.step);rfl;(exact ry (caps:=[3]) rfl rfl))|refine aG ?_|refine aF (hC) ?_|refine aF (qe) ?_|refine aF (eP) ?_|(refine aK ?_ ?_<;>intro _<;>try exact aE)|fail
   all_goals exact bw
  ·rw [if_pos c2,if_neg c2];generalize eh L=e at *;refine bQ func102 ntmps102 fun v0=>?_;repeat' first|refine aG ?_|refine aF (hC) ?_|refine aF (qe) ?_|(refine aK ?_ ?_<;>intro _<;>try exact aE)|fail
   all_goals exact bw
 ·rw [if_pos c1,if_neg c1];generalize gY l=e at *;refine bQ func102 ntmps102 fun v0=>?_;repeat' first|refine aG ?_|refine aF (hC) ?_|(refine aK ?_ ?_<;>intro _<;>try exact aE)|fail
  all_goals exact bw
end Go.Proofs.YtmbbagbhmjaedaaGreatDoor
namespace Go.Proofs.YtmbbagbhmjaedaaGreatDoor
open Go FM Go.Proofs
variable {w:bd}{room:Int}
def ID(A:List Ac)(k w:bd)(m:Int):Int:=if oy A w m≠0 then oy A w m else kS k (gA w m)
def KS(A:List Ac)(k w:bd)(m:Int):List Ac:=if ID A k w m=0 then nI A w m else A
def KT(A:List Ac)(k w:bd)(m:Int):bd:=if ID A k w m=0 then k++lF (gA w m) else k
theorem xi{A:List Ac}{m:Int}(h:oy A w m=0):eh A=0/\gV w=true/\(0<=m/\m<=1000000)/\A.length<6:=by
 unfold oy at h;by_cases c1:eh A≠0
 ·rw [if_pos c1] at h;exact absurd h c1
 rw [if_neg c1] at h;by_cases c2:gV w=false
 ·rw [if_pos c2] at h;cases h
 rw [if_neg c2] at h;by_cases c3:jo m=false
 ·rw [if_pos c3] at h;cases h
 rw [if_neg c3] at h;by_cases c4:0<=fA A w
 ·rw [if_pos c4] at h;cases h
 rw [if_neg c4] at h;by_cases c5:6<=A.length
 ·rw [if_pos c5] at h;cases h
 have c3:jo m=true:=by simpa using c3
 unfold jo at c3;rw [decide_eq_true_eq] at c3;exact⟨Classical.not_not.1 c1,by simpa using c2,c3,ae⟩
theorem zM{m:Int}(h:gV w=true)(hm:0<=m/\m<=1000000):(gA w m).length<=20:=by
 have h1:=cI h;have h2:=Zp.fB m hm.1 hm.2;unfold gA;simp only [ahC,ahI,aim];omega
abbrev bT(O:List Dl)(A:List Ac)(w:bd)(room:Int):List Int:=kA O A w room 1001
abbrev bA(O:List Dl)(A:List Ac)(w:bd)(room:Int):List Ac:=Ek O A w room 1001
def rk(O:List Dl)(w:bd)(T:List Int):List bd:=T.map fun x=>gz (fq O x) w
def fa(O:List Dl):List Int->Int
 | []=>0
 | x::T=>fee (fq O x)+fa O T
theorem zN(O:List Dl):∀ (a b:List Int),fa O (a++b)=fa O a+fa O b
 | [],b=>by simp [fa]
 | x::a,b=>by rw [aiO,fa,fa,zN O a b];omega
theorem Em{l:List Dl}{w:bd}:∀ (f:Nat) (L:List Ac) (room:Int),∀ x∈(uk l w f L room).1,∃ i:Nat,i<l.length/\x=(i:Int)
 | 0,L,room,x,h=>by simp [uk] at h
 | f+1,L,room,x,h=>by
  by_cases c:dF l L w room=0
  ·obtain⟨_,_,_,i,hi,hk,hd,_,_,_⟩:=zH c;rw [kZ c hk hd] at h;rcases ah1.1 h with rfl|h
   ·exact⟨i,hi,rfl⟩
   ·exact Em f _ _ x h
  ·rw [nM c] at h;cases h
theorem B9{O:List Dl}{A:List Ac}:∀ x∈bT O A w room,∃ i:Nat,i<O.length/\x=(i:Int):=by
 intro x h;unfold bT kA at h;split at h
 ·exact Em _ _ _ x h
 ·cases h
theorem mI{O:List Dl}{A:List Ac}(h:oz O A w room=0):gY O=0/\eh A=0/\0<=room/\room<=1000:=by
 unfold oz at h;by_cases c:dF O A w room=0∨dF O A w room=4
 ·exact xg c
 ·rw [if_neg c] at h;exact absurd (.inl h) c
theorem IE{O:List Dl}{A:List Ac}:((bT O A w room).length:Int)<=1000:=by
 unfold bT kA;split
 ·rename_i c;obtain⟨_,_,h1,h2⟩:=mI c;have:=xh (l:=O) (w:=w) 1001 A room h1;omega
 ·simp
theorem IF{l:List Dl}{w:bd}:∀ (f:Nat) (L:List Ac) (room:Int),eh L=0->kz L->eh (uk l w f L room).2=0/\kz (uk l w f L room).2
 | 0,L,room,h,hl=>⟨h,hl⟩
 | f+1,L,room,h,hl=>by
  by_cases c:dF l L w room=0
  ·obtain⟨_,_,_,i,hi,hk,hd,oA,_,_⟩:=zH c;rw [kZ c hk hd];exact IF f _ _ (xf oA).2.2 (rR hl)
  ·rw [nM c];exact⟨h,hl⟩
theorem En{O:List Dl}{A:List Ac}(h:oz O A w room=0)(hA:kz A):eh (bA O A w room)=0/\kz (bA O A w room):=by
 unfold bA Ek;rw [if_pos h];exact IF _ _ _ (mI h).2.1 hA
theorem vh{O:List Dl}(h:gY O=0){x:Int}(hx:∃ i:Nat,i<O.length/\x=(i:Int)):ue (fq O x):=by
 obtain⟨i,hi,rfl⟩:=hx;have:fq O (i:Int)=O[i]:=by unfold fq;rw [ahN];exact jU hi
 rw [this];exact(iQ h).ok _ (ahB hi)
theorem Ca{A:List Ac}(h:0<=fA A w)(hA:eh A=0):gV w=true:=by
 obtain⟨i,hi,_,e⟩:=rP h;rw [<- e];exact((iN hA).nm _ (ahB hi))
def zO(O:List Dl)(A:List Ac)(k w:bd)(room:Int):Int :=
 if fA A w<0 then 4 else if oz O A w room≠0 then oz O A w room else if 4000<k.length+(dk (rk O w (bT O A w room))).length then 8 else 0
def KU(O:List Dl)(A:List Ac)(k w:bd)(room:Int):List Ac:=if zO O A k w room=0 then bA O A w room else A
def KV(O:List Dl)(A:List Ac)(k w:bd)(room:Int):List Dl:=if zO O A k w room=0 then KQ O (bA O A w room) else O
def KW(O:List Dl)(A:List Ac)(k w:bd)(room:Int):bd:=if zO O A k w room=0 then k++dk (rk O w (bT O A w room)) else k
def Q6(O:List Dl)(A:List Ac)(k w:bd)(room:Int):Int:=if zO O A k w room=0 then(bT O A w room).length else 0
def Q7(O:List Dl)(A:List Ac)(k w:bd)(room:Int):Int:=if zO O A k w room=0 then fa O (bT O A w room) else 0
theorem Q8{O:List Dl}{A:List Ac}{k:bd}(h:zO O A k w room=0):0<=fA A w/\oz O A w room=0/\k.length+(dk (rk O w (bT O A w room))).length<=4000:=by
 unfold zO at h;by_cases c1:fA A w<0
 ·rw [if_pos c1] at h;cases h
 rw [if_neg c1] at h;by_cases c2:oz O A w room≠0
 ·rw [if_pos c2] at h;exact absurd h c2
 rw [if_neg c2] at h;by_cases c3:4000<k.length+(dk (rk O w (bT O A w room))).length
 ·rw [if_pos c3] at h;cases h
 exact⟨ae,Classical.not_not.1 c2,ae⟩
theorem Q9(O:List Dl)(w:bd)(a b:List Int):rk O w (a++b)=rk O w a++rk O w b:=ah0 ..
theorem nO(O:List Dl)(w:bd)(T:List Int){j:Nat}{x:Int}(h:T[j]?=some x):rk O w (T.take (j+1))=rk O w (T.take j)++[gz (fq O x) w]:=by
 rw [List.take_add_one,h,Q9];rfl
theorem zP(O:List Dl)(T:List Int){j:Nat}{x:Int}(h:T[j]?=some x):fa O (T.take (j+1))=fa O (T.take j)+fee (fq O x):=by
 rw [List.take_add_one,h,zN];simp [fa]
theorem xj(l:List bd)(j:Nat):(dk (l.take j)).length<=(dk l).length:=by
 rw [<- nA l j,ahC];omega
theorem nP(O:List Dl)(w:bd)(T:List Int)(j:Nat):(rk O w T).take j=rk O w (T.take j):=by unfold rk;rw [List.map_take]
theorem jW{O:List Dl}(h:gY O=0):∀ T:List Int,(∀ x∈T,∃ i:Nat,i<O.length/\x=(i:Int))->0<=fa O T/\fa O T<=1000000*T.length
 | [],_=>by simp [fa]
 | x::T,hT=>by
  have ih:=jW h T fun y hy=>hT y (ahW _ hy);have hx:=(vh h (hT x (ahU ..))).fee;rw [fa,ahI];unfold fee;omega
structure Hs where
 A:List Ac
 O:List Dl
 R:List Rc
 n:Int
abbrev Hs.k(s:Hs):bd:=dk (s.R.map Rc.str)
structure k8(s:Hs):Prop where
 a:kz s.A
 al:s.A.length<=6
 o:qH s.O
 ol:s.O.length<=20
 r:∀ x∈s.R,x.ok
 k:s.k.length<=4000
 n:0<=s.n/\s.n<=s.k.length
theorem xm{R:List Rc}(h:∀ x∈R,x.ok):∀ s∈R.map Rc.str,s.length<=64:=fun s hs=>by
 obtain⟨r,hr,rfl⟩:=ahY.1 hs;exact xc (h r hr)
theorem Va(R:List Rc):R.length<=(dk (R.map Rc.str)).length:=by
 have:=H4 (R.map Rc.str);rw [ahu] at this;exact this
theorem IG{s:Hs}(h:k8 s){m:Int}(hc:wU s.k s.n m=0):∃ R':List Rc,(∀ x∈R',x.ok)/\zh s.k s.n m=dk (R'.map Rc.str)/\Ea s.k s.n m=((dk (R'.map Rc.str)).length:Nat)/\(dk (R'.map Rc.str)).length<=4000/\R'.length<=4000:=by
 have hk:=h.k;have hn:=h.n;have hr:=h.r;unfold wU at hc;unfold zh Ea;unfold Hs.k at *;split at hc
 ·cases hc
 ·rename_i c;rw [if_neg c,if_neg c];obtain⟨j,h1,h2,h3,h4,_⟩:=rD (s.R.map Rc.str) (s.n+m).toNat (xm hr) ae;rw [h3];have e1:(dk (s.R.map Rc.str)).take (s.n+m).toNat=(dk (s.R.map Rc.str)).take (s.n+m).toNat:=rfl;have e2:((dk (s.R.map Rc.str)).take (s.n+m).toNat).take (dk ((s.R.map Rc.str).take j)).length=dk ((s.R.map Rc.str).take j):=by
   rw [List.take_take,Nat.min_eq_left h4,LV]
  rw [e2,<-List.map_take];have h5:=xj (s.R.map Rc.str) j;rw [<- List.map_take] at h5;have h6:=Va (s.R.take j);exact⟨s.R.take j,fun x hx=>hr x (aii hx),rfl,rfl,ae,ae⟩
theorem Ra{R:List Rc}(h:∀ x∈R,x.ok):kz (FY R)/\(FY R).length<=6:=by
 have key:∀ (R:List Rc) (A:List Ac),(∀ x∈R,x.ok)->kz A/\A.length<=6->kz (R.foldl KP A)/\(R.foldl KP A).length<=6:=fun R=>by
  induction R with
  | nil=>intro A _ h;exact h
  | cons r R ih =>
   intro A hR hA;refine ih _ (fun x hx=>hR x (ahW _ hx)) ⟨Ix hA.1 (hR r (ahU ..)),?_⟩
   cases r with
   | o s m =>
    show(qI (oy A s m) (nI A s m)).length<=6;unfold qI;split
    ·rename_i c;rw [D7];have:=(xi c).2.2.2;omega
    ·simp
   | d x w =>
    show(qI (pD A x w) (jP A x w)).length<=6;unfold qI;split
    ·rw [D6];exact hA.2
    ·simp
 exact key R [] h ⟨⟨ag,fun a ha=>by cases ha⟩,ag⟩
end Go.Proofs.YtmbbagbhmjaedaaGreatDoor
namespace Go.Proofs.YtmbbagbhmjaedaaGreatDoor
open Go FM Go.Proofs Tryz
theorem F5(R:List Rc)(hR:∀ r∈R,r.ok)(hRl:R.length<=4000):FnSpec Sy.P 24 [.sl false 1 ((R.map Rc.str).map .str)] [.sl false 1 ((R.map Rc.str).map .str)] (.sl true 3 ((FY R).map bz)):=by
 have hz:=zy R;have xd:∀ A,Q1 R R.length A->A=FY R:=fun A h=>by rw [h.eq,ah7]
 have TL:(R.map Rc.str).length=R.length:=ahu ..;have qZ:∀ i (h:i<R.length),(R.map Rc.str)[i]?=some R[i].str:=fun i h=>by rw [ahE,ahn h];rfl
 generalize R.map Rc.str=rs at *;refine bQ func24 ntmps24 fun v0=>?_;repeat' first|refine aG ?_|(refine aK ?_ ?_<;>intro _<;>try exact aE)|fail
 refine CW.NX (x:=.nil) 3 rfl (AV.le.nil (o:=true) (c:=3)) ?_;refine CW.loop (fun z:Nat×List Ac=>[(0,.av (.sl false 1 (rs.map .str))),(3,.av (.sl true 3 (z.2.map bz))),(12,.av (.sl false 1 (rs.map .str))),(13,.av (.int (R.length))),(14,.av (.int (z.1)))]) (fun z=>Q1 R z.1 z.2) (fun z=>R.length-z.1) ((0,[])) ?_ (by(repeat' (first|exact ky|refine And.intro ?_ ?_|exact bf (by rw [TL])))) ?_
 ·exact hz
 rintro⟨i,B⟩ hS;dsimp only at hS ⊢;by_cases hi:i<R.length
 ·have hg:=qZ i hi;have hok:=hR R[i] (ahB hi);have Iz:=zA hS (ahn hi) hok;have hF:=zm R[i].str (by have:=xc hok;omega) (FX hok);rw [B4 hok] at hF;have QW:=hS.al;have Xc:=so hok;have hwl:(jH R[i]).length<=8:=by cases R[i]<;>simp [jH]
  generalize R[i]=r at *;obtain⟨ws,hwe⟩:∃ ws,ws=jH r:=⟨_,rfl⟩;rw [<- hwe] at hF Xc hwl;generalize r.str=US at *;repeat' first|refine aG ?_|refine aF (hF) ?_|(refine aK ?_ ?_<;>intro _<;>try exact aE)|fail
  all_goals try exact aE
  refine CW.NX (x:=.nil) 7 rfl (AV.le.nil (o:=true) (c:=1)) ?_;refine CW.loop (fun j:Nat=>[(20,.ref 6),(0,.av (.sl false 1 (rs.map .str))),(3,.av (.sl true 3 (B.map bz))),(6,.av (strs true ws)),(7,.av (.sl true 1 (((ws.take j).map numOf).map .int))),(12,.av (.sl false 1 (rs.map .str))),(13,.av (.int (R.length))),(14,.av (.int (i))),(21,.av (.int (ws.length))),(22,.av (.int (j)))]) (fun j=>j<=ws.length) (fun j=>ws.length-j) (0) ?_ (ck) ?_
  ·exact ahQ _
  intro j hj;by_cases pI:j<ws.length
  ·have hgj:ws[j]?=some ws[j]:=ahn pI;have hA:=oR ws[j] (by have:=(Xc _ (ahB pI)).2;omega);have ab7:(ws.take (j+1)).map numOf=(ws.take j).map numOf++[numOf ws[j]]:=by rw [List.take_add_one,hgj,ah0];rfl
   have Vb:((ws.take j).map numOf).length=j:=by rw [ahu,ahF];omega
   generalize (ws.take j).map numOf=y at *;generalize numOf ws[j]=q at *;generalize ws[j]=wj at *;repeat' first|refine aG ?_|refine aF (hA) ?_|(refine aK ?_ ?_<;>intro _<;>try exact aE)|fail
   all_goals try exact aE
   refine⟨j+1,?_,fM,ck⟩;exact pI
  ·obtain rfl:j=ws.length:=ae;rw [ah7];subst hwe
   cases r with
   | o s m =>
    have hO:=(pN B s m QW (by have:=cI hok.1;omega)).le lK;have F0:KP B (.o s m)=qI (oy B s m) (nI B s m):=rfl;rw [F0] at Iz;generalize qI (oy B s m) (nI B s m)=B2 at *;generalize oy B s m=e at *;have w0:(jH (.o s m))[0]?=some [111]:=rfl;have w1:(jH (.o s m))[1]?=some s:=rfl;have y2:((jH (.o s m)).map numOf)[2]?=some m:=by show some (numOf (Lib.itoa m))=_;rw [dN hok.2.1]
    generalize (jH (.o s m)).map numOf=y at *;generalize jH (.o s m)=ws at *;repeat' first|((with_reducible refine Xd ?_);first|refine Mq 4 7 ?_|refine BY 3 8 ?_|refine FQ 2 9 ?_|refine BY 1 11 ?_|refine FQ 0 10 ?_|refine Mp ?_)|refine qf 7 5 ?_|refine aG ?_|refine aF (hO) ?_|(refine aK ?_ ?_<;>intro _<;>try exact aE)|fail
    all_goals try exact aE
    refine⟨(i+1,B2),?_,fM,ck⟩;all_goals first|exact Iz|omega
   | d x w =>
    have n1:=hok.1.num;have n2:=hok.1.much;have n3:=hok.1.fee;have n4:=hok.1.size;have hT:=(kX B x w QW (by have:=cI hok.1.f;omega) (by have:=cI hok.1.t;omega)).le lK;have F0:KP B (.d x w)=qI (pD B x w) (jP B x w):=rfl;rw [F0] at Iz;generalize qI (pD B x w) (jP B x w)=B2 at *;generalize pD B x w=e at *;have w0:(jH (.d x w))[0]?=some [100]:=rfl;have w1:(jH (.d x w))[1]?=some x.1:=rfl;have w2:(jH (.d x w))[2]?=some x.2.1:=rfl;have w7:(jH (.d x w))[7]?=some w:=rfl;have y3:((jH (.d x w)).map numOf)[3]?=some x.2.2.1:=by show some (numOf (Lib.itoa _))=_;rw [dN n1.1]
    have y4:((jH (.d x w)).map numOf)[4]?=some x.2.2.2.1:=by show some (numOf (Lib.itoa _))=_;rw [dN n2.1]
    have y5:((jH (.d x w)).map numOf)[5]?=some x.2.2.2.2.1:=by show some (numOf (Lib.itoa _))=_;rw [dN n3.1]
    have y6:((jH (.d x w)).map numOf)[6]?=some x.2.2.2.2.2.1:=by show some (numOf (Lib.itoa _))=_;rw [dN ae]
    generalize (jH (.d x w)).map numOf=y at *;generalize jH (.d x w)=ws at *;repeat' first|((with_reducible refine Xd ?_);first|refine Mq 4 23 ?_|refine BY 3 24 ?_|refine FQ 2 25 ?_|refine BY 1 27 ?_|refine FQ 0 26 ?_|refine Mp ?_)|refine qf 23 5 ?_|refine aG ?_|refine aF (hT) ?_|(refine aK ?_ ?_<;>intro _<;>try exact aE)|fail
    all_goals try exact aE
    refine⟨(i+1,B2),?_,fM,ck⟩;all_goals first|exact Iz|omega
 ·obtain rfl:i=R.length:=by have:=hS.le;omega
  have hB:=xd B hS;subst hB;repeat' first|refine aG ?_|(refine aK ?_ ?_<;>intro _<;>try exact aE)|fail
  all_goals exact bw
def kp(L:List Ac)(d:Dl):Bool:=decide (fA L d.1<0∨(L.getD (fA L d.1).toNat ([],0,0,())).2.2.1<=d.2.2.1)
theorem MC{L:List Ac}(h:Uq L)(d:Dl):kp L d=!late L d:=by
 have px:∀ a∈L,∀ b∈L,a.1=b.1->a=b:=fun a ha b hb e=>by
  obtain⟨i,hi,rfl⟩:=aip.1 ha;obtain⟨j,hj,rfl⟩:=aip.1 hb;rcases Nat.lt_trichotomy i j with c|c|c
  ·have:=ain.1 h.srt i j hi hj c;rw [e] at this;exact absurd this (List.lt_irrefl _)
  ·subst c;rfl
  ·have:=ain.1 h.srt j i hj hi c;rw [e] at this;exact absurd this (List.lt_irrefl _)
 unfold kp late;rw [<- decide_not,decide_eq_decide];by_cases c:fA L d.1<0
 ·have dJ:=lI (p:=fun a:Ac=>decide (a.1=d.1)) c;refine⟨fun _ h0=>?_,fun _=>.inl c⟩;obtain⟨i,hi,_,hp,_⟩:=jV h0;have h2:=dJ _ (ahB hi);unfold tA at hp;rw [h2,aiL] at hp;cases hp
 ·obtain⟨i,hi,e1,n1⟩:=rP (l:=L) (s:=d.1) ae;rw [e1,ahN,ahK,ahn hi,ah8];constructor
  ·rintro(h1|h1) h0
   ·omega
   ·obtain⟨j,hj,_,hp,_⟩:=jV h0;unfold tA at hp;rw [aht,decide_eq_true_eq,decide_eq_true_eq] at hp;have:=px _ (ahB hj) _ (ahB hi) (hp.1.trans n1.symm);rw [this] at hp;omega
  ·intro h0;refine .inr (Classical.byContradiction fun h1=>h0 ?_);refine oQ (ahB hi) ?_;unfold tA;rw [decide_eq_true n1,decide_eq_true ae];rfl
theorem xo(l:List Dl)(L:List Ac)(hl:l.length<=1000)(hL:L.length<=9223372036854775807):FnSpec Sy.P 21 [.sl false 6 (l.map bL),.sl false 3 (L.map bz)] [.sl false 6 (l.map bL),.sl false 3 (L.map bz)] (.sl true 6 ((l.filter (kp L)).map bL)):=by
 refine bQ func21 ntmps21 fun v0=>?_;repeat' first|refine aG ?_|(refine aK ?_ ?_<;>intro _<;>try exact aE)|fail
 refine CW.NX (x:=.nil) 5 rfl (AV.le.nil (o:=true) (c:=6)) ?_;refine CW.loop (fun k:Nat=>[(1,.av (.sl false 3 (L.map bz))),(5,.av (.sl true 6 (((l.take k).filter (kp L)).map bL))),(9,.av (.sl false 6 (l.map bL))),(10,.av (.int (l.length))),(11,.av (.int (k)))]) (fun k=>k<=l.length) (fun k=>l.length-k) (0) ?_ (ck) ?_
 ·exact ahQ _
 intro k hk;by_cases aA:k<l.length
 ·have hx:l[k]?=some l[k]:=ahn aA;have hF:=e7 L l[k].1 hL;have iY:=eF L l[k].1;have hf:(l.take (k+1)).filter (kp L)=(l.take k).filter (kp L)++(if kp L l[k] then [l[k]] else []):=by
   rw [aid aA,List.filter_append];congr 1
   cases hp:kp L l[k]<;>simp [hp]
  have DV:=List.length_filter_le (kp L) (l.take k);rw [ahF] at DV;generalize YI:l[k]=d at *;by_cases c:fA L d.1<0
  ·have Ta:kp L d=true:=decide_eq_true (.inl c);rw [Ta,if_pos rfl] at hf;repeat' first|refine aG ?_|refine aF (hF) ?_|(refine aK ?_ ?_<;>intro _<;>try exact aE)|fail
   all_goals try exact aE
   refine⟨k+1,?_,fM,by(repeat' (first|exact ky|refine And.intro ?_ ?_|(refine(congrArg (fun z=>TV.av (AV.sl true 6 z)) ?_);rw [hf,ah0];rfl)))⟩;all_goals omega
  ·obtain⟨i,hi,e1,n1⟩:=rP (l:=L) (s:=d.1) ae;have ga:L[i]?=some L[i]:=ahn hi;rw [e1] at hF;have Ta:kp L d=decide (L[i].2.2.1<=d.2.2.1):=by
    unfold kp;rw [decide_eq_decide,e1,ahN,ahK,ga,ah8];constructor
    ·rintro(h|h)
     ·omega
     ·exact h
    ·exact .inr
   generalize L[i]=a at *;by_cases c2:a.2.2.1<=d.2.2.1
   ·rw [Ta,decide_eq_true c2,if_pos rfl] at hf;repeat' first|refine aG ?_|refine aF (hF) ?_|(refine aK ?_ ?_<;>intro _<;>try exact aE)|fail
    all_goals try exact aE
    refine⟨k+1,?_,fM,by(repeat' (first|exact ky|refine And.intro ?_ ?_|(refine(congrArg (fun z=>TV.av (AV.sl true 6 z)) ?_);rw [hf,ah0];rfl)))⟩;all_goals omega
   ·rw [Ta,decide_eq_false c2,if_neg af,ais] at hf;repeat' first|refine aG ?_|refine aF (hF) ?_|(refine aK ?_ ?_<;>intro _<;>try exact aE)|fail
    all_goals try exact aE
    refine⟨k+1,?_,fM,ck⟩;all_goals omega
 ·obtain rfl:k=l.length:=ae;rw [ah7];repeat' first|refine aG ?_|(refine aK ?_ ?_<;>intro _<;>try exact aE)|fail
  exact .mk rfl rfl rfl
end Go.Proofs.YtmbbagbhmjaedaaGreatDoor
