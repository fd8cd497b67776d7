/- Part of the proof. -/
import Derived.Test.YtmbbagbhmjaedaaGreatDoorCbj
import Derived.Test.YtmbbagbhmjaedaaGreatDoorCca
set_option linter.all false
set_option maxRecDepth 100000
set_option maxHeartbeats 4000000
namespace Go.Proofs.YtmbbagbhmjaedaaGreatDoor
open Go FM Go.Proofs Tryz
variable {k:Nat}{w:bd}
def Hb(l:List Ac)(d:Dl)(w:bd)(k:Nat):List Ac:=(l.take k).map (fun a=>SV d w (FJ d (uf d a)))++l.drop k
theorem Mu{l:List Ac}{d:Dl}(hk:k<=l.length):(Hb l d w k).length=l.length:=by
 unfold Hb;rw [ahC,ahu,ahF,ahV];omega
theorem Mv{l:List Ac}{d:Dl}(hk:k<l.length):(Hb l d w k)[k]?=some l[k]:=by
 unfold Hb;rw [ahJ (by rw [ahu,ahF];omega),ahu,ahF,ah5,ahn ae];congr 2;omega
theorem Iv{l:List Ac}{d:Dl}(hk:k<l.length):Hb l d w (k+1)=(Hb l d w k).set k (SV d w (FJ d (uf d l[k]))):=by
 unfold Hb;rw [aid hk,ah0,ahX,List.drop_eq_getElem_cons hk,List.set_append_right _ _ (by rw [ahu,ahF];omega),ahu,ahF,show k-min k l.length=0 by omega];rfl
theorem mid_end{l:List Ac}{d:Dl}:Hb l d w l.length=jP l d w:=by
 unfold Hb jP;rw [ah7,List.drop_length,ais]
theorem Iw{α:Type}{X:List α}{a:α}(h:X[k]?=some a):X.set k a=X:=by
 refine List.ext_getElem? fun i=>?_;rw [aio];by_cases e:k=i
 ·subst e;rw [if_pos rfl,if_pos (aho.1 h).1,h]
 ·rw [if_neg e]
theorem Y9{α:Type}{X:List α}{x:α}(h:k<X.length):(X.set k x)[k]?=some x:=List.getElem?_set_self h
theorem gs2{α:Type}{X:List α}{x y:α}(h:k<X.length):((X.set k y).set k x)[k]?=some x:=Y9 (by rw [aiy];exact h)
theorem gs3{α:Type}{X:List α}{x y z:α}(h:k<X.length):(((X.set k z).set k y).set k x)[k]?=some x:=gs2 (by rw [aiy];exact h)
theorem kX(l:List Ac)(d:Dl)(w:bd)(hL:kz l)(h1:d.1.length<=9223372036854775807)(h2:d.2.1.length<=9223372036854775807):FnSpec Sy.P 61 [.sl false 3 (l.map bz),bL d,.str w] [.sl false 3 (l.map bz),bL d,.str w] (nF (jP l d w) (pD l d w)):=by
 have hC:=iB l hL;have hR:=jO d h1 h2;have KO:=de l;have YB:=gI d;unfold pD nF;by_cases c1:eh l=0
 ·have hok:=iN c1;rw [c1] at hC;rw [if_neg (not_not_intro c1)];by_cases c2:lT d=0
  ·have yg:=oN c2;rw [c2] at hR;rw [if_neg (not_not_intro c2)];have YC:=hok.len;have k1:=yg.num;have k2:=yg.much;have k3:=yg.fee;refine bQ func61 ntmps61 fun v0=>?_;repeat' first|refine aG ?_|refine aF (hC) ?_|refine aF (hR) ?_|(refine aK ?_ ?_<;>intro _<;>try exact aE)|fail
   all_goals first|(exfalso;omega)|(exfalso;contradiction)|skip
   refine CW.loop (fun k:Nat=>[(0,.av (.sl false 3 (l.map bz))),(2,.av (.str w)),(4,.av (.pt true [.str d.1,.str d.2.1,.int d.2.2.1,.int d.2.2.2.1,.int d.2.2.2.2.1,.int d.2.2.2.2.2.1])),(28,.av (.sl true 1 ([d.1,d.2.1,w].map AV.str))),(29,.av (.int (3))),(30,.av (.int (k)))]) (fun k=>k<=3/\∀ (j:Nat) s,j<k->[d.1,d.2.1,w][j]?=some s->0<=fA l s) (fun k=>3-k) (0) ?_ (ck) ?_
   ·exact⟨ahQ _,fun j s hj=>absurd hj (ait _)⟩
   intro k ⟨hk,cZ⟩;by_cases aA:k<3
   ·have hx:[d.1,d.2.1,w][k]?=some ([d.1,d.2.1,w][k]'aA):=ahn aA;have hm:[d.1,d.2.1,w][k]'aA∈[d.1,d.2.1,w]:=ahB _;generalize [d.1,d.2.1,w][k]'aA=s at hx hm;have hF:=e7 l s hL.len;have hr:=eF l s;by_cases hn:fA l s<0
    ·have c3:fA l d.1<0∨fA l d.2.1<0∨fA l w<0:=by
      simp only [ah1,List.mem_nil_iff,or_false] at hm;rcases hm with rfl|rfl|rfl
      ·exact .inl hn
      ·exact .inr (.inl hn)
      ·exact .inr (.inr hn)
     rw [if_pos c3,if_neg af];repeat' first|refine aG ?_|refine aF (hF) ?_|(refine aK ?_ ?_<;>intro _<;>try exact aE)|fail
     all_goals exact bw
    ·repeat' first|refine aG ?_|refine aF (hF) ?_|(refine aK ?_ ?_<;>intro _<;>try exact aE)|fail
     all_goals try exact aE
     refine⟨k+1,?_,fM,ck⟩;refine⟨ae,fun j s' hj hs=>?_⟩;by_cases WZ:j=k
     ·subst WZ;rw [hx] at hs;cases hs;omega
     ·exact cZ j s' ae hs
   obtain rfl:k=3:=ae;have a1:=cZ 0 d.1 ae rfl;have a2:=cZ 1 d.2.1 ae rfl;have a3:=cZ 2 w ae rfl;have c3:¬ (fA l d.1<0∨fA l d.2.1<0∨fA l w<0):=ae;rw [if_neg c3];have aw:=e7 l d.1 hL.len;obtain⟨i,hi,e1,n1⟩:=rP (l:=l) (s:=d.1) ae;have ga:l[i]?=some l[i]:=ahn hi;rw [e1] at aw ⊢;rw [ahN,getD_at ga];have m1:=hok.mo _ (ahB hi);have m2:=hok.nu _ (ahB hi);generalize l[i]=a at ga n1 m1 m2 ⊢;by_cases c4:d.2.2.1≠a.2.2.1
   ·rw [if_pos c4,if_neg af];repeat' first|refine aG ?_|refine aF (aw) ?_|(refine aK ?_ ?_<;>intro _<;>try exact aE)|fail
    all_goals exact bw
   rw [if_neg c4];by_cases c5:a.2.1<d.2.2.2.1+d.2.2.2.2.1
   ·rw [if_pos c5,if_neg af];repeat' first|refine aG ?_|refine aF (aw) ?_|(refine aK ?_ ?_<;>intro _<;>try exact aE)|fail
    all_goals exact bw
   rw [if_neg c5];have eP:=gw l ae;repeat' first|refine aG ?_|refine aF (aw) ?_|refine aF (eP) ?_|(refine aK ?_ ?_<;>intro _<;>try exact aE)|fail
   all_goals try exact aE
   refine CW.loop (fun k:Nat=>[(2,.av (.str w)),(4,.av (.pt true [.str d.1,.str d.2.1,.int d.2.2.1,.int d.2.2.2.1,.int d.2.2.2.2.1,.int d.2.2.2.2.2.1])),(12,.av (.sl true 3 ((Hb l d w k).map bz))),(64,.av (.int (l.length))),(65,.av (.int (k)))]) (fun k=>k<=l.length) (fun k=>l.length-k) (0) ?_ (ck) ?_
   ·exact ahQ _
   intro k hk;by_cases aA:k<l.length
   ·have hX:=Mv (d:=d) (w:=w) aA;have hS:=Iv (d:=d) (w:=w) aA;have UQ:=Mu (d:=d) (w:=w) hk;have UR:k<(Hb l d w k).length:=by rw [UQ];exact aA
    have m3:=hok.mo _ (ahB aA);have m4:=hok.nu _ (ahB aA);generalize l[k]=b at hX hS m3 m4;generalize Hb l d w k=X at hX hS UQ UR ⊢;have g1:(X.set k (b.1,b.2.1,b.2.2.1+1,()))[k]?=some (b.1,b.2.1,b.2.2.1+1,()):=Y9 UR;have g2:((X.set k (b.1,b.2.1,b.2.2.1+1,())).set k (b.1,b.2.1-(d.2.2.2.1+d.2.2.2.2.1),b.2.2.1+1,()))[k]?=some (b.1,b.2.1-(d.2.2.2.1+d.2.2.2.2.1),b.2.2.1+1,()):=gs2 UR;have g3:(((X.set k (b.1,b.2.1,b.2.2.1+1,())).set k (b.1,b.2.1-(d.2.2.2.1+d.2.2.2.2.1),b.2.2.1+1,())).set k (b.1,b.2.1-(d.2.2.2.1+d.2.2.2.2.1)+d.2.2.2.1,b.2.2.1+1,()))[k]?=some (b.1,b.2.1-(d.2.2.2.1+d.2.2.2.2.1)+d.2.2.2.1,b.2.2.1+1,()):=gs3 UR;have g4:(X.set k (b.1,b.2.1+d.2.2.2.1,b.2.2.1,()))[k]?=some (b.1,b.2.1+d.2.2.2.1,b.2.2.1,()):=Y9 UR;repeat' first|((with_reducible apply J.fJ);rfl;(exact BI rfl rfl (by assumption) rfl rfl rfl))|((with_reducible apply J.fJ);rfl;(exact BJ rfl rfl (by assumption) rfl rfl rfl))|refine aG ?_|(refine aK ?_ ?_<;>intro _<;>try exact aE)|fail
    all_goals first|(exfalso;omega)|(exfalso;contradiction)|skip
    all_goals by_cases b1:b.1=d.1
    all_goals by_cases b2:b.1=d.2.1
    all_goals by_cases b3:b.1=w
    all_goals first|(exfalso;contradiction)|skip
    all_goals first|have q1:=eq_false b1|have q1:=eq_true b1
    all_goals first|have q2:=eq_false b2|have q2:=eq_true b2
    all_goals first|have q3:=eq_false b3|have q3:=eq_true b3
    all_goals (
     refine⟨k+1,?_,fM,by(repeat' (first|exact ky|refine And.intro ?_ ?_|(refine rJ ?_;rw [hS];simp only [ahN,List.set_set,uf,FJ,SV,Ie,Mc,Md,q1,q2,q3,if_true,if_false,ite_true,ite_false];try exact(Iw hX).symm)))⟩)
    all_goals omega
   ·obtain rfl:k=l.length:=ae;rw [mid_end];have qe:=iB (jP l d w) (rR hL);have YD:=de (jP l d w);by_cases c6:eh (jP l d w)≠0
    ·rw [if_pos c6,if_neg af];generalize eh (jP l d w)=e6 at *;repeat' first|refine aG ?_|refine aF (qe) ?_|(refine aK ?_ ?_<;>intro _<;>try exact aE)|fail
     all_goals exact bw
    ·rw [if_neg c6,if_pos rfl];rw [Classical.not_not.1 c6] at qe;repeat' first|refine aG ?_|refine aF (qe) ?_|(refine aK ?_ ?_<;>intro _<;>try exact aE)|fail
     all_goals exact bw
  ·rw [if_pos c2,if_neg c2];generalize lT d=e at *;refine bQ func61 ntmps61 fun v0=>?_;repeat' first|refine aG ?_|refine aF (hC) ?_|refine aF (hR) ?_|(refine aK ?_ ?_<;>intro _<;>try exact aE)|fail
   all_goals exact bw
 ·rw [if_pos c1,if_neg c1];generalize eh l=e at *;refine bQ func61 ntmps61 fun v0=>?_;repeat' first|refine aG ?_|refine aF (hC) ?_|refine aF (hR) ?_|(refine aK ?_ ?_<;>intro _<;>try exact aE)|fail
  all_goals exact bw
end Go.Proofs.YtmbbagbhmjaedaaGreatDoor
namespace Go.Proofs.YtmbbagbhmjaedaaGreatDoor
open Go FM Go.Proofs
def qI(e:Int)(l:List Ac):List Ac:=if e=0 then l else []
theorem lK{l:List Ac}{e:Int}:AV.le (nF l e) (.tup [.sl true 3 ((qI e l).map bz),.int e]):=by
 unfold nF qI;by_cases c:e=0
 ·rw [if_pos c,if_pos c,c];exact .refl _
 ·rw [if_neg c,if_neg c];exact nB .nil (.refl _)
inductive Rc where
 | o (s:bd) (m:Int)
 | d (x:Dl) (w:bd)
def Rc.str:Rc->bd
 | .o s m=>gA s m
 | .d x w=>gz x w
def Rc.ok:Rc->Prop
 | .o s m=>gV s=true/\0<=m/\m<=1000000
 | .d x w=>ue x/\gV w=true
def KP(A:List Ac):Rc->List Ac
 | .o s m=>qI (oy A s m) (nI A s m)
 | .d x w=>qI (pD A x w) (jP A x w)
theorem Mw{A:List Ac}{s:bd}{m:Int}(h:oy A s m=0):eh A=0:=by
 unfold oy at h;by_cases c:eh A=0
 ·exact c
 ·rw [if_pos c] at h;exact absurd h c
theorem Ix{A:List Ac}{r:Rc}(hA:kz A)(hr:r.ok):kz (KP A r):=by
 cases r with
 | o s m =>
  show kz (qI (oy A s m) (nI A s m));unfold qI;by_cases c:oy A s m=0
  ·rw [if_pos c];have hp:=rU (l:=A) (s:=s) (m:=m);have h6:=(iN (Mw c)).len;refine⟨?_,fun a ha=>?_⟩
   ·rw [<- hp.length_eq,ahC];simp;omega
   ·have:=hp.mem_iff.2 ha;rcases aie.1 this with h|h
    ·exact hA.str a h
    ·rw [ahL] at h;subst h;have:=cI hr.1;show s.length<=_;omega
  ·rw [if_neg c];exact⟨ag,fun a ha=>by cases ha⟩
 | d x w =>
  show kz (qI (pD A x w) (jP A x w));unfold qI;by_cases c:pD A x w=0
  ·rw [if_pos c];exact rR hA
  ·rw [if_neg c];exact⟨ag,fun a ha=>by cases ha⟩
def jH:Rc->List bd
 | .o s m=>QS s m
 | .d x w=>UH x w
theorem B1(r:Rc):r.str=Zp.jn (jH r):=by
 cases r with
 | o s m=>exact xa s m
 | d x w=>exact Ee x w
theorem so{r:Rc}(h:r.ok):∀ s∈jH r,Zp.Wd s/\s.length<=8:=by
 have one:∀ c:UInt8,48<=c.toNat->c.toNat<128->Zp.Wd [c]/\[c].length<=8:=fun c h1 h2=>⟨⟨ag,fun b hb=>by rw [ahL.1 hb];exact Zp.sg h1 h2⟩,ag⟩;have num:∀ n:Int,0<=n->n<=1000000->Zp.Wd (Lib.itoa n)/\(Lib.itoa n).length<=8:=fun n h1 h2=>⟨Zp.Mr h1,ahZ (Zp.fB n h1 h2) ae⟩
 cases r with
 | o s m =>
  intro x hx;simp only [jH,QS,ah1,aiK,or_false] at hx;rcases hx with rfl|rfl|rfl
  ·exact one 111 af af
  ·exact⟨Ed h.1,(cI h.1).2⟩
  ·exact num m h.2.1 h.2.2
 | d y w =>
  have n1:=h.1.num;have n2:=h.1.much;have n3:=h.1.fee;have n4:=h.1.size;intro x hx;simp only [jH,UH,ah1,aiK,or_false] at hx;rcases hx with rfl|rfl|rfl|rfl|rfl|rfl|rfl|rfl
  ·exact one 100 af af
  ·exact⟨Ed h.1.f,(cI h.1.f).2⟩
  ·exact⟨Ed h.1.t,(cI h.1.t).2⟩
  ·exact num _ n1.1 n1.2
  ·exact num _ n2.1 n2.2
  ·exact num _ n3.1 n3.2
  ·exact num _ ae ae
  ·exact⟨Ed h.2,(cI h.2).2⟩
theorem Iy(r:Rc):jH r≠[]:=by cases r<;>simp [jH]
theorem B3{r:Rc}(h:r.ok):pieces r.str [32]=jH r:=by
 have hn:∀ s∈jH r,∀ b∈s,b≠32:=fun s hs b hb=>((so h s hs).1.ns b hb).1;unfold pieces;rw [Lib.splitB_data,B1];show Lib.splitK [32] 0 (Lib.count (Zp.jn (jH r)) [32]) (Zp.jn (jH r))=_;rw [Zp.zr (Iy r) hn,Zp.u5 (Iy r) hn]
theorem B4{r:Rc}(h:r.ok):Lib.fields r.str=jH r:=by
 rw [B1];exact Zp.u6 fun s hs=>(so h s hs).1
theorem dN{n:Int}(h:0<=n):numOf (Lib.itoa n)=n:=by unfold numOf;rw [Zp.FR n h];rfl
theorem xc{r:Rc}(h:r.ok):r.str.length<=64:=by
 cases r with
 | o s m =>
  have h1:=cI h.1;have h2:=Zp.fB m h.2.1 h.2.2;show(gA s m).length<=64;unfold gA;simp only [ahC,ahI,aim];omega
 | d x w=>have:=jr h.1 (cI h.2).2;show(gz x w).length<=64;omega
theorem FX{r:Rc}(h:r.ok):∀ b∈r.str,b.toNat<128:=by
 have key:∀ l:List bd,(∀ s∈l,∀ b∈s,b.toNat<128)->∀ b∈Zp.jn l,b.toNat<128:=fun l=>by
  induction l with
  | nil=>intro _ b hb;cases hb
  | cons x r ih =>
   intro hl b hb
   cases r with
   | nil=>exact hl x ag b hb
   | cons y r =>
    have hb:b∈x++32::Zp.jn (y::r):=hb;rcases aie.1 hb with hb|hb
    ·exact hl x ag b hb
    ·rcases ah1.1 hb with rfl|hb
     ·decide
     ·exact ih (fun s hs=>hl s (ahW _ hs)) b hb
 rw [B1];exact key _ fun s hs b hb=>((so h s hs).1.ns b hb).2.2
end Go.Proofs.YtmbbagbhmjaedaaGreatDoor
namespace Go.Proofs.YtmbbagbhmjaedaaGreatDoor
open Go FM Go.Proofs Tryz
def FY(R:List Rc):List Ac:=R.foldl KP []
structure Q1(R:List Rc)(k:Nat)(A:List Ac):Prop where
 le:k<=R.length
 eq:A=FY (R.take k)
 al:kz A
theorem zy(R:List Rc):Q1 R 0 []:=⟨ahQ _,rfl,⟨ag,fun a ha=>by cases ha⟩⟩
theorem zA{R:List Rc}{k:Nat}{A:List Ac}{r:Rc}(h:Q1 R k A)(hr:R[k]?=some r)(hok:r.ok):Q1 R (k+1) (KP A r) :=
 ⟨(aho.1 hr).1,by rw [FY,List.take_add_one,hr,List.foldl_append,h.eq];rfl,Ix h.al hok⟩
def xk(x:Dl):Nat->List Int
 | 0=>[0,0,0,0]
 | 1=>[x.2.2.1,0,0,0]
 | 2=>[x.2.2.1,x.2.2.2.1,0,0]
 | 3=>[x.2.2.1,x.2.2.2.1,x.2.2.2.2.1,0]
 | _=>[x.2.2.1,x.2.2.2.1,x.2.2.2.2.1,x.2.2.2.2.2.1]
theorem FZ(A:List Ac)(O:List Dl)(k:bd)(n:Int)(R:List Rc)(hk:k.length<=4000)(hs:(scan k).1=R.map Rc.str)(hR:∀ r∈R,r.ok)(hRl:R.length<=4000):
  FnSpec Sy.P 74 [km A O k n] [km (FY R) [] k n] (.tup []):=by
 have h1:=zg k n hk;rw [hs] at h1;have hz:=zy R;have xd:∀ A,Q1 R R.length A->A=FY R:=fun A h=>by rw [h.eq,ah7]
 have TL:(R.map Rc.str).length=R.length:=ahu ..;have qZ:∀ i (h:i<R.length),(R.map Rc.str)[i]?=some R[i].str:=fun i h=>by rw [ahE,ahn h];rfl
 generalize R.map Rc.str=rs at *;refine FnSpec.enter (S:=Sy) 1 func74 rfl rfl rfl ntmps74 rfl rfl rfl rfl fun v0=>?_;repeat' first|((with_reducible apply J.step);rfl;((with_reducible apply jS)<;>(first|rfl|exact AV.noConfusion)))|refine aG ?_|refine aF (h1) ?_|(refine aK ?_ ?_<;>intro _<;>try exact aE)|fail
 refine CW.NX (x:=.nil) 2 rfl (AV.le.nil (o:=true) (c:=3)) ?_;refine CW.loop (fun z:Nat×List Ac=>[(0,.av (km A O k n)),(2,.av (.sl true 3 (z.2.map bz))),(14,.av (strs true rs)),(15,.av (.int (R.length))),(16,.av (.int (z.1)))]) (fun z=>Q1 R z.1 z.2) (fun z=>R.length-z.1) ((0,[])) ?_ (by(repeat' (first|exact ky|refine And.intro ?_ ?_|exact bf (by rw [TL])))) ?_
 ·exact hz
 rintro⟨i,B⟩ hS;dsimp only at hS ⊢;by_cases hi:i<R.length
 ·have hg:=qZ i hi;have hok:=hR R[i] (ahB hi);have Iz:=zA hS (ahn hi) hok;have Za:=BT R[i].str [32] (by have:=xc hok;omega) ag;rw [B3 hok] at Za;have QW:=hS.al;have Xc:=so hok;generalize R[i]=r at *
  cases r with
  | o s m =>
   have hA:=oR (Lib.itoa m) (by have:=Zp.fB m hok.2.1 hok.2.2;omega);rw [dN hok.2.1] at hA;have hO:=(uX B s m QW (by have:=cI hok.1;omega)).le lK;have F0:KP B (.o s m)=qI (oy B s m) (nI B s m):=rfl;rw [F0] at Iz;generalize qI (oy B s m) (nI B s m)=B2 at *;generalize oy B s m=e at *;have w0:(jH (.o s m))[0]?=some [111]:=rfl;have w1:(jH (.o s m))[1]?=some s:=rfl;have w2:(jH (.o s m))[2]?=some (Lib.itoa m):=rfl;generalize jH (.o s m)=ws at *;generalize Lib.itoa m=z at *;generalize (Rc.o s m).str=US at *;repeat' first|refine aG ?_|refine aF (Za) ?_|refine aF (hA) ?_|refine aF (hO) ?_|(refine aK ?_ ?_<;>intro _<;>try exact aE)|fail
   all_goals try exact aE
   refine⟨(i+1,B2),?_,fM,ck⟩;all_goals first|exact Iz|omega
  | d x w =>
   have hn:=si hok.1;have hT:=(oO B x w QW (by have:=cI hok.1.f;omega) (by have:=cI hok.1.t;omega)).le lK;have F0:KP B (.d x w)=qI (pD B x w) (jP B x w):=rfl;rw [F0] at Iz;generalize qI (pD B x w) (jP B x w)=B2 at *;generalize pD B x w=e at *;have w0:(jH (.d x w))[0]?=some [100]:=rfl;have w1:(jH (.d x w))[1]?=some x.1:=rfl;have w2:(jH (.d x w))[2]?=some x.2.1:=rfl;have w7:(jH (.d x w))[7]?=some w:=rfl;have w3:∀ j,j<4->∃ n,0<=n/\n<=1000000/\(jH (.d x w))[3+j]?=some (Lib.itoa n)/\(xk x j).set j n=xk x (j+1):=fun j hj=>by
    have h1:=hok.1.num;have h2:=hok.1.much;have h3:=hok.1.fee;have h4:=hok.1.size
    match j,hj with
    | 0,_=>exact⟨_,h1.1,h1.2,rfl,rfl⟩
    | 1,_=>exact⟨_,h2.1,h2.2,rfl,rfl⟩
    | 2,_=>exact⟨_,h3.1,h3.2,rfl,rfl⟩
    | 3,_=>exact⟨_,ae,ae,rfl,rfl⟩
   have wl:(jH (.d x w)).length=8:=rfl;have xl:∀ j,j<=4->(xk x j).length=4:=fun j hj=>by
    match j,hj with
    | 0,_=>rfl
    | 1,_=>rfl
    | 2,_=>rfl
    | 3,_=>rfl
    | 4,_=>rfl
   have x0:(xk x 4)[0]?=some x.2.2.1:=rfl;have x1:(xk x 4)[1]?=some x.2.2.2.1:=rfl;have x2:(xk x 4)[2]?=some x.2.2.2.2.1:=rfl;have x3:(xk x 4)[3]?=some x.2.2.2.2.2.1:=rfl;have xz:xk x 0=[0,0,0,0]:=rfl;generalize jH (.d x w)=ws at *;generalize (Rc.d x w).str=US at *;repeat' first|refine aG ?_|refine aF (Za) ?_|(refine aK ?_ ?_<;>intro _<;>try exact aE)|fail
   all_goals try exact aE
   refine CW.loop (fun j:Nat=>[(0,.av (km A O k n)),(2,.av (.sl true 3 (B.map bz))),(5,.av (strs true ws)),(8,.av (.pt true ((xk x j).map .int))),(14,.av (strs true rs)),(15,.av (.int (R.length))),(16,.av (.int (i))),(42,.av (.int (j)))]) (fun j=>j<=4) (fun j=>4-j) (0) ?_ (ck) ?_
   ·exact ahQ _
   intro j hj;by_cases UT:j<4
   ·obtain⟨q,q0,q1,q2,q3⟩:=w3 j UT;have hA:=oR (Lib.itoa q) (by have:=Zp.fB q q0 q1;omega);rw [dN q0] at hA;have QK:=xl j hj;obtain⟨yv,hyv⟩:∃ v,(xk x j)[j]?=some v:=⟨_,ahn ae⟩;generalize Lib.itoa q=z at *;generalize Zb:xk x (j+1)=y2 at *;generalize xk x j=y at *;repeat' first|refine aG ?_|refine aF (hA) ?_|(refine aK ?_ ?_<;>intro _<;>try exact aE)|fail
    all_goals try exact aE
    refine⟨j+1,?_,fM,by(repeat' (first|exact ky|refine And.intro ?_ ?_|exact congrArg (fun l:List Int=>TV.av (.pt true (l.map .int))) (q3.trans Zb.symm)))⟩;all_goals omega
   ·obtain rfl:j=4:=ae;generalize xk x 4=y at *;repeat' first|((with_reducible refine Xd ?_);first|refine Mq 4 19 ?_|refine BY 3 20 ?_|refine FQ 2 21 ?_|refine BY 1 23 ?_|refine FQ 0 22 ?_|refine Mp ?_)|refine qf 19 5 ?_|refine aG ?_|refine aF (hT) ?_|(refine aK ?_ ?_<;>intro _<;>try exact aE)|fail
    all_goals try exact aE
    refine⟨(i+1,B2),?_,fM,ck⟩;all_goals first|exact Iz|omega
 ·obtain rfl:i=R.length:=by have:=hS.le;omega
  have hB:=xd B hS;subst hB;refine CW.freeze 2 rfl (bG (fun _=>rfl)) rfl ?_;repeat' first|((with_reducible apply J.fJ);rfl;(exact Eb (z':=.sl false 6 []) rfl rfl rfl rfl .nil rfl rfl rfl rfl rfl rfl))|refine aG ?_|(refine aK ?_ ?_<;>intro _<;>try exact aE)|fail
  all_goals exact bw
end Go.Proofs.YtmbbagbhmjaedaaGreatDoor
namespace Go.Proofs.YtmbbagbhmjaedaaGreatDoor
open Go FM Go.Proofs Go.RowKit Go.Lib Go.Shelf Tryz
theorem Zc(b cap k n:Nat)(cs:List Value)(w:World)(arr:Array Value)(eb:TypeId)(hn:n<=1000)(hk:k<n)(bK:n<=cap)
  (fW:cs.length=n*6) (hb:w.heap[b]?=some (.cells arr eb (0,0))) (ha:arr.size=cap*6) (bt:∀ (j:Nat) v,cs[j]?=some v->arr[j]?=some v) (UJ:∀ v∈cs,v.oneCell'=true) :
  Calls Tryz.prog 108 #[.slice (some ⟨b,0,none⟩) n cap,.int .i64 k,.int .i64 ((k+1:Nat):Int)] w fun e w' =>
   ∃ zs:List Value,zs.length=6/\e=.returned (.slice (some ⟨b,0,none⟩) (n-1) cap)/\w'=(w.drew.setCells b (k*6) (cs.drop ((k+1)*6))).setCells b ((n-1)*6) zs:=by
 obtain⟨f0,zv,lC,j4,uO,yz,wa,DC,Bg⟩:=(Sy.ok 37 ⟨.struct [(0,9),(1,9),(2,3),(3,3),(4,3),(5,3)],6,64,[.str [],.str [],.int 0,.int 0,.int 0,.int 0]⟩ rfl).info;have It:Tryz.prog.info? 37=some f0:=lC;have HC:f0.size=6:=j4;have UU:zv.cells.size=6:=Bg;obtain⟨zc,rfl⟩:∃ zc,zv=.agg zc:=by
  cases zv<;>first|exact⟨_,rfl⟩|(simp [Value.cells] at UU)
 obtain⟨zs,Ln⟩:∃ zs,zs=(Builtin.zeroCells zc 1).toList:=⟨_,rfl⟩;have DD:zs.length=6:=by rw [Ln,aiA,size_zeroCells,show zc.size=6 from UU]
 have Dw:∀ v∈zs,v.oneCell'=true:=fun v hv=>by
  have hz:∀ v∈zc.toList,v.oneCell'=true:=fun v hv=>by
   rw [show zc.toList=_ from wa] at hv;exact ahM.1 (show((([.str [],.str [],.int 0,.int 0,.int 0,.int 0]:List AV).map AV.toV).all fun v=>v.oneCell')=true from rfl) v hv
  rw [Ln] at hv;unfold Builtin.zeroCells at hv;rw [Array.toList_map,ahY] at hv;obtain⟨i,_,rfl⟩:=hv;have hz0:zc.size=6:=UU;have aA:i%zc.size<zc.size:=Nat.mod_lt _ ae;rw [getElem!_pos zc _ aA];exact hz _ (Array.getElem_mem_toList _)
 have Xk:∀ W:World,(zeroValue 37).run Tryz.prog W=.ok (.agg zc) W:=fun W=>by simp [zeroValue,typeInfo,It,yz]
 obtain⟨j,hj⟩:∃ j,j=k+1:=⟨_,rfl⟩;rw [<- hj];have aH:∀ t v,cs[t]?=some v->w.cell? ⟨b,t,none⟩=some v:=fun t v h=>by rw [cell_of_row w b t arr eb (0,0) hb];exact bt t v h
 have QX:∀ j,w.frozen? ⟨b,j,none⟩=false:=fun j=>by simp only [World.frozen?,hb];simp
 have Ms:∀ j,j<n*6->(w.cell? ⟨b,j,none⟩).isSome=true:=fun j hj=>by
  rw [cell_of_row w b j arr eb (0,0) hb,ahO ae];rfl
 obtain⟨news,ib⟩:∃ news,news=cs.drop (j*6):=⟨_,rfl⟩;have hlen:news.length=(n-j)*6:=by rw [ib,ahV,fW];omega
 obtain⟨A,hA,QV⟩:∃ A:Addr,(if cap=j then some (⟨b,0,none⟩:Addr) else some ⟨b,j*6,none⟩)=some A/\Hid (∀ (t:Nat) u,news[t]?=some u->w.drew.cell? (A.add t)=some u):=by
  by_cases h:cap=j
  ·refine⟨⟨b,0,none⟩,by simp [h],fun t u hu=>?_⟩;have h0:news.length=0:=by rw [hlen];omega
   rw [List.length_eq_zero_iff.1 h0] at hu;simp at hu
  ·refine⟨⟨b,j*6,none⟩,by simp [h],fun t u hu=>?_⟩;rw [FM.addr_add];rw [ib,ah5] at hu;exact aH _ _ hu
 have s1:Hid (news.length=(n-j)*6):=hlen;have s2:Hid (∀ u∈news,u.oneCell'=true):=fun u hu=>by rw [ib] at hu;exact UJ u (List.mem_of_mem_drop hu)
 have s3:Hid (∀ t,t<news.length->(w.drew.cell? ⟨b,0+k*6+t,none⟩).isSome=true/\w.drew.frozen? ⟨b,0+k*6+t,none⟩=false):=by
  intro t ht;rw [hlen] at ht;exact⟨Ms _ ae,QX _⟩
 obtain⟨W1,Bi⟩:∃ W1,W1=w.drew.setCells b (0+k*6) news:=⟨_,rfl⟩;obtain⟨A1,tP,Y0,_⟩:=cx b eb news (0+k*6) w.drew arr hb (by rw [hlen];omega);rw [<- Bi] at tP;have UW:Hid (∀ t,t<6->(W1.cell? ⟨b,(k+(n-j))*6+t,none⟩).isSome=true/\W1.frozen? ⟨b,(k+(n-j))*6+t,none⟩=false):=fun t ht=>⟨by rw [cell_of_row W1 b _ A1 eb (0,0) tP,ahO ae];rfl,by simp only [World.frozen?,tP];simp⟩;have fW:∀ ty,(Builtin.clear_ #[29] ty #[.slice (some ⟨b,(k+(n-j))*6,none⟩) (n-(k+(n-j))) (cap-(k+(n-j)))]).run Tryz.prog W1=.ok (.tuple #[]) (W1.setCells b ((k+(n-j))*6) zs):=fun ty=>by
  have cH:=run_storeCells_cells (P:=Tryz.prog) b ((k+(n-j))*6) zs 0 W1 (fun t ht=>by rw [DD] at ht;exact(UW t ht).1) (fun t ht=>by rw [DD] at ht;exact(UW t ht).2) Dw;rw [show n-(k+(n-j))=0+1 by omega];simp only [aib] at cH;simp [Builtin.clear_,run_underlying underlying29,Xk,Value.cells,<-Ln,cH]
 have hW:Hid (W1=w.drew.setCells b (0+k*6) news):=Bi;have X:Aside (zs=(Builtin.zeroCells zc 1).toList/\zs.length=6/\k+(n-j)=n-1/\W1=w.drew.setCells b (k*6) (cs.drop (j*6)))   := ⟨Ln,DD,ae,by rw [Bi,ib,ahR]⟩;have hic:k<=cap:=ae;have hjc:j<=cap:=ae;have Q2:k<=j:=ae;have hjn:j<=n:=ae;have cr:¬ k=j:=ae;have hcn:¬ cap=k+(n-j):=ae;clear Bi tP ib hlen hj bt hb aH Ln Xk yz wa
 go_enter func108,ntmps108
 go_wp2_with fail
 go_region_law (refine step_append_room rfl (.tmp 22) (.tmp 25) 29 rfl 37 f0 6 underlying29 It HC b 0 k cap (by simp [Act.eval,Act.put]) A (n-j) (cap-j) news (by simp [Act.eval,Act.put]) s1.out QV.out s2.out ae s3.out ?_;rw [<- hW.out])
 go_wp2
 go_ret
 exact⟨zs,X.out.2.1,by rw [X.out.2.2.1];rfl,by rw [<- X.out.2.2.2,X.out.2.2.1,X.out.1]⟩
theorem Zd{w:World}{b cap k n:Nat}{cs zs:List Value}{arr:Array Value}{eb:TypeId}(hk:k<n)(bK:n<=cap)(fW:cs.length=n*6)(DD:zs.length=6)(hb:w.heap[b]?=some (.cells arr eb (0,0)))(ha:arr.size=cap*6)
  (bt:∀ (j:Nat) v,cs[j]?=some v->arr[j]?=some v):sn w b (n-1) 6 (cs.take (k*6)++cs.drop ((k+1)*6)) (.slice (some ⟨b,0,none⟩) (n-1) cap) ((w.drew.setCells b (k*6) (cs.drop ((k+1)*6))).setCells b ((n-1)*6) zs):=by
 have qb:(cs.drop ((k+1)*6)).length=(n-(k+1))*6:=by rw [ahV,fW];omega
 have yF:(cs.take (k*6)).length=k*6:=by rw [ahF,fW];omega
 obtain⟨A1,tP,s1,g1⟩:=cx b eb (cs.drop ((k+1)*6)) (k*6) w.drew arr hb (by rw [qb];omega);obtain⟨k1,z1,o1,t1,u1⟩:=cB b (cs.drop ((k+1)*6)) (k*6) w.drew;generalize w.drew.setCells b (k*6) (cs.drop ((k+1)*6))=W1 at *;obtain⟨A2,UO,s2,g2⟩:=cx b eb zs ((n-1)*6) W1 A1 tP (by rw [DD];omega);obtain⟨k2,z2,o2,t2,u2⟩:=cB b zs ((n-1)*6) W1;refine⟨b,cap,A2,eb,rfl,.inl rfl,ae,by rw [s2,s1,ha],UO,fun j u hj=>?_,by rw [z2,z1];exact ahr _,fun k hk _=>(k2 k hk).trans (k1 k hk),o2.trans o1,t2.trans t1,u2.trans u1⟩;rw [g2,g1,DD,qb];by_cases c1:j<k*6
 ·rw [ahG ae,aiq,if_pos c1] at hj;rw [if_neg ae,if_neg ae];exact bt j u hj
 ·rw [ahJ ae,yF] at hj;have aA:=(aho.1 hj).1;rw [qb] at aA;rw [if_neg ae,if_pos ae];exact hj
theorem xe{l:List Dl}:∀ y∈flat (l.map bL),kW y=true:=fun y hy=>by
 unfold flat at hy;rw [List.mem_flatMap] at hy;obtain⟨x,hx,hy⟩:=hy;obtain⟨z,_,rfl⟩:=ahY.1 hx;simp only [AV.cells,ah1,List.mem_nil_iff,or_false] at hy;rcases hy with rfl|rfl|rfl|rfl|rfl|rfl<;>rfl
theorem Xl{l:List Dl}:∀ x∈l.map bL,x.cells.length=6:=fun x hx=>by obtain⟨z,_,rfl⟩:=ahY.1 hx;rfl
theorem zB{l:List Dl}:NoSh (.sl true 6 (l.map bL)):=.sl fun y hy=>by obtain⟨z,_,rfl⟩:=ahY.1 hy;exact jk rfl
theorem UX{m:Nat}{v:Nat->Value}{N:Nat}{σ:St}{l:List Dl}{k:Nat}{t1 t2 t3 s d ty:Nat}{ops:Array Oper}{kk:List Oper}{K:St->Prop}{ts:Array Nat}{pos:String}{aft:Array Edge}{g:Option (Nat×Bool)}(hg:live ops g σ=some true)
  (h1:fN σ (.tmp t1)=some s) (h2:FM.get σ s=.av (.sl true 6 (l.map bL))) (hk:k<l.length) (hl:l.length<=1000) (h3:Nat.beq s d=false) (Ii:FM.get σ t2=.av (.int k)) (UP:FM.get σ t3=.av (.int ((k:Int)+1)))
  (h:J false (Sy.fixed m v) N ops kk K (lS [(s,0)] [.dead,.dead,.dead] (σ.put d (.av (.sl true 6 ((l.take k++l.drop (k+1)).map bL)))))) :
  J false (Sy.fixed m v) N ops (⟨some d,.call ⟨.value (.func 108),#[.tmp t1,.tmp t2,.tmp t3],ts⟩,ty,pos,aft,g⟩::kk) K σ:=by
 refine J.BL (xs:=[.tmp t2,.tmp t3]) (op:=.tmp t1) (⟨_,func108,rfl,rfl⟩:jd Sy.P 108) rfl hg h1 h2 h3 (fun w0 L0 a w L hR b7 bE=>?_) zB ⟨.dead,rfl,.dead⟩ h;have cr:l.map bL≠[]:=by intro e;rw [List.map_eq_nil_iff] at e;subst e;simp at hk
 obtain⟨b,cap,arr,eb,hv,HA,hb,bK,ha,_,bt⟩:=xb bE cr xe;rw [ahu] at hv bK;have j4:=hR.hold t2 (aJ hR Ii ag);have uO:=hR.hold t3 (aJ hR UP ag);rw [Ii] at j4;rw [UP] at uO;simp only [Hold] at j4 uO;have QY:a.eval (.tmp t2)=.int .i64 k:=by
  generalize hz:a.tmps.getD t2 undef=z at j4;have:a.eval (.tmp t2)=z:=hz;rw [this];cases j4;rfl
 have QZ:a.eval (.tmp t3)=.int .i64 ((k+1:Nat):Int):=by
  generalize hz:a.tmps.getD t3 undef=z at uO;have:a.eval (.tmp t3)=z:=hz;rw [this,show((k+1:Nat):Int)=(k:Int)+1 by omega];cases uO;rfl
 have fW:((flat (l.map bL)).map AV.toV).length=l.length*6:=by rw [ahu,bh Xl,ahu]
 have ib:(flat ((l.take k++l.drop (k+1)).map bL)).map AV.toV=((flat (l.map bL)).map AV.toV).take (k*6)++((flat (l.map bL)).map AV.toV).drop ((k+1)*6):=by
  rw [<- List.map_take,<-List.map_drop,<-oU Xl,<-oV Xl,<-ah0,<-dp,<-List.map_take,<-List.map_drop,<-ah0]
 simp only [aiw,List.map_nil,hv,QY,QZ];refine(Zc b cap k l.length _ w arr eb hl hk bK fW hb ha bt (ic xe)).mono fun e w' ⟨zs,DD,he,hw⟩=>?_;subst hw;have Q0:=Zd hk bK fW DD hb ha bt;rw [<- ib] at Q0
 obtain⟨L',hB⟩:=zu (N:=3) (xs9':=[.dead,.dead,.dead]) (vs:=[.slice (some ⟨b,0,none⟩) l.length cap,.int .i64 k,.int .i64 ((k+1:Nat):Int)]) b7 HA ae rfl Q0 (by rw [ahu,ahC,ahF,ahV];omega) Xl (u9 xe) (fun i y hy=>by
  match i,hy with
  | 0,hy=>cases hy;rfl
  | 1,hy=>cases hy;rfl
  | 2,hy=>cases hy;rfl
  | i+3,hy=>simp at hy)
 exact⟨_,L',he,hB⟩
end Go.Proofs.YtmbbagbhmjaedaaGreatDoor
namespace Go.Proofs.YtmbbagbhmjaedaaGreatDoor
open Go FM Go.Proofs Tryz
def oW(l:List Dl)(e:Int):AV:=if e=0 then .tup [.sl true 6 (l.map bL),.int 0] else .tup [.nil,.int e]
structure UY(l:List Dl):Prop where
 len:l.length<=20
 ok:∀ d∈l,ue d
 one:∀ (i:Nat) (h:i<l.length),¬ (0<=fD (l.take i) l[i].1 l[i].2.2.1)
theorem IA{l:List Dl}:∀ (m k:Nat),k+m=l.length->wP l m k=0->∀ (i:Nat) (h:i<l.length),k<=i->ue l[i]/\¬ (0<=fD (l.take i) l[i].1 l[i].2.2.1)
 | 0,k,hk,_,i,h,hi=>absurd h ae
 | m+1,k,hk,h0,i,h,hi=>by
  have gW:k<l.length:=ae;have:=rV gW;rw [show l.length-k=m+1 by omega,h0] at this;by_cases c1:lT l[k]≠0
  ·rw [if_pos c1] at this;exact absurd this.symm c1
  ·rw [if_neg c1] at this;by_cases c2:0<=fD (l.take k) l[k].1 l[k].2.2.1
   ·rw [if_pos c2] at this;cases this
   ·rw [if_neg c2] at this;by_cases e:i=k
    ·subst e;exact⟨oN (Classical.not_not.1 c1),c2⟩
    ·exact IA m (k+1) ae (by rw [show m=l.length-(k+1) by omega];exact this.symm) i h ae
theorem iQ{l:List Dl}(h:gY l=0):UY l:=by
 unfold gY at h;by_cases c:20<l.length
 ·rw [if_pos c] at h;cases h
 rw [if_neg c] at h;have:=IA l.length 0 ae h
 exact⟨ae,fun d hd=>by
  obtain⟨i,hi,rfl⟩:=aip.1 hd
  exact(this i hi (ahQ _)).1,fun i hi=>(this i hi (ahQ _)).2⟩
theorem vd{l:List Dl}:∀ (m k:Nat),0<=wP l m k/\wP l m k<=7
 | 0,k=>by simp [wP]
 | m+1,k=>by
  have:=vd (l:=l) m (k+1);have:=gI (l.getD k d0);unfold wP;repeat' split
  all_goals omega
theorem e9(l:List Dl):0<=gY l/\gY l<=7:=by
 have:=vd (l:=l) l.length 0;unfold gY;split<;>omega
theorem zC(l:List Dl)(s:bd)(n:Int):-1<=fD l s n/\fD l s n<l.length:=by
 have:=jM (p:=tD s n) (l:=l) (k:=0);rw [ahR] at this;exact this
def ve(l:List Dl)(d:Dl):Int :=
 if gY l≠0 then gY l else if lT d≠0 then lT d
 else if 0<=fD l d.1 d.2.2.1 then(if d.2.2.2.2.1<=(l.getD (fD l d.1 d.2.2.1).toNat d0).2.2.2.2.1 then 7 else 0)
 else if 20<=l.length then 8 else 0
def Ef(l:List Dl)(d:Dl):List Dl:=if 0<=fD l d.1 d.2.2.1 then l.set (fD l d.1 d.2.2.1).toNat d else l++[d]
theorem zE{l:List Dl}{i:Nat}{a:Dl}(h:l[i]?=some a):l.getD i d0=a:=by rw [ahK,h];rfl
theorem Eg{l:List Dl}{s:bd}{n:Int}(h:0<=fD l s n):∃ i:Nat,∃ (h:i<l.length),fD l s n=(i:Int)/\tD s n l[i]=true:=by
 obtain⟨i,hi,e1,e2⟩:=wM (p:=tD s n) (k:=0) h;exact⟨i,hi,by unfold fD;rw [e1,ahR],e2⟩
theorem IB(l:List Dl)(d:Dl)(hL:qH l)(h1:d.1.length<=9223372036854775807)(h2:d.2.1.length<=9223372036854775807):FnSpec Sy.P 70 [.sl false 6 (l.map bL),bL d] [.sl false 6 (l.map bL),bL d] (oW (Ef l d) (ve l d)):=by
 have hC:=iC l hL;have hR:=mG d h1 h2;have KO:=e9 l;have YB:=gI d;have hF:=mH l d.1 d.2.2.1 hL.len;unfold ve oW Ef;by_cases c1:gY l=0
 ·have hok:=iQ c1;rw [c1] at hC;rw [if_neg (not_not_intro c1)];by_cases c2:lT d=0
  ·have yg:=oN c2;rw [c2] at hR;rw [if_neg (not_not_intro c2)];have B5:=hok.len;have eP:=eG l ae;by_cases c3:0<=fD l d.1 d.2.2.1
   ·rw [if_pos c3,if_pos c3];obtain⟨i,hi,e1,n1⟩:=Eg c3;have ga:l[i]?=some l[i]:=ahn hi;rw [e1] at hF ⊢;rw [ahN,zE ga];generalize l[i]=a at *;by_cases c4:d.2.2.2.2.1<=a.2.2.2.2.1
    ·rw [if_pos c4,if_neg af];refine bQ func70 ntmps70 fun v0=>?_;repeat' first|refine aG ?_|refine aF (hC) ?_|refine aF (hR) ?_|refine aF (hF) ?_|(refine aK ?_ ?_<;>intro _<;>try exact aE)|fail
     all_goals exact bw
    ·rw [if_neg c4,if_pos rfl];refine bQ func70 ntmps70 fun v0=>?_;repeat' first|((with_reducible apply J.fJ);rfl;(exact DG (x:=d) rfl rfl rfl rfl rfl rfl))|refine aG ?_|refine aF (hC) ?_|refine aF (hR) ?_|refine aF (hF) ?_|refine aF (eP) ?_|(refine aK ?_ ?_<;>intro _<;>try exact aE)|fail
     all_goals exact bw
   ·rw [if_neg c3,if_neg c3];have iY:=zC l d.1 d.2.2.1;by_cases c5:20<=l.length
    ·rw [if_pos c5,if_neg af];refine bQ func70 ntmps70 fun v0=>?_;repeat' first|refine aG ?_|refine aF (hC) ?_|refine aF (hR) ?_|refine aF (hF) ?_|(refine aK ?_ ?_<;>intro _<;>try exact aE)|fail
     all_goals exact bw
    ·rw [if_neg c5,if_pos rfl];have nJ:TV.av (AV.sl true 6 (l.map bL++[bL d]))=TV.av (AV.sl true 6 ((l++[d]).map bL)):=by rw [ah0];rfl
     refine bQ func70 ntmps70 fun v0=>?_;repeat' first|refine w9z ?_|refine aF (hC) ?_|refine aF (hR) ?_|refine aF (hF) ?_|(refine aK ?_ ?_<;>intro _<;>try exact aE)|fail
     all_goals try exact aE
     refine CW.cut [(4,.av (.sl true 6 ((l++[d]).map bL))),(5,.av (.int (0)))] ?_ ?_
     ·refine CW.PU 7 rfl [false,false,false,false,false,false,false] ah rfl ?_;refine gq 0 ?_;refine FB 1 2 ?_ ?_
      ·repeat' first|((with_reducible apply J.step);rfl;exact FM.st)|((with_reducible apply J.fJ);rfl;exact FM.ef)|((with_reducible apply J.bq (eP));rfl;rfl;exact fX;(first|exact(fun _=>NoSh.int)|exact(fun h=>Bool.noConfusion h)))|with_reducible refine J.nil ?_
       refine iL 2 ?_;repeat' first|((with_reducible apply J.step);rfl;exact FM.st)|((with_reducible apply J.fJ);rfl;exact FM.ef)|((with_reducible apply J.bq (eP));rfl;rfl;exact fX;(first|exact(fun _=>NoSh.int)|exact(fun h=>Bool.noConfusion h)))|with_reducible refine J.nil ?_
       refine iL 3 ?_;repeat' first|((with_reducible apply J.step);rfl;exact FM.st)|((with_reducible apply J.fJ);rfl;exact FM.ef)|((with_reducible apply J.bq (eP));rfl;rfl;exact fX;(first|exact(fun _=>NoSh.int)|exact(fun h=>Bool.noConfusion h)))|with_reducible refine J.nil ?_
       refine iL 4 ?_;repeat' first|((with_reducible apply J.step);rfl;exact FM.st)|((with_reducible apply J.fJ);rfl;exact FM.ef)|((with_reducible apply J.bq (eP));rfl;rfl;exact fX;(first|exact(fun _=>NoSh.int)|exact(fun h=>Bool.noConfusion h)))|with_reducible refine J.nil ?_
       refine gq 5 ?_;refine gq 6 ?_;refine JA.done ah ?_;exact⟨rfl,by(repeat' (first|exact ky|refine And.intro ?_ ?_|exact nJ))⟩
      ·repeat' first|((with_reducible apply J.step);rfl;exact FM.st)|((with_reducible apply J.fJ);rfl;exact FM.ef)|((with_reducible apply J.bq (eP));rfl;rfl;exact fX;(first|exact(fun _=>NoSh.int)|exact(fun h=>Bool.noConfusion h)))|with_reducible refine J.nil ?_
       refine FB 1 3 ?_ ?_
       ·repeat' first|((with_reducible apply J.step);rfl;exact FM.st)|((with_reducible apply J.fJ);rfl;exact FM.ef)|((with_reducible apply J.bq (eP));rfl;rfl;exact fX;(first|exact(fun _=>NoSh.int)|exact(fun h=>Bool.noConfusion h)))|with_reducible refine J.nil ?_
        refine iL 3 ?_;repeat' first|((with_reducible apply J.step);rfl;exact FM.st)|((with_reducible apply J.fJ);rfl;exact FM.ef)|((with_reducible apply J.bq (eP));rfl;rfl;exact fX;(first|exact(fun _=>NoSh.int)|exact(fun h=>Bool.noConfusion h)))|with_reducible refine J.nil ?_
        refine iL 4 ?_;repeat' first|((with_reducible apply J.step);rfl;exact FM.st)|((with_reducible apply J.fJ);rfl;exact FM.ef)|((with_reducible apply J.bq (eP));rfl;rfl;exact fX;(first|exact(fun _=>NoSh.int)|exact(fun h=>Bool.noConfusion h)))|with_reducible refine J.nil ?_
        refine gq 5 ?_;refine gq 6 ?_;refine JA.done ah ?_;exact⟨rfl,by(repeat' (first|exact ky|refine And.intro ?_ ?_|exact nJ))⟩
       ·repeat' first|((with_reducible apply J.step);rfl;exact FM.st)|((with_reducible apply J.fJ);rfl;exact FM.ef)|((with_reducible apply J.bq (eP));rfl;rfl;exact fX;(first|exact(fun _=>NoSh.int)|exact(fun h=>Bool.noConfusion h)))|with_reducible refine J.nil ?_
        refine iL 1 ?_;repeat' first|((with_reducible apply J.step);rfl;exact FM.st)|((with_reducible apply J.fJ);rfl;exact FM.ef)|((with_reducible apply J.bq (eP));rfl;rfl;exact fX;(first|exact(fun _=>NoSh.int)|exact(fun h=>Bool.noConfusion h)))|with_reducible refine J.nil ?_
        refine iL 4 ?_;repeat' first|((with_reducible apply J.step);rfl;exact FM.st)|((with_reducible apply J.fJ);rfl;exact FM.ef)|((with_reducible apply J.bq (eP));rfl;rfl;exact fX;(first|exact(fun _=>NoSh.int)|exact(fun h=>Bool.noConfusion h)))|with_reducible refine J.nil ?_
        refine gq 5 ?_;refine gq 6 ?_;refine JA.done ah ?_;exact⟨rfl,by(repeat' (first|exact ky|refine And.intro ?_ ?_|exact nJ))⟩
     repeat' first|refine aG ?_|(refine aK ?_ ?_<;>intro _<;>try exact aE)|fail
     all_goals exact bw
  ·rw [if_pos c2,if_neg c2];generalize lT d=e at *;refine bQ func70 ntmps70 fun v0=>?_;repeat' first|refine aG ?_|refine aF (hC) ?_|refine aF (hR) ?_|(refine aK ?_ ?_<;>intro _<;>try exact aE)|fail
   all_goals exact bw
 ·rw [if_pos c1,if_neg c1];generalize gY l=e at *;refine bQ func70 ntmps70 fun v0=>?_;repeat' first|refine aG ?_|refine aF (hC) ?_|refine aF (hR) ?_|(refine aK ?_ ?_<;>intro _<;>try exact aE)|fail
  all_goals exact bw
end Go.Proofs.YtmbbagbhmjaedaaGreatDoor
