/- Part of the proof. -/
import Derived.Test.YtmbbagbhmjaedaaGreatDoorCeh
import Derived.OpenShut
import Derived.ShutString
import Derived.Deep.Slices
import Derived.Test.YtmbbagbhmjaedaaGreatDoorRows
import Derived.LaidSub
import Derived.Stop.LaidErr
set_option linter.all false
set_option maxRecDepth 10000
set_option maxHeartbeats 3200000
namespace Go.Proofs.YtmbbagbhmjaedaaGreatDoor
open Go FM CO Go.Conc Go.ConcN Go.RowKit Go.Proofs.Tryz
variable {G:cz}
section
variable {p:kt} {h:Int} {w:World}
theorem Sw(hB:w.heap.size=p.B)(h1:decide (h<1)=true){ad:Option Addr}{cap:Nat}(hJ:p.vJ=.slice ad p.N cap):PrefTo Tryz.prog G (Go.Conc.G (Frame.enter Tryz.prog 4 #[.int .i64 h,p.vJ] .normal) [tS p h]) w fun a' w'=>a'=Go.Conc.G (b3.at ⟨(uH p h).setIfInBounds 20 (.tuple #[.slice none 0 0,.int .i64 1]),[]⟩ [.inRegion EY [3,4,5,6,7],.code c3]) []/\Lay w [.cells #[p.vJ] 22 (0,0)] w':=by
 rw [Sk];have hv:p.vJ.cells=#[p.vJ]:=by rw [hJ];rfl
 have s0:(#[Value.int .i64 h,p.vJ]++Array.replicate 37 undef).size=39:=ag;have g0:(#[Value.int .i64 h,p.vJ]++Array.replicate 37 undef).getD 0 undef=.int .i64 h:=by simp [ahA]
 have g1:(#[Value.int .i64 h,p.vJ]++Array.replicate 37 undef).getD 1 undef=p.vJ:=by simp [ahA]
 generalize (#[Value.int .i64 h,p.vJ]++Array.replicate 37 undef)=T at s0 g0 g1 ⊢;have hT:=((TS.nil s0).add 0 g0).add 1 g1;refine .fh (x:=.region 0 o40 false) (y:=Tj) ?_;refine .iU (l:=[0,1,2]) rfl ?_;refine .cW 3 (v:=pA w.heap.size) (op:=.box 22 (.tmp 1)) rfl af ⟨(jD (a:=⟨T,[]⟩) (x:=.tmp 1) (hT.get 1 rfl) hv).1,fun e he=>by rw [(jD (a:=⟨T,[]⟩) (x:=.tmp 1) (hT.get 1 rfl) hv).2] at he;simp at he⟩ ag ?_;have L1:=(Lay.nil w).alloc (.cells #[p.vJ] 22 (0,0));generalize w.alloc (.cells #[p.vJ] 22 (0,0))=w1 at L1 ⊢;rw [hB];replace hT:=hT.set 3 (pA p.B) rfl;generalize T.setIfInBounds 3 (pA p.B)=T at hT ⊢;refine .tV hT 4 (v:=.slice none 0 0) rfl rfl af (bH rfl) fun T hT=>?_;refine .tV hT 5 (v:=.int .i64 0) rfl rfl af (bH rfl) fun T hT=>?_;refine .iV ?_;refine .fh (x:=.seq (.region 1 Hh false) i41) (y:=Wo) ?_;refine .fh (x:=.region 1 Hh false) (y:=i41) ?_;refine .iU (l:=[0,1,2,3,4,5]) rfl ?_;refine .tV hT 10 (v:=.int .i64 h) rfl rfl af (bY (hT.get 0 rfl)) fun T hT=>?_;refine .tV hT 11 (v:=.bool true) rfl rfl af (by rw [<- h1];exact pn (hT.get 10 rfl) rfl) fun T hT=>?_;refine .tV hT 12 (v:=.bool true) rfl rfl af (bY (hT.get 11 rfl)) fun T hT=>?_;refine .qp (Pref.unw 13 (op:=.move (.tmp 0)) (gd:=some (2,false)) rfl (by show(yielded Hh _ 2==some false)=false;rw [yl rfl (hT.get 12 rfl)];rfl)) ?_;replace hT:=hT.set 13 (undef) rfl;generalize T.setIfInBounds 13 undef=T at hT ⊢;refine .qp (Pref.unw 14 (op:=.binOp .gtr 3 (.tmp 13) (.const (.int .i64 8)) 3) (gd:=some (2,false)) rfl (by show(yielded Hh _ 2==some false)=false;rw [yl rfl (hT.get 12 rfl)];rfl)) ?_;replace hT:=hT.set 14 (undef) rfl;generalize T.setIfInBounds 14 undef=T at hT ⊢;refine .tV hT 15 (v:=.bool true) rfl rfl af (xS (hT.get 12 rfl) (by simp only [if_true];rfl)) fun T hT=>?_;refine .iV ?_;rw [Df];refine .AH (t:=true) (hT.get 15 rfl) ?_;simp only [if_true];refine .fh (x:=.region 2 o42 false) (y:=.ret) ?_;refine .iU (l:=[0,1]) rfl ?_;refine .tV hT 4 (v:=.slice none 0 0) rfl rfl af (bH rfl) fun T hT=>?_;refine .tV hT 5 (v:=.int .i64 1) rfl rfl af (bH rfl) fun T hT=>?_;refine .iV ?_;refine .qp (Pref.ctl rfl stepG_ret') ?_;refine .qp (Pref.ctl (a':=Go.Conc.G (b3.at ⟨(uH p h).setIfInBounds 20 (.tuple #[.slice none 0 0,.int .i64 1]),[]⟩ [.inRegion EY [3,4,5,6,7],.code c3]) []) rfl ?_) ?_
 ·rw [stepG_leave (b:=b4) (a:=⟨T,[]⟩) (fn:=Tryz.f4) rfl rfl func4 (results_tmp2 GV _ _ _) (events_results_tmp2 GV _ _),(hT.get 4 rfl),(hT.get 5 rfl),Sj]
 exact .stop ⟨rfl,L1⟩
theorem Sx(hB:w.heap.size=p.B)(h1:decide (h<1)=false)(h8:decide (8<h)=true){ad:Option Addr}{cap:Nat}(hJ:p.vJ=.slice ad p.N cap):PrefTo Tryz.prog G (Go.Conc.G (Frame.enter Tryz.prog 4 #[.int .i64 h,p.vJ] .normal) [tS p h]) w fun a' w'=>a'=Go.Conc.G (b3.at ⟨(uH p h).setIfInBounds 20 (.tuple #[.slice none 0 0,.int .i64 1]),[]⟩ [.inRegion EY [3,4,5,6,7],.code c3]) []/\Lay w [.cells #[p.vJ] 22 (0,0)] w':=by
 rw [Sk];have hv:p.vJ.cells=#[p.vJ]:=by rw [hJ];rfl
 have s0:(#[Value.int .i64 h,p.vJ]++Array.replicate 37 undef).size=39:=ag;have g0:(#[Value.int .i64 h,p.vJ]++Array.replicate 37 undef).getD 0 undef=.int .i64 h:=by simp [ahA]
 have g1:(#[Value.int .i64 h,p.vJ]++Array.replicate 37 undef).getD 1 undef=p.vJ:=by simp [ahA]
 generalize (#[Value.int .i64 h,p.vJ]++Array.replicate 37 undef)=T at s0 g0 g1 ⊢;have hT:=((TS.nil s0).add 0 g0).add 1 g1;refine .fh (x:=.region 0 o40 false) (y:=Tj) ?_;refine .iU (l:=[0,1,2]) rfl ?_;refine .cW 3 (v:=pA w.heap.size) (op:=.box 22 (.tmp 1)) rfl af ⟨(jD (a:=⟨T,[]⟩) (x:=.tmp 1) (hT.get 1 rfl) hv).1,fun e he=>by rw [(jD (a:=⟨T,[]⟩) (x:=.tmp 1) (hT.get 1 rfl) hv).2] at he;simp at he⟩ ag ?_;have L1:=(Lay.nil w).alloc (.cells #[p.vJ] 22 (0,0));generalize w.alloc (.cells #[p.vJ] 22 (0,0))=w1 at L1 ⊢;rw [hB];replace hT:=hT.set 3 (pA p.B) rfl;generalize T.setIfInBounds 3 (pA p.B)=T at hT ⊢;refine .tV hT 4 (v:=.slice none 0 0) rfl rfl af (bH rfl) fun T hT=>?_;refine .tV hT 5 (v:=.int .i64 0) rfl rfl af (bH rfl) fun T hT=>?_;refine .iV ?_;refine .fh (x:=.seq (.region 1 Hh false) i41) (y:=Wo) ?_;refine .fh (x:=.region 1 Hh false) (y:=i41) ?_;refine .iU (l:=[0,1,2,3,4,5]) rfl ?_;refine .tV hT 10 (v:=.int .i64 h) rfl rfl af (bY (hT.get 0 rfl)) fun T hT=>?_;refine .tV hT 11 (v:=.bool false) rfl rfl af (by rw [<- h1];exact pn (hT.get 10 rfl) rfl) fun T hT=>?_;refine .tV hT 12 (v:=.bool false) rfl rfl af (bY (hT.get 11 rfl)) fun T hT=>?_;refine .qp (Pref.V3 13 (v:=.int .i64 h) (op:=.move (.tmp 0)) (gd:=some (2,false)) rfl (by show(yielded Hh _ 2==some false)=true;rw [yl rfl (hT.get 12 rfl)];rfl) af (bY (hT.get 0 rfl))) ?_;replace hT:=hT.set 13 (.int .i64 h) rfl;generalize T.setIfInBounds 13 (.int .i64 h)=T at hT ⊢;refine .qp (Pref.V3 14 (v:=.bool true) (op:=.binOp .gtr 3 (.tmp 13) (.const (.int .i64 8)) 3) (gd:=some (2,false)) rfl (by show(yielded Hh _ 2==some false)=true;rw [yl rfl (hT.get 12 rfl)];rfl) af (by rw [<- h8];exact J8 (hT.get 13 rfl) rfl)) ?_;replace hT:=hT.set 14 (.bool true) rfl;generalize T.setIfInBounds 14 (.bool true)=T at hT ⊢;refine .tV hT 15 (v:=.bool true) rfl rfl af (xS (hT.get 12 rfl) (by simp only [ahD,if_false];exact(hT.get 14 rfl))) fun T hT=>?_;refine .iV ?_;rw [Df];refine .AH (t:=true) (hT.get 15 rfl) ?_;simp only [if_true];refine .fh (x:=.region 2 o42 false) (y:=.ret) ?_;refine .iU (l:=[0,1]) rfl ?_;refine .tV hT 4 (v:=.slice none 0 0) rfl rfl af (bH rfl) fun T hT=>?_;refine .tV hT 5 (v:=.int .i64 1) rfl rfl af (bH rfl) fun T hT=>?_;refine .iV ?_;refine .qp (Pref.ctl rfl stepG_ret') ?_;refine .qp (Pref.ctl (a':=Go.Conc.G (b3.at ⟨(uH p h).setIfInBounds 20 (.tuple #[.slice none 0 0,.int .i64 1]),[]⟩ [.inRegion EY [3,4,5,6,7],.code c3]) []) rfl ?_) ?_
 ·rw [stepG_leave (b:=b4) (a:=⟨T,[]⟩) (fn:=Tryz.f4) rfl rfl func4 (results_tmp2 GV _ _ _) (events_results_tmp2 GV _ _),(hT.get 4 rfl),(hT.get 5 rfl),Sj]
 exact .stop ⟨rfl,L1⟩
theorem Sz{T:Array Value}(hs:T.size=95)(e:Int)(l:Value):PrefTo Tryz.prog G (Go.Conc.G (b3.at ⟨T.setIfInBounds 20 (.tuple #[l,.int .i64 e]),[]⟩ [.inRegion EY [3,4,5,6,7],.code c3]) []) w fun a' w'=>a'=Gm (b3.at ⟨qs T l e,[]⟩ [.code c3]) []/\w'=w:=by
 obtain⟨A0,e0⟩:∃ A,T.setIfInBounds 20 (.tuple #[l,.int .i64 e])=A:=⟨_,rfl⟩;have s0:A0.size=95:=by rw [<- e0];simpa using hs
 have g20:A0.getD 20 undef=.tuple #[l,.int .i64 e]:=by rw [<- e0];exact cM _ _ ae
 rw [e0];refine .cV 17 (v:=.tuple #[l,.int .i64 e]) (op:=.move (.tmp 20)) rfl af (bY g20) ?_;obtain⟨A1,e1⟩:∃ A,A0.setIfInBounds 17 (.tuple #[l,.int .i64 e])=A:=⟨_,rfl⟩;have s1:A1.size=95:=by rw [<- e1];simpa using s0
 clear g20;have g17:A1.getD 17 undef=(.tuple #[l,.int .i64 e]):=by rw [<- e1];exact cM _ _ ae
 rw [e1];refine .cV 21 (v:=l) (op:=.extract (.tmp 17) 0) rfl af (dP (vs:=#[l,.int .i64 e]) g17 rfl) ?_;obtain⟨A2,e2⟩:∃ A,A1.setIfInBounds 21 l=A:=⟨_,rfl⟩;have s2:A2.size=95:=by rw [<- e2];simpa using s1
 replace g17:A2.getD 17 undef=(.tuple #[l,.int .i64 e]):=by rw [<- e2,cj _ _ af];exact g17
 have g21:A2.getD 21 undef=l:=by rw [<- e2];exact cM _ _ ae
 rw [e2];refine .cV 22 (v:=.int .i64 e) (op:=.extract (.tmp 17) 1) rfl af (dP (vs:=#[l,.int .i64 e]) g17 rfl) ?_;obtain⟨A3,e3⟩:∃ A,A2.setIfInBounds 22 (.int .i64 e)=A:=⟨_,rfl⟩;have s3:A3.size=95:=by rw [<- e3];simpa using s2
 clear g17;replace g21:A3.getD 21 undef=l:=by rw [<- e3,cj _ _ af];exact g21
 have g22:A3.getD 22 undef=(.int .i64 e):=by rw [<- e3];exact cM _ _ ae
 rw [e3];refine .cV 5 (v:=l) (op:=.assign (.tmp 21)) rfl af (bH g21) ?_;obtain⟨A4,e4⟩:∃ A,A3.setIfInBounds 5 l=A:=⟨_,rfl⟩;have s4:A4.size=95:=by rw [<- e4];simpa using s3
 clear g21;replace g22:A4.getD 22 undef=(.int .i64 e):=by rw [<- e4,cj _ _ af];exact g22
 have g5:A4.getD 5 undef=l:=by rw [<- e4];exact cM _ _ ae
 rw [e4];refine .cV 6 (v:=.int .i64 e) (op:=.assign (.tmp 22)) rfl af (bH g22) ?_;obtain⟨A5,e5⟩:∃ A,A4.setIfInBounds 6 (.int .i64 e)=A:=⟨_,rfl⟩;have s5:A5.size=95:=by rw [<- e5];simpa using s4
 clear g22;replace g5:A5.getD 5 undef=l:=by rw [<- e5,cj _ _ af];exact g5
 have g6:A5.getD 6 undef=(.int .i64 e):=by rw [<- e5];exact cM _ _ ae
 rw [e5];refine .iV ?_;refine .stop ⟨?_,rfl⟩;rw [<- e5,<-e4,<-e3,<-e2,<-e1,<-e0];rfl
end
theorem E5{P:Program}{k:Nat}{m m':Machine}{t t':Trace}(h:runNT P k m t=(.next m',t')):runN P k m=.next m':=by rw [<- runNT_fst,h]
theorem G5{Wg B:Nat}{u:Trace}(hu:∀ op∈u,mZ G B op)(hW:G.Wg=Wg):Past (ShN Wg) B u:=by
 subst hW;refine⟨(CT.lone (Sh:=ShN G.Wg) (Own:=fun _ _=>False) (Rd:=fun _ _=>False) (fun op bU=>(hu op bU).1) fun op bU x hx=>((hu op bU).2.1 x hx).1).nr,fun i a ha _=>.inl ?_,fun i g hg cr _=>?_,?_,fun op bU=>(hu op bU).2.2.2.2.2⟩
 ·obtain⟨x,hx,_⟩:=touch_of ha;have:=knows_own hx
  rwa [(hu x (aih hx)).1] at this
 ·obtain⟨op,ho,rfl⟩:=ahs.1 hg;exact absurd (hu op (aih ho)).1 cr
 ·have:=Deaf_still #[] 0 u fun op bU=>⟨(hu op bU).2.2.1,(hu op bU).2.2.2.1⟩;rw [aiH] at this;rw [this];rfl
def SA(B:Nat):cz:=⟨B,B,B,2,0,fun _=>False,fun _=>False⟩
theorem NA{W:World}{vJ:Value}{N:Nat}{Jb:List (List De)}{arg:Nat->Value}(h0:iq W vJ N (uI Jb) arg)(hN:Jb.length=N){h:Int}(hh:h<1∨8<h):
    ∃ M last o w' t',runNT Tryz.prog (M+1) (solo (Go.Conc.G (Frame.enter Tryz.prog 3 #[.int .i64 h,vJ] .normal) []) W) #[]=(.ended o w',t')/\runN Tryz.prog M (solo (Go.Conc.G (Frame.enter Tryz.prog 3 #[.int .i64 h,vJ] .normal) []) W)=.next last/\step Tryz.prog last=.ended o w'/\Go.Conc.Good Tryz.prog (fun val W'=>Dk W W' val) last o w' t':=by
  obtain⟨ad,cap,hJ,_⟩:=h0.vj
  let p:kt:=⟨W.heap.size,N,0,vJ,arg,fun _=>[],W⟩
  have h4:PrefTo Tryz.prog (SA W.heap.size) (Go.Conc.G (Frame.enter Tryz.prog 4 #[.int .i64 h,p.vJ] .normal) [tS p h]) W fun a' w'=>a'=Go.Conc.G (b3.at ⟨(uH p h).setIfInBounds 20 (.tuple #[.slice none 0 0,.int .i64 1]),[]⟩ [.inRegion EY [3,4,5,6,7],.code c3]) []/\Lay W [.cells #[p.vJ] 22 (0,0)] w':=by
    by_cases h1:h<1
    · exact Sw rfl (by simpa using h1) hJ
    · exact Sx rfl (by simpa using h1) (decide_eq_true (by omega)) hJ
  have XU:PrefTo Tryz.prog (SA W.heap.size) (Go.Conc.G (Frame.enter Tryz.prog 3 #[.int .i64 h,p.vJ] .normal) []) W fun a' w'=>a'=Gm (b3.at ⟨qs (uH p h) (.slice none 0 0) 1,[]⟩ [.code c3]) []/\Lay W [.cells #[p.vJ] 22 (0,0)] w':=Wn (by
    obtain⟨a1,w1,hp1,rfl,hL⟩:=h4
    obtain⟨a2,w2,U8,rfl,rfl⟩:=Sz (G:=SA W.heap.size) (Kl p h) 1 (.slice none 0 0) (w:=w1)
    exact⟨_,_,hp1.trans U8,rfl,hL⟩)
  obtain⟨_,w2,⟨⟨k,u,hk,hu⟩,bc⟩,rfl,hL⟩:=XU;have ho:∀ b,b<W.heap.size->w2.heap[b]?=W.heap[b]?:=hL.old;have RN:=h0.ten;have F1:w2.heap.size=W.heap.size+1:=hL.size;obtain⟨M,last,o,w',t',e1,e2,e3,e4⟩:=AT (Wg:=W.heap.size) (w:=w2) (gs:=#[Gm (b3.at ⟨qs (uH p h) (.slice none 0 0) 1,[]⟩ [.code c3]) []]) (sl:=none) (q:=fun _=>0) (t:=u) (vJ:=vJ) (h:=h) (l:=.slice none 0 0) (e:=1) (T:=qs (uH p h) (.slice none 0 0) 1) (x1:=la Jb) (x5:=.nil)
    (O7 _ _ _ _) (fun t ht=>AS p h _ 1 t ht) (E3 h0 ho (ahr _)) (.inl ⟨none,0,rfl⟩) (E4 h0 ho) ae (Ky h0 ho) (fun v hv=>AW h0 hN ho (ahr _) hv) (fun v hv=>.nil) (IV h hh Jb) rfl
    ⟨fun i g hi hg=>by
      have:i<1:=by simpa using (ahx.1 hg).1
      omega,fun j hj=>Deaf_absent fun i op hi=>by
      have:=(hu op (aih hi)).1
      simp at hj;omega⟩ ⟨_,ahr _,G5 hu rfl⟩ ae ae (AU ae)
  have G8:=hk #[];rw [aiH] at G8;refine⟨k+M,last,o,w',t',?_,?_,e3,Go.Conc.Good.mono e4 fun val ⟨g1,g2,g3⟩=>⟨g1,fun b hb=>(g2 b ae).trans (ho b hb),hL.out2.trans g3⟩⟩
  · rw [aix,runNT_add];rw [show vJ=p.vJ from rfl,G8];exact e1
  · have:=E5 G8;rw [runN_add,show vJ=p.vJ from rfl,this];exact e2
theorem Kz{W:World}{vJ:Value}{N:Nat}{Jb:List (List De)}{arg:Nat->Value}{R:Er}(hR:vk R)(dI:∀ l:List De,l.length<=4000000000000->(∀ d∈l,sw d)->FnSpec Sy.P 10 [oB l] [oB l] (KX (qL R qj l)))(h0:iq W vJ N (uI Jb) arg)(hN:Jb.length=N)(hJ:Jb.length<=9223372036854775807)(hl:∀ l∈Jb,l.length<=4000000000000/\∀ d∈l,sw d)(h:Int):
  ∃ M last o w' t',runNT Tryz.prog (M+1) (solo (Go.Conc.G (Frame.enter Tryz.prog 3 #[.int .i64 h,vJ] .normal) []) W) #[]=(.ended o w',t')/\runN Tryz.prog M (solo (Go.Conc.G (Frame.enter Tryz.prog 3 #[.int .i64 h,vJ] .normal) []) W)=.next last/\step Tryz.prog last=.ended o w'/\Go.Conc.Good Tryz.prog (fun val W'=>Dk W W' val) last o w' t':=by
 by_cases hh:h<1∨8<h
 ·exact NA h0 hN hh
 ·obtain⟨n,rfl⟩:∃ n:Nat,h=n:=⟨h.toNat,ae⟩;have hA:∀ q,q<N->FnSpec Sy.P 10 [oB (uI Jb q)] [oB (uI Jb q)] (KX (qL R qj (uI Jb q))):=fun q hq=>by
   have hx:Jb[q]?=some Jb[q]:=ahn ae;rw [x6 hx];have:=hl _ (ahB (show q<Jb.length by omega));exact dI _ this.1 this.2
  obtain⟨p,hp,k,m',t',eB,eN,en,eJ,ea,eA,old,AP,e1,e2⟩:=AQ (n:=n) h0 ae ae hA;obtain⟨M,last,o,w',t2,g1,g2,g3,g4⟩:=G4 hR h0 hN hJ hl (n:=n) ae ae eB eN en eJ eA old AP e2;refine⟨k+M,last,o,w',t2,?_,?_,g3,g4⟩
  ·rw [aix,runNT_add,e1];exact g1
  ·have:=E5 e1;rw [runN_add,this];exact g2
end Go.Proofs.YtmbbagbhmjaedaaGreatDoor
namespace FM
open Go Go.RowKit Go.ChangeShapes Go.WideShapes Go.Deep
inductive DT where
 | int|byte|bool|str|sl (e:DT)|un|pr (a b:DT)|ar2
def DT.size:DT->Nat
 | .un=>0
 | .pr a b=>a.size+b.size
 | .ar2=>2
 | _=>1
@[reducible] def Ty:DT→Type
 | .int=>Int
 | .byte=>Int
 | .bool=>Bool
 | .str=>List UInt8
 | .sl e=>List (Ty e)
 | .un=>Unit
 | .pr a b=>Ty a×Ty b
 | .ar2=>Int×Int×Unit
def pk:DT->List AV->AV
 | .un,ys=>.agg ys
 | .pr _ _,ys=>.agg ys
 | .ar2,ys=>.agg ys
 | _,[y]=>y
 | _,_=>.dead
def cellsD:(d:DT)->Ty d->List AV
 | .int,n=>[.int n]
 | .byte,n=>[.val (.int .u8 n)]
 | .bool,b=>[.bool b]
 | .str,s=>[.str s]
 | .sl e,xs=>[.sl false e.size (xs.map fun x=>pk e (cellsD e x))]
 | .un,_=>[]
 | .pr a b,x=>cellsD a x.1++cellsD b x.2
 | .ar2,x=>[.int x.1,.int x.2.1]
def one(d:DT)(x:Ty d):AV:=pk d (cellsD d x)
def Good:(d:DT)->Ty d->Prop
 | .int,n=>kC n
 | .byte,n=>0<=n/\n<=255
 | .bool,_=>True
 | .str,s=>s.length<=9223372036854775807
 | .sl e,xs=>xs.length<=9223372036854775807/\∀ x∈xs,Good e x
 | .un,_=>True
 | .pr a b,x=>Good a x.1/\Good b x.2
 | .ar2,x=>kC x.1/\kC x.2.1
def Dm(P:Program):(d:DT)->TypeId->Ty d->Prop
 | .sl e,t,xs=>∀ te,P.underlying t=some (.slice te)->xs.length*P.bytesOf te<=reachBytes/\∀ x∈xs,Dm P e te x
 | .str,_,s=>s.length<=reachBytes
 | _,_,_=>True
theorem iW:∀ (d:DT) (x:Ty d),(cellsD d x).length=d.size
 | .int,_=>rfl
 | .byte,_=>rfl
 | .bool,_=>rfl
 | .str,_=>rfl
 | .sl _,_=>rfl
 | .un,_=>rfl
 | .ar2,_=>rfl
 | .pr a b,x=>by simp only [cellsD,ahC,iW a,iW b,DT.size]
theorem vQ(d:DT)(x:Ty d):(one d x).cells=cellsD d x:=by
 cases d<;>rfl
def O8(P:Program):DT->(TypeId->Prop)×(Nat->List Field->Prop)
 | .int=>(fun t=>P.underlying t=some (.int .i64),fun _ _=>False)
 | .byte=>(fun t=>P.underlying t=some (.int .u8),fun _ _=>False)
 | .bool=>(fun t=>P.underlying t=some .bool,fun _ _=>False)
 | .str=>(fun t=>P.underlying t=some .string,fun _ _=>False)
 | .sl e=>(fun t=>∃ te,P.underlying t=some (.slice te)/\P.cellsOf te=e.size/\0<e.size/\(O8 P e).1 te,fun _ _=>False)
 | .un=>(fun _=>False,fun _ fs=>fs=[])
 | .ar2=>(fun t=>∃ te,P.underlying t=some (.array 2 te)/\P.underlying te=some (.int .i64)/\P.cellsOf te=1/\P.cellsOf t=2,fun _ _=>False)
 | .pr a b =>
  let F:=fun(off:Nat) (fs:List Field)=>match fs with
   | f::r=>f.offset=off/\P.cellsOf f.type=a.size/\(O8 P a).1 f.type/\(O8 P b).2 (off+a.size) r
   | []=>False
  (fun t=>∃ fs,P.underlying t=some (.struct fs)/\P.cellsOf t=a.size+b.size/\F 0 fs.toList,F)
def RC(L:Nat->aO)(w:World)(ys:List AV)(vs:List Value):Prop:=ys.length=vs.length/\∀ (j:Nat) y v,ys[j]?=some y->vs[j]?=some v->Rep L w none y v
theorem RC.one{L:Nat->aO}{w:World}{y:AV}{v:Value}(h:Rep L w none y v):RC L w [y] [v]:=⟨rfl,fun j y' v' hy hv=>by
 match j with
 | 0=>simp only [ahq,ahp] at hy hv;subst hy;subst hv;exact h
 | j+1=>simp at hy⟩
theorem RC.append{L:Nat->aO}{w:World}{ys ys':List AV}{vs M1:List Value}(h:RC L w ys vs)(h':RC L w ys' M1):RC L w (ys++ys') (vs++M1):=by
 refine⟨by rw [ahC,ahC,h.1,h'.1],fun j y v hy hv=>?_⟩;by_cases hj:j<ys.length
 ·rw [ahG hj] at hy;rw [ahG (by rw [<- h.1];exact hj)] at hv;exact h.2 j y v hy hv
 ·rw [ahJ ae] at hy;rw [ahJ (by rw [<- h.1];omega),<-h.1] at hv;exact h'.2 _ y v hy hv
theorem Dn{α:Type}{n:Nat}{p:Nat->α->Prop}(h:∀ i,i<n->∃ x,p i x):∃ l:List α,l.length=n/\∀ (i:Nat) x,l[i]?=some x->p i x:=by
 induction n with
 | zero=>exact⟨[],rfl,fun i x hx=>by simp at hx⟩
 | succ n ih =>
  obtain⟨l,h1,h2⟩:=ih fun i hi=>h i ae;obtain⟨x,hx⟩:=h n ae;refine⟨l++[x],by simp [h1],fun i y hy=>?_⟩;by_cases hi:i<l.length
  ·rw [ahG hi] at hy;exact h2 i y hy
  ·rw [ahJ ae] at hy;have:i=n:=by
    have:=(aho.1 hy).1;simp at this;omega
   subst this;rw [h1] at hy;simp at hy;subst hy;exact hx
theorem wf_i64{n:Int}(h:(Lit.int .i64 n).wf=true):kC n:=by
 simp only [Lit.wf,aht,decide_eq_true_eq] at h;exact h
theorem wf_u8{n:Int}(h:(Lit.int .u8 n).wf=true):0<=n/\n<=255:=by
 simp only [Lit.wf,aht,decide_eq_true_eq] at h;exact h
section
variable {H:Type} {enc:TypeId×Value->H} {P:Program} {w:World} {base:Nat} {spare:Nat->Bool} {held:Bool} {L:Nat->aO}
theorem AX(s:ByteArray):s.data.toList.length=s.size:=by cases s;simp [ByteArray.size]
theorem lB{te:TypeId}:∀ {l:List (DataW H)} {d:DataW H},d∈l->∀ {n:Nat},n∈d.weights P te->n∈DataW.weightsAll P te l
 | [],d,h,n,_=>by cases h
 | x::l,d,h,n,hn=>by
  simp only [DataW.weightsAll,aie];rcases ah1.1 h with rfl|h
  ·exact .inl hn
  ·exact .inr (lB h hn)
theorem j2(hL:∀ b,L b=.sh):∀ d:DT,
  (∀ (t:TypeId) (fuel:Nat) (cs:List Value) (x:DataW H×List MemPlace),(O8 P d).1 t->DataW.trod enc P w base spare held fuel t cs=some x->∃ v:Ty d,Good d v/\((∀ n∈x.1.weights P t,n<=reachBytes)->Dm P d t v)/\RC L w (cellsD d v) cs) /\
  (∀ (off:Nat) (fs:List Field) (n:Nat) (cs:List Value),(O8 P d).2 off fs->(∀ f∈fs,∃ y,DataW.trod enc P w base spare held n f.type ((cs.drop f.offset).take (P.cellsOf f.type))=some y)->off+d.size=cs.length ->
   ∃ v:Ty d,Good d v/\RC L w (cellsD d v) (cs.drop off))
 | .int=>⟨fun t fuel cs x ht h=>by
   obtain⟨n,rfl,_,hw⟩:=DataW.trod_int ht h
   exact⟨n,wf_i64 hw,fun _=>trivial,.one .int⟩,fun _ _ _ _ h=>False.elim h⟩
 | .byte=>⟨fun t fuel cs x ht h=>by
   obtain⟨n,rfl,_,hw⟩:=DataW.trod_int ht h
   exact⟨n,wf_u8 hw,fun _=>trivial,.one .val⟩,fun _ _ _ _ h=>False.elim h⟩
 | .bool=>⟨fun t fuel cs x ht h=>by
   obtain⟨n,rfl,_⟩:=DataW.trod_bool ht h
   exact⟨n,trivial,fun _=>trivial,.one .bool⟩,fun _ _ _ _ h=>False.elim h⟩
 | .str=>⟨fun t fuel cs x ht h=>by
   obtain⟨s,rfl,N8,hs⟩:=DataW.trod_string ht h
   refine⟨s.data.toList,?_,fun hw=>?_,.one ?_⟩
   ·show s.data.toList.length<=9223372036854775807
    rw [AX]
    exact hs
   ·subst N8
    have:=hw s.data.toList.length (by simp [DataW.weights])
    exact this
   ·have e:s=⟨s.data.toList.toArray⟩:=by cases s;simp
    exact e▸Rep.str (s:=s.data.toList),fun _ _ _ _ h=>False.elim h⟩
 | .ar2=>⟨fun t fuel cs x ht h=>by
   obtain⟨te,h1,h2,h3,h4⟩:=ht
   obtain⟨xs,m,_,_,hl,QK,hx⟩:=DataW.trod_array h1 h
   rw [h4] at hl
   match cs,hl with
   | [c0,c1],_ =>
    have e0:=hx 0 af
    have e1:=hx 1 af
    rw [h3,ahn ae] at e0 e1
    change DataW.trod enc P w base spare held m te [c0]=_ at e0
    change DataW.trod enc P w base spare held m te [c1]=_ at e1
    obtain⟨n0,q0,_,w0⟩:=DataW.trod_int h2 e0
    obtain⟨n1,q1,_,w1⟩:=DataW.trod_int h2 e1
    cases q0;cases q1
    exact⟨(n0,n1,()),⟨wf_i64 w0,wf_i64 w1⟩,fun _=>trivial,(RC.one .int).append (RC.one .int)⟩,fun _ _ _ _ h=>False.elim h⟩
 | .un=>⟨fun _ _ _ _ h=>False.elim h,fun off fs n cs h _ hl=>⟨(),trivial,by
   have:cs.drop off=[]:=List.drop_eq_nil_of_le (by simp only [DT.size] at hl;omega)
   rw [this]
   exact⟨rfl,fun j y v hy=>by simp [cellsD] at hy⟩⟩⟩
 | .pr a b=>by
  have hF:∀ (off:Nat) (fs:List Field) (n:Nat) (cs:List Value),(O8 P (.pr a b)).2 off fs->(∀ f∈fs,∃ y,DataW.trod enc P w base spare held n f.type ((cs.drop f.offset).take (P.cellsOf f.type))=some y)->off+(DT.pr a b).size=cs.length ->
    ∃ v:Ty (.pr a b),Good (.pr a b) v/\RC L w (cellsD (.pr a b) v) (cs.drop off):=by
   intro off fs n cs h hx hl
   match fs,h with
   | f::r,h =>
    obtain⟨h1,h2,h3,h4⟩:=h;obtain⟨y,hy⟩:=hx f (ahU ..);obtain⟨va,ga,_,ra⟩:=(j2 hL a).1 _ _ _ _ h3 hy;obtain⟨vb,gb,rb⟩:=(j2 hL b).2 (off+a.size) r n cs h4 (fun f hf=>hx f (ahW _ hf)) (by simp only [DT.size] at hl;omega);refine⟨(va,vb),⟨ga,gb⟩,?_⟩;have:=ra.append rb;rw [h1,h2,<-List.drop_drop,List.take_append_drop] at this;exact this
  refine⟨fun t fuel cs x ht h=>?_,hF⟩;obtain⟨fs,h1,h2,h3⟩:=ht;obtain⟨xs,n,_,_,hl,QK,hx⟩:=DataW.trod_struct h1 h
  obtain⟨v,gv,rv⟩:=hF 0 fs.toList n cs h3 (fun f hf=>by
   obtain⟨i,hi⟩:=List.getElem?_of_mem hf
   have ez:fs[i]?=some f:=by simpa using hi
   have aA:i<xs.length:=by rw [QK];exact(ahx.1 ez).1
   exact⟨xs[i],by rw [hx i f ez,ahn aA]⟩) (by rw [hl,h2];simp [DT.size])
  exact⟨v,gv,fun _=>trivial,by simpa using rv⟩
 | .sl e=>⟨fun t fuel cs x ht h=>by
   obtain⟨te,h1,h2,h3,h4⟩:=ht
   rcases open_slice h1 h with⟨rfl,_⟩|⟨a,len,cap,m,n,D,Pl,rfl,_,hl,hm,PO,N8,hx⟩
   ·exact⟨[],⟨ag,fun x hx=>by cases hx⟩,fun _ _ _=>⟨ag,fun x hx=>by cases hx⟩,.one (.slE ag)⟩
   have hlm:len<=m:=by rw [PO];split<;>omega
   obtain⟨xs,e1,e2⟩:=Dn (n:=len) (p:=fun i (v:Ty e)=>(Good e v/\((∀ n∈(D i).weights P te,n<=reachBytes)->Dm P e te v))/\∃ cs',w.cells? base (a.add (i*P.cellsOf te)) (P.cellsOf te)=some cs'/\RC L w (cellsD e v) cs') fun i hi=>by
    obtain⟨cs',hc,ht⟩:=hx i ae
    obtain⟨v,g,lv,r⟩:=(j2 hL e).1 _ _ _ _ h4 ht
    exact⟨v,⟨g,lv⟩,cs',hc,r⟩
   refine⟨xs,⟨by rw [e1];unfold maxLen at hm;omega,fun x hx=>by obtain⟨i,hi⟩:=List.getElem?_of_mem hx;exact(e2 i x hi).1.1⟩,fun hw te' hte=>?_,.one ?_⟩
   ·have:te'=te:=by rw [h1] at hte;cases hte;rfl
    subst this
    rw [N8] at hw
    simp only [DataW.weights,h1] at hw
    refine⟨?_,fun x hx=>?_⟩
    ·have:=hw _ (ahU ..)
     rw [ahu,List.length_range] at this
     rw [e1]
     exact ahZ (ahT _ (Nat.le_add_right _ _)) this
    ·obtain⟨i,hi⟩:=List.getElem?_of_mem hx
     have y8:i<len:=by rw [<- e1];exact(aho.1 hi).1
     refine(e2 i x hi).1.2 fun n hn=>hw n (ahW _ (List.mem_append_left _ ?_))
     exact lB (ahY.2 ⟨i,List.mem_range.2 y8,rfl⟩) hn
   cases ua:xs with
   | nil=>subst ua;simp only [aim] at e1;subst e1;exact .slE ag
   | cons x0 xr =>
    rw [<- ua]
    have hlen:0<xs.length:=by rw [ua];simp
    obtain⟨_,cs0,Hd,_⟩:=e2 0 xs[0] (ahn hlen)
    obtain⟨_,aaY,aaZ⟩:=World.cells?_some Hd
    have po:=aaZ 0 (by rw [h2];exact h3)
    rw [ahn (by rw [aaY,h2];exact h3)] at po
    obtain⟨b,off,spot⟩:=a
    have WH:spot=none:=by simpa [Addr.add] using World.cell?_spot po
    subst WH
    have WI:∀ o k,(⟨b,o,none⟩:Addr).add k=⟨b,o+k,none⟩:=fun o k=>by unfold Addr.add;by_cases hk:k=0<;>simp [hk]
    have hb:b<w.heap.size:=by
     simp only [WI] at po
     unfold World.cell? at po
     rcases aia b w.heap.size with h|h
     ·exact h
     ·rw [Array.getElem?_eq_none h] at po
      simp at po
    have key:∀ (i j:Nat) (x:Ty e),xs[i]?=some x->j<e.size->∃ v,w.cell? ⟨b,off+(i*e.size+j),none⟩=some v/\∀ y,(cellsD e x)[j]?=some y->Rep L w none y v:=by
     intro i j x hx hj
     obtain⟨_,cs',hc,hr⟩:=e2 i x hx
     obtain⟨_,fW,BH⟩:=World.cells?_some hc
     have:=BH j (by rw [h2];exact hj)
     simp only [WI] at this
     rw [h2,ahn (by rw [fW,h2];exact hj),aix] at this
     exact⟨_,this,fun y hy=>hr.2 j y _ hy (ahn _)⟩
    have bt:∀ x∈xs.map (fun x=>pk e (cellsD e x)),x.cells.length=e.size:=fun x hx=>by
     obtain⟨z,_,rfl⟩:=ahY.1 hx
     show(one e z).cells.length=_
     rw [vQ,iW]
    have Vb:(xs.map (fun x=>pk e (cellsD e x))).length=len:=by rw [ahu,e1]
    rw [<- Vb]
    refine .slS (fun o=>(w.cell? ⟨b,off+o,none⟩).getD undef) ae (hL b) hb bt (fun o ho=>?_) (fun o y hy=>?_)
    ·have hi:o / e.size<xs.length:=by
      rw [ahu] at ho
      exact(Nat.div_lt_iff_lt_mul h3).2 ho
     obtain⟨v,hv,_⟩:=key (o / e.size) (o%e.size) _ (ahn hi) (Nat.mod_lt _ h3)
     rw [Nat.div_add_mod' o e.size] at hv
     rw [hv];rfl
    ·obtain⟨i,j,z,Dw,S6,rfl,hj⟩:=gL bt hy
     rw [ahE,ahs] at Dw
     obtain⟨x,hx,rfl⟩:=Dw
     obtain⟨v,hv,hr⟩:=key i j x hx hj
     show Rep L w none y ((w.cell? _).getD undef)
     rw [hv]
     exact hr y (by rw [show pk e (cellsD e x)=one e x from rfl,vQ] at S6;exact S6),fun _ _ _ _ h=>False.elim h⟩
theorem KA(hL:∀ b,L b=.sh){r:Reach}{b0:Nat}{d:DT}{t:TypeId}{v:Value}{x:DataW H}{ps:List MemPlace}(ht:(O8 P d).1 t)(kR:Value.okWide P w r b0 t v)(h:DataW.Trod enc P w base spare held t v x ps):∃ z:Ty d,Good d z/\((∀ n∈x.weights P t,n<=reachBytes)->Dm P d t z)/\Rep L w none (one d z) v:=by
 obtain⟨fuel,hf⟩:=h;obtain⟨z,g,lz,hr⟩:=(j2 hL d).1 _ _ _ _ ht hf;refine⟨z,g,lz,?_⟩;have single:∀ (y:AV),[v]=v.cells.toList->cellsD d z=[y]->Rep L w none y v:=fun y hv hc=>by
  rw [<- hv,hc] at hr;exact hr.2 0 y v rfl rfl
 cases d with
 | int=>obtain⟨n,rfl⟩:=okWide_int ht kR;exact single _ rfl rfl
 | byte=>obtain⟨n,rfl⟩:=okWide_int ht kR;exact single _ rfl rfl
 | bool=>obtain⟨n,rfl⟩:=okWide_bool ht kR;exact single _ rfl rfl
 | str=>obtain⟨n,rfl⟩:=okWide_string ht kR;exact single _ rfl rfl
 | sl e=>obtain⟨te,h1,_⟩:=ht;obtain⟨_,_,_,rfl⟩:=okWide_slice h1 kR;exact single _ rfl rfl
 | un=>exact False.elim ht
 | ar2 =>
  obtain⟨te,h1,_,_,h4⟩:=ht;simp only [Value.okWide,h1] at kR;obtain⟨cs,rfl,_,_⟩:=kR;have:Rep L w none (.agg (cellsD .ar2 z)) (.agg cs.toList.toArray):=.agg hr.1.symm fun i x v hx hv=>hr.2 i x v hx hv;show Rep L w none (.agg (cellsD .ar2 z)) (.agg cs);simpa using this
 | pr a b =>
  obtain⟨fs,h1,_⟩:=ht;obtain⟨cs,rfl,_⟩:=okWide_struct h1 kR;have:Rep L w none (.agg (cellsD (.pr a b) z)) (.agg cs.toList.toArray):=.agg hr.1.symm fun i x v hx hv=>hr.2 i x v hx hv;show Rep L w none (.agg (cellsD (.pr a b) z)) (.agg cs);simpa using this
@[reducible] def Tys:List DT→Type
 | []=>Unit
 | d::ds=>Ty d×Tys ds
def Dp:(ds:List DT)->Tys ds->List AV
 | [],_=>[]
 | d::ds,x=>one d x.1::Dp ds x.2
def O9:(ds:List DT)->Tys ds->Prop
 | [],_=>True
 | d::ds,x=>Good d x.1/\O9 ds x.2
def Pb(P:Program):(ds:List DT)->List TypeId->Tys ds->Prop
 | d::ds,t::ts,z=>Dm P d t z.1/\Pb P ds ts z.2
 | _,_,_=>True
def NB(P:Program):List DT->List TypeId->Prop
 | [],[]=>True
 | d::ds,t::ts=>(O8 P d).1 t/\P.readableRec t=true/\t<P.types.size/\NB P ds ts
 | _,_=>False
theorem vR(hL:∀ b,L b=.sh){r:Reach}{b0:Nat}:∀ (ds:List DT) (ts:List TypeId) (vs:List Value) (xs:List (DataW H)) (ps:List MemPlace),NB P ds ts->(∀ (j:Nat) t v,ts[j]?=some t->vs[j]?=some v->Value.okWide P w r b0 t v) ->
  DataW.TrodAll enc P w base spare held ts vs xs ps->∃ z:Tys ds,O9 ds z/\((∀ n∈DataW.weightsEach P ts xs,n<=reachBytes)->Pb P ds ts z)/\vs.length=(Dp ds z).length/\∀ (i:Nat) x v,(Dp ds z)[i]?=some x->vs[i]?=some v->Rep L w none x v
 | [],[],vs,xs,ps,_,_,h=>by
  obtain⟨rfl,rfl,rfl⟩:=trodAll_nil h;exact⟨(),trivial,fun _=>trivial,rfl,fun i x v hx=>by simp [Dp] at hx⟩
 | d::ds,t::ts,vs,xs,ps,ht,kR,h=>by
  obtain⟨v,M1,x,TP,p,q,rfl,rfl,rfl,h0,h1⟩:=trodAll_cons h;obtain⟨z,g,lz,hr⟩:=KA hL ht.1 (kR 0 t v rfl rfl) h0;obtain⟨zs,gs,lzs,hl,Py⟩:=vR hL ds ts M1 TP q ht.2.2.2 (fun j t v hj hv=>kR (j+1) t v (by simpa using hj) (by simpa using hv)) h1;refine⟨(z,zs),⟨g,gs⟩,fun hw=>⟨lz fun n hn=>hw n (by simp only [DataW.weightsEach,aie];exact .inl hn),lzs fun n hn=>hw n (by simp only [DataW.weightsEach,aie];exact .inr hn)⟩,by simp [Dp,hl],fun i y u hy hu=>?_⟩
  cases i with
  | zero=>simp only [Dp,ahq,ahp] at hy hu;subst hy;subst hu;exact hr
  | succ i=>simp only [Dp,ahP] at hy hu;exact Py i y u hy hu
 | [],_::_,_,_,_,h,_,_=>False.elim h
 | _::_,[],_,_,_,h,_,_=>False.elim h
theorem vS(hl:laidOutB P=true){w':World}(hb:Below w.heap.size w w'):∀ (ds:List DT) (ts:List TypeId) (vs:List Value) (xs:List (DataW H)) (ps:List MemPlace),NB P ds ts ->
  DataW.TrodAll enc P w 0 (fun _=>true) true ts vs xs ps->DataW.TrodAll enc P w' 0 (fun b=>decide (b<w.heap.size)) true ts vs xs ps
 | [],[],vs,xs,ps,_,h=>by
  obtain⟨rfl,rfl,rfl⟩:=trodAll_nil h;exact trodAll_mk0
 | d::ds,t::ts,vs,xs,ps,ht,h=>by
  obtain⟨v,M1,x,TP,p,q,rfl,rfl,rfl,h0,h1⟩:=trodAll_cons h;have lt0:∀ x∈p,x.block<w.heap.size:=by obtain⟨m,hm⟩:=h0;exact DataW.trod_lt m _ _ _ hm
  exact trodAll_cons_mk (Below.trod hl ht.2.1 ht.2.2.1 h0 hb lt0) (vS hl hb ds ts M1 TP q ht.2.2.2 h1)
 | [],_::_,_,_,_,h,_=>False.elim h
 | _::_,[],_,_,_,h,_=>False.elim h
end
end FM
namespace Go.Proofs.YtmbbagbhmjaedaaGreatDoor
open Go FM Go.Proofs Go.Proofs.Tryz
theorem AY : "*" ++ "errors.errorString" = "*errors.errorString" := by decide
theorem AZ(u:TypeId)(h:Tryz.prog.typeName? 3 u=some "*errors.errorString"):u=235 :=
 typeName_ptr_named (nm := "errors.errorString") (by rw [AY];kernel_rfl) ah af u (by rw [AY];exact h)
theorem lN{W:World}{g i:Nat}{v:Value}(h:W.cell? ⟨g,i,none⟩=some v):g<W.heap.size:=by
 unfold World.cell? at h;rcases aia g W.heap.size with hl|hl
 ·exact hl
 ·simp [Array.getElem?_eq_none hl] at h
theorem NC{W:World}{l:List (String×DataW Unit)}(hs:W.ShapedOpen Tryz.prog)(h:laidMetH Tryz.prog l W)(hp:(l.all fun x=>x.2.handleName?.isNone)=true)
  (e1:(l.filter fun x=>x.1 == "internal/strconv.uint64pow10")=[("internal/strconv.uint64pow10",Lib.tabData .u64 Lib.pow10Tab)])
  (e2:(l.filter fun x=>x.1 == "strings.asciiSpace")=[("strings.asciiSpace",Lib.tabData .u8 Lib.asciiSpaceTab)])
  (e3:(l.filter fun x=>x.1 == "strconv.ErrSyntax")=[("strconv.ErrSyntax",.iface "*errors.errorString" (.ptr (.agg [.lit (.string [105,110,118,97,108,105,100,32,115,121,110,116,97,120])])))]):FM.kg (fun _=>.sh) W:=by
 rw [MakeChecks.laidMetH_plain _ _ _ hp] at h;have h1:=laidMet.filter (fun x=>x.1 == "internal/strconv.uint64pow10") h;have h2:=laidMet.filter (fun x=>x.1 == "strings.asciiSpace") h;have h3:=laidMet.filter (fun x=>x.1 == "strconv.ErrSyntax") h;rw [e1] at h1;rw [e2] at h2;rw [e3] at h3;have p1:=Lib.tabIs_of_head Ld ah underlying209 underlying54 ah ah h1;have p2:=Lib.tabIs_of_head Le ah underlying154 underlying5 ah ah h2;have g3:Tryz.prog.globalNamed "strconv.ErrSyntax" = some 3:=ah;obtain⟨a0,s0,VH,-,-,-⟩:=laid_sentinel h3 g3 ah underlying123 AZ underlying235 underlying237 rfl rfl underlying9 ah ah;have c3:W.cell? ⟨3,0,none⟩=some (.iface 235 (.pointer (some a0))):=by have h0:=World.var?_cell g3 VH 0;simpa using h0
 have c4:=cell_of_shapedOpen_int (g:=5) (t:=3) (zero:=#[.int .i64 0]) hs (of_decide_eq_true ah) ah rfl ah ah underlying3;have c1:=p1.cell Ld 0 (of_decide_eq_true ah);have c2:=p2.cell Le 0 (of_decide_eq_true ah);refine⟨⟨p1,p2,c4,⟨_,_,c3⟩⟩,fun g hg=>⟨?_,rfl⟩⟩;rcases hg with rfl|rfl|rfl|rfl
 ·exact lN c2
 ·exact lN c1
 ·obtain⟨m,hm⟩:=c4;exact lN hm
 ·exact lN c3
end Go.Proofs.YtmbbagbhmjaedaaGreatDoor
