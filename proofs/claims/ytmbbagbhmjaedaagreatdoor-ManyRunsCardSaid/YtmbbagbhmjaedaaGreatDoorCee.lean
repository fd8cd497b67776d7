/- Part of the proof. -/
import Derived.Test.YtmbbagbhmjaedaaGreatDoorCed
set_option linter.all false
set_option maxRecDepth 10000
set_option maxHeartbeats 3200000
namespace Go.Proofs.YtmbbagbhmjaedaaGreatDoor
open Go CO Go.Conc Go.ConcN Go.RowKit Go.Conc.Lib Go.ConcR.Gen Go.ConcN.Gen
open Go.ConcR (KK wgBlock WgAt stA smA rd wr mk Payload Aside2 DC0)
open Tryz
variable {w:World}{k q B:Nat}{T:Array Value}{g:Goroutine}
instance : Payload := ⟨3⟩
def gm(B:Nat):cz:=⟨B+5,B+3,B+1,2,B+6,fun b=>G1 b=true,fun b=>b<B+6/\b≠B+5/\b≠B+1/\b≠B+3⟩
theorem iH{b:Nat}(h:G1 b=true):b<=9:=ah3 h
theorem OQ(h:10<=B):(gm B).Ok:=by
 refine⟨?_,?_,?_,?_,?_,?_,fun b hb=>?_,fun b hb=>?_⟩;all_goals try (simp only [gm];omega)
 ·simp only [gm] at hb ⊢;omega
 ·have:=iH hb;simp only [gm];omega
structure kt where
 B:Nat
 N:Nat
 n:Nat
 vJ:Value
 arg:Nat->Value
 A:Nat->List (Int×Int×Int)
 S0:World
def kt.m(p:kt):Addr->Value->Prop:=fun a u=>a.block<p.B/\G1 a.block=false/\p.S0.cell? a=some u
def dn{α:Type}(m:Addr->Value->Prop)(k:Nat)(f:α->Nat->Value)(l:List α)(s:Value):Prop :=
 (∃ a c,s=.slice a 0 c/\l=[])∨∃ b o c,s=.slice (some ⟨b,o,none⟩) l.length c/\l.length<=c/\∀ i x,l[i]?=some x->∀ j,j<k->m ⟨b,o+(i*k+j),none⟩ (f x j)
def mW(w:World):Addr->Value->Prop:=fun a u=>w.cell? a=some u
def fT(x:Int×Int×Int)(j:Nat):Value:=.int .i64 (if j=0 then x.1 else x.2.1)
def fE(x:Int×Int×Int)(_:Nat):Value:=.int .i64 x.2.2
def p6(l:List (Int×Int×Int))(val:Value)(v:World):Prop:=∃ s1 s2,val=.agg #[s1,s2]/\dn (mW v) 2 fT l s1/\dn (mW v) 1 fE l s2
def pA(B:Nat):Value:=.pointer (some ⟨B,0,none⟩)
def b9:Frame:=baseD 9
noncomputable def bot:Frame:={ (default:Frame) with fn:=Tryz.prog.funcs.size,defers:=[],mode:=.panicking [goexitEntry] }
noncomputable def AL:Code:=Tryz.f9.body.getD .skip
noncomputable def Xu:Code:=match AL with|.seq (.seq _ (.block _ (.loop c))) _=>c|_=>.skip
noncomputable def Xv:Code:=match AL with|.seq _ r=>r|_=>.skip
noncomputable def o90:Array Oper:=match AL with|.seq (.seq (.region _ o _) _) _=>o|_=>#[]
noncomputable def Lc:Array Oper:=match Xu with|.seq (.region _ o _) _=>o|_=>#[]
noncomputable def Ke:Code:=match Xu with|.seq _ r=>r|_=>.skip
noncomputable def o92:Array Oper:=match Ke with|.seq _ (.block _ (.seq (.region _ o _) _))=>o|_=>#[]
noncomputable def xT:Array Oper:=match Ke with|.seq _ (.block _ (.seq _ (.region _ o _)))=>o|_=>#[]
noncomputable def V9:Array Oper:=match Xv with|.region _ o _=>o|_=>#[]
noncomputable def xU:Code:=Tryz.f10.body.getD .skip
noncomputable def Np:List Item:=[.inLoop Xu,.inBlock 0,.code Xv]
noncomputable def R5:List Item:=.inBlock 1::Np
structure WT(B:Nat)(T:Array Value):Prop where
 size:T.size=18
 t0:T.getD 0 undef=pA (B+4)
 t1:T.getD 1 undef=pA B
 t2:T.getD 2 undef=pA (B+2)
 t3:T.getD 3 undef=pA (B+5)
structure WC(B:Nat)(T:Array Value):Prop extends WT B T where
 t5:T.getD 5 undef=.chan (some (B+3))
theorem WT.set(h:WT B T){i:Nat}(hi:4<=i)(v:Value):WT B (T.setIfInBounds i v):=by
 refine⟨by simpa using h.size,?_,?_,?_,?_⟩<;>rw [cj _ _ ae]
 ·exact h.t0
 ·exact h.t1
 ·exact h.t2
 ·exact h.t3
theorem WC.set{B:Nat}{T:Array Value}(h:WC B T){i:Nat}(hi:i=4∨6<=i)(v:Value):WC B (T.setIfInBounds i v) :=
 ⟨h.toWT.set ae v,by rw [cj _ _ ae];exact h.t5⟩
def ET(p:kt)(q k:Nat)(v:Value):Prop:=match k with
 | 0=>v=.slice (some ⟨p.B+1,0,none⟩) p.N p.N
 | 1=>v=.int .i64 q
 | 2=>v=p.vJ
 | 3=>v=.int .i64 q
 | 4=>∃ b o,v=.pointer (some ⟨b,o,none⟩)/\p.S0.cell? ⟨b,o,none⟩=some (p.arg q)/\b<p.B/\G1 b=false
 | 5=>v=p.arg q
 | _=>True
structure PF(p:kt)(q:Nat)(L:Array Bool)(T:Array Value):Prop where
 wc:WC p.B T
 sz:L.size=9
 t4:T.getD 4 undef=.int .i64 q
 at_:∀ k,k<6->L.getD k false=true->ET p q k (T.getD (k+9) undef)
 cl5:L.getD 5 false=true->L.getD 4 false=true
 cl4:L.getD 4 false=true->L.getD 2 false=true/\L.getD 3 false=true
theorem dC{L:Array Bool}{j:Nat}(h:L.getD j false=true):(L.setIfInBounds k true).getD j false=true:=by
 by_cases e:k=j
 ·subst e;refine J0 _ ?_;rcases aia k L.size with h'|h'
  ·exact h'
  ·rw [ahA,Array.getElem?_eq_none h'] at h;cases h
 ·rwa [eU _ e]
theorem PF.put{p:kt}{L:Array Bool}(h:PF p q L T){v:Value}(hk:k<6)(hv:ET p q k v)(h5:k=5->L.getD 4 false=true)(h4:k=4->L.getD 2 false=true/\L.getD 3 false=true):PF p q (L.setIfInBounds k true) (T.setIfInBounds (k+9) v):=by
 refine⟨h.wc.set ae v,by simpa using h.sz,by rw [cj _ _ ae];exact h.t4,fun j hj hl=>?_,fun hh=>?_,fun hh=>?_⟩
 case refine_2 =>
  by_cases e:k=5
  ·exact dC (h5 e)
  ·exact dC (h.cl5 (by rwa [eU _ e] at hh))
 case refine_3 =>
  by_cases e:k=4
  ·exact⟨dC (h4 e).1,dC (h4 e).2⟩
  ·have:=h.cl4 (by rwa [eU _ e] at hh);exact⟨dC this.1,dC this.2⟩
 by_cases e:k=j
 ·subst e;rw [cM _ _ (by rw [h.wc.size];omega)];exact hv
 ·rw [cj _ _ ae];exact h.at_ j hj (by rwa [eU _ e] at hl)
theorem PF.more{p:kt}{L:Array Bool}(h:PF p q L T){i:Nat}{v:Value}(hk:6<=k)(hi:15<=i):PF p q (L.setIfInBounds k true) (T.setIfInBounds i v):=by
 refine⟨h.wc.set ae v,by simpa using h.sz,by rw [cj _ _ ae];exact h.t4,fun j hj hl=>?_,fun hh=>dC (h.cl5 (by rwa [eU _ ae] at hh)),fun hh=>by have:=h.cl4 (by rwa [eU _ ae] at hh);exact⟨dC this.1,dC this.2⟩⟩;rw [cj _ _ ae];exact h.at_ j hj (by rwa [eU _ ae] at hl)
def AM(p:kt)(g:Goroutine):Prop:=∃ T,g=Gm (b9.at ⟨T,[]⟩ (.inRegion Lc [0,1]::.code Ke::Np)) [bot]/\WC p.B T
def R6(p:kt)(q:Nat)(c:Frame)(cs:List Frame):Prop:=∃ T L rest,c=b9.at ⟨T,[]⟩ (.inRegion xT (6::rest)::R5)/\cs=[bot]/\PF p q L T/\L.getD 6 true=false/\L.getD 7 true=false/\L.getD 8 true=false/\(∀ i,2<=i->i<6->L.getD i false=true)/\q<p.N/\tg .any xT (L.setIfInBounds 6 true) rest
structure kt.Ok(p:kt):Prop where
 ten:10<=p.B
 jb:p.S0.heap[p.B]?=some (.cells #[p.vJ] 22 (0,0))
 ob:p.S0.heap[p.B+2]?=some (.cells #[.slice (some ⟨p.B+1,0,none⟩) p.N p.N] 23 (0,0))
 tb:p.S0.heap[p.B+4]?=some (.cells #[.chan (some (p.B+3))] 49 (0,0))
 jobs:∀ q,q<p.N->∃ b o c,p.vJ=.slice (some ⟨b,o,none⟩) p.N c/\b<p.B/\G1 b=false/\p.S0.cell? ⟨b,o+q,none⟩=some (p.arg q)
 tab:Hg G1 p.S0
 gp:FM.GlobP p.S0
theorem p6.blind{l:List (Int×Int×Int)}{val:Value}(T:Tape)(d:Nat)(h:p6 l val w):p6 l val (tp w T d):=h
theorem Wa{p:kt}(h:p.Ok)(a:Addr)(u:Value)(hm:p.m a u):(gm p.B).Rd a.block/\¬ (gm p.B).Sh a.block:=by
 obtain⟨h1,h2,_⟩:=hm;refine⟨by simp only [gm];omega,fun hs=>?_⟩;have:G1 a.block=true:=hs;rw [h2] at this;cases this
noncomputable def nb (p:kt) (h:p.Ok) (End AnchW:Goroutine->World->Prop):gE Tryz.prog where
 E:=kr p.m
 hK:=tz p.m
 hB:=jE p.m
 G:=gm p.B
 hG:=OQ h.ten
 hm:=Wa h
 ty:=59
 n:=p.n
 N:=p.N
 S0:=p.S0
 eO:=46
 Post:=fun q val v=>p6 (p.A q) val v
 blind:=fun q val w T d h=>h.blind T d
 Recv:=fun _ g=>AM p g
 Ret:=fun _ q c cs=>R6 p q c cs
 fdo:=10
 arg:=p.arg
 z:=.int .i64 0
 End:=End
 AnchW:=AnchW
section
variable {p:kt} {hp:p.Ok} {End AnchW:Goroutine->World->Prop}
theorem bb{q:Option Nat}:tl (RB (gm p.B) 59 q) (Kn (nb p hp End AnchW)):=fun w ai h r=>Kn.rb (S:=(nb p hp End AnchW)) h r
def ER(B:Nat)(e:Event):Prop:=∃ a,e=⟨.cell a,false,false⟩/\(gm B).Rd a.block
theorem a7:Lets (DR (gm B)) (ER B):=fun w es h=>⟨⟨rfl,.refl w⟩,fun e he=>.inl (h e he)⟩
theorem EU(h:Kn (nb p hp End AnchW) w){b:Nat}(hb:b<p.B+6)(h1:b≠p.B+5)(h2:b≠p.B+3)(h3:b≠p.B+1)(h4:G1 b=false):w.heap[b]?=p.S0.heap[b]? :=
 h.low.low b hb h1 h2 h3
theorem AN{b:Nat}(h:10<=b):G1 b=false:=by
 cases e:G1 b with
 | false=>rfl
 | true=>have:=iH e;omega
include hp in
theorem OS(h:Kn (nb p hp End AnchW) w):w.cell? ⟨p.B,0,none⟩=some p.vJ:=by
 have h0:=hp.ten;have:=(EU h (b:=p.B) ae ae ae ae (AN h0)).trans hp.jb;simp [World.cell?,this]
theorem EV(h:Kn (nb p hp End AnchW) w):w.cell? ⟨p.B+2,0,none⟩=some (.slice (some ⟨p.B+1,0,none⟩) p.N p.N):=by
 have h0:=hp.ten;have:=(EU h (b:=p.B+2) ae ae ae ae (AN ae)).trans hp.ob;simp [World.cell?,this]
theorem Wb(h:Kn (nb p hp End AnchW) w):w.cell? ⟨p.B+4,0,none⟩=some (.chan (some (p.B+3))):=by
 have h0:=hp.ten;have:=(EU h (b:=p.B+4) ae ae ae ae (AN ae)).trans hp.tb;simp [World.cell?,this]
theorem C7(h:Kn (nb p hp End AnchW) w){a:Addr}(hb:a.block<p.B)(h4:G1 a.block=false):w.cell? a=p.S0.cell? a:=by
 have:=EU h (b:=a.block) ae ae ae ae h4;unfold World.cell?;rw [this]
theorem AO{a:Addr}(h:a.block<B+6/\a.block≠B+5/\a.block≠B+1/\a.block≠B+3):ER B ⟨.cell a,false,false⟩:=⟨a,rfl,h⟩
def call9(B:Nat):Deferred:={ target:=.fn (.func 9) #[pA (B+4),pA B,pA (B+2),pA (B+5)],args:=#[] }
theorem GM(B:Nat)(w:World):stepG Tryz.prog false (born Tryz.prog (call9 B)) w =
  .go (Go.Conc.G (b9.at ⟨#[pA (B+4),pA B,pA (B+2),pA (B+5),undef,undef,undef,undef,undef,undef,undef,undef,undef,undef,undef,undef,undef,undef],[]⟩ [.code AL]) [bot]) w #[]:=by
 simp [born,call9,stepG,unwind,callDeferred,invoke,callFunc,func9,Tryz.f9,seen,GStep.after,Go.Conc.G,Frame.enter,Frame.at,b9,baseD,bot,AL]
theorem C8:Wk Tryz.prog false (RB (gm p.B) 59 none) (DR (gm p.B)) (Kn (nb p hp End AnchW)) (fun g _=>AM p g) (born Tryz.prog (call9 p.B)):=by
 refine .ctl bb a7 rfl (fun w=>GM p.B w) ?_;refine .seq (x:=.seq (.region 0 o90 false) (.block 0 (.loop Xu))) (y:=Xv) bb a7 ?_;refine .seq bb a7 ?_;refine .reg (l:=[0]) bb a7 rfl ?_;refine .op (o:=⟨some 5,.load 49 (.tmp 0),49,_,#[],none⟩) bb a7 af rfl rfl (fun w hk=>eI underlying49 rfl rfl (Wb hk) (AO (by simp only;omega))) ?_;refine .tn bb a7 ?_;refine .block bb a7 ?_;refine .loop bb a7 ?_;refine .seq (x:=.region 1 Lc false) (y:=Ke) bb a7 ?_;refine .reg (l:=[0,1]) bb a7 rfl ?_;exact .stop bb fun w hk=>⟨_,rfl,⟨⟨rfl,rfl,rfl,rfl,rfl⟩,rfl⟩⟩
theorem GN(h:AM p g):stepG Tryz.prog false g w=.comm g #[rcase (p.B+3) (.int .i64 0)] true (.recv true) w #[]:=by
 obtain⟨T,rfl,hT⟩:=h;have ht5:(⟨T,[]⟩:Act).eval (.tmp 5)=.chan (some (p.B+3)):=hT.t5;have hx:∃ o,Lc[0]?=some o/\o.guard=none/\o.op=.recv 49 (.tmp 5) true/\o.dst=some 6:=⟨_,rfl,rfl,rfl,rfl⟩;obtain⟨o,ho,hg,bU,hd⟩:=hx;refine(stepG_comm (cases:=#[rcase (p.B+3) (.int .i64 0)]) (blocking:=true) (shape:=.recv true) (w':=w) ho (by unfold Region.wanted;rw [hg]) af ?_).trans ?_
 ·unfold execOp;simp only [bU,ht5];simp [go_sem,rcase]
 ·have he:(execOp (⟨T,[]⟩:Act).eval o).events Tryz.prog w #[]=#[]:=by
   unfold execOp;simp only [bU,ht5];simp [go_sem]
  unfold listed;rw [he,Go.Conc.seen_none];rfl
theorem Wc:(xT.toList.zipIdx.all fun p=>p.1.after.toList.all fun e=>Nat.blt e.on p.2)=true:=ah
theorem Kf:∀ (i:Nat) (o:Oper),xT[i]?=some o->∀ e∈o.after,e.on<i:=fun i o ho e he=>by
 have h1:=ahM.1 Wc (o,i) (by
  rw [List.mem_iff_getElem?]
  exact⟨i,by rw [List.getElem?_zipIdx];simp [ho]⟩)
 have h2:=ahM.1 h1 e (by simpa using he);exact ah3 h2
theorem ow:xT.size=9:=by rfl
theorem Kg{k:Nat}(hq:q<p.N):∀ (m:Nat) (L:Array Bool) (T:Array Value) (l:List Nat),mi L=m->tg .any xT L l->PF p q L T->L.getD 6 true=false->L.getD 7 true=false->L.getD 8 true=false->∀ w,Kn (nb p hp End AnchW) w ->
  Goes Tryz.prog false (RB (gm p.B) 59 none) (DR (gm p.B)) (sQ (nb p hp End AnchW) k q) m (Go.Conc.G (b9.at ⟨T,[]⟩ (.inRegion xT l::R5)) [bot]) w:=by
 intro m
 induction m with
 | zero =>
  intro L T l hm ho hf h6 h7 h8 w hk;have:=gK h6;omega
 | succ m ih =>
  intro L T l hm ho hf h6 h7 h8
  cases ho with
  | nil xP=>exact absurd xP (tq Kf (by rw [hf.sz];exact ow.symm) h6)
  | @cons _ i l hi hl =>
   have vK:=th hi;have aA:i<9:=by
    obtain⟨_,o,ho,_⟩:=mem_ready.1 hi;have:=(ahx.1 ho).1;rw [ow] at this;exact this
   have tY:mi (L.setIfInBounds i true)=m:=by have:=gK vK;omega
   have dep:∀ {o:Oper} (j:Nat),xT[i]?=some o->(o.after.any fun e=>Region.binds .any e&&e.on==j)=true->L.getD j false=true:=fun j ho hd=>vG hi ho hd;have go:∀ (k:Nat) (v:Value),k=i->k<6->ET p q k v->(k=5->L.getD 4 false=true)->(k=4->L.getD 2 false=true/\L.getD 3 false=true)->∀ w,Kn (nb p hp End AnchW) w->Goes Tryz.prog false (RB (gm p.B) 59 none) (DR (gm p.B)) (sQ (nb p hp End AnchW) k q) m (Go.Conc.G (b9.at ((⟨T,[]⟩:Act).put (some (k+9)) v) (.inRegion xT l::R5)) [bot]) w:=fun k v e hk hv c5 c4=>by
    subst e;exact ih _ _ l tY hl (hf.put hk hv c5 c4) (by rw [eU _ ae];exact h6) (by rw [eU _ ae];exact h7) (by rw [eU _ ae];exact h8)
   match i,aA with
   | 0,_=>exact eK (a:=⟨T,[]⟩) (o:=⟨some 9,.load 23 (.tmp 2),23,_,#[],none⟩) bb a7 af rfl rfl (fun w hk=>eI underlying23 rfl hf.wc.t2 (EV hk) (AO (by simp only;omega))) (go 0 _ rfl ae rfl nofun nofun)
   | 1,_=>exact eK (a:=⟨T,[]⟩) (o:=⟨some 10,.move (.tmp 4),3,_,#[],none⟩) bb a7 af rfl rfl (fun w hk=>bY hf.t4) (go 1 _ rfl ae rfl nofun nofun)
   | 2,_=>exact eK (a:=⟨T,[]⟩) (o:=⟨some 11,.load 22 (.tmp 1),22,_,#[],none⟩) bb a7 af rfl rfl (fun w hk=>eI underlying22 rfl hf.wc.t1 (OS hk) (AO (by simp only;omega))) (go 2 _ rfl ae rfl nofun nofun)
   | 3,_=>exact eK (a:=⟨T,[]⟩) (o:=⟨some 12,.move (.tmp 4),3,_,#[],none⟩) bb a7 af rfl rfl (fun w hk=>bY hf.t4) (go 3 _ rfl ae rfl nofun nofun)
   | 4,_ =>
    obtain⟨b,o,c,hJ,hb,hg,hc⟩:=hp.jobs q hq;have d2:T.getD 11 undef=p.vJ:=hf.at_ 2 ae (dep (o:=_) 2 rfl ah);have d3:T.getD 12 undef=.int .i64 q:=hf.at_ 3 ae (dep (o:=_) 3 rfl ah);exact eK (a:=⟨T,[]⟩) (o:=⟨some 13,.indexAddr 22 (.tmp 11) (.tmp 12),0,_,_,none⟩) bb a7 af rfl rfl (fun w hk=>JZ (n:=1) underlying22 ah (d2.trans hJ) d3 hq) (go 4 _ rfl ae ⟨b,o+q*1,rfl,by rw [Nat.mul_one];exact hc,hb,hg⟩ nofun fun _=>⟨dep (o:=_) 2 rfl ah,dep (o:=_) 3 rfl ah⟩)
   | 5,_ =>
    obtain⟨b,o,hv,hc,hb,hg⟩:ET p q 4 (T.getD 13 undef):=hf.at_ 4 ae (dep (o:=_) 4 rfl ah);exact eK (a:=⟨T,[]⟩) (o:=⟨some 14,.load 27 (.tmp 13),27,_,_,none⟩) bb a7 af rfl rfl (fun w hk=>eI underlying27 rfl hv ((C7 hk hb hg).trans hc) (AO (by have:=hp.ten;simp only;omega))) (go 5 _ rfl ae rfl (fun _=>dep (o:=_) 4 rfl ah) nofun)
   | 6,_ =>
    have d5:T.getD 14 undef=p.arg q:=hf.at_ 5 ae (dep (o:=_) 5 rfl ah);have d4:=dep (o:=_) 5 rfl ah
    have oF:R6 p q (b9.at ⟨T,[]⟩ (.inRegion xT (6::l)::R5)) [bot]:=⟨T,L,l,rfl,rfl,hf,h6,h7,h8,fun i h1 h2=>by
     have c4:=hf.cl5 d4
     have c23:=hf.cl4 c4
     match i,h1,h2 with
     | 2,_,_=>exact c23.1
     | 3,_,_=>exact c23.2
     | 4,_,_=>exact c4
     | 5,_,_=>exact d4,hq,hl⟩
    have bU:∃ pos aft,xT[6]?=some ⟨some 15,.call { callee:=.value (.func 10),args:=#[.tmp 14],argTypes:=#[27] },46,pos,aft,none⟩:=⟨_,_,rfl⟩;obtain⟨pos,aft,bU⟩:=bU;have cn:(#[Operand.tmp 14].map (⟨T,[]⟩:Act).eval)=#[p.arg q]:=by
     rw [<- d5];simp [Act.eval]
    refine CZ (a:=⟨T,[]⟩) (f:=10) (fn:=Tryz.f10) (c:=xU) bb a7 af bU rfl rfl func10 ah rfl fun w hk=>Goes.stop fun ai dO=>⟨_,_,oF,?_⟩;rw [cn];rfl
   | 7,_ =>
    have:=dep (o:=_) 6 rfl ah;have qd:L.getD 6 false=true:=this;rw [ahA] at h6 qd;have:6<L.size:=by rw [hf.sz];omega
    rw [ahO this] at h6 qd;simp only [ah8] at h6 qd;rw [h6] at qd;cases qd
   | 8,_ =>
    have:=dep (o:=_) 6 rfl ah;have qd:L.getD 6 false=true:=this;rw [ahA] at h6 qd;have:6<L.size:=by rw [hf.sz];omega
    rw [ahO this] at h6 qd;simp only [ah8] at h6 qd;rw [h6] at qd;cases qd
theorem R7(h:AM p g)(hq:q<p.N)(hk:Kn (nb p hp End AnchW) w):∃ m,Goes Tryz.prog false (RB (gm p.B) 59 none) (DR (gm p.B)) (sQ (nb p hp End AnchW) k q) m (Go.Conc.served g (.tuple #[.int .i64 q,.bool true])) w:=by
 obtain⟨T,rfl,hT⟩:=h;have e:Go.Conc.served (Gm (b9.at ⟨T,[]⟩ (.inRegion Lc [0,1]::.code Ke::Np)) [bot]) (.tuple #[.int .i64 q,.bool true])=Go.Conc.G (b9.at ((⟨T,[]⟩:Act).put (some 6) (.tuple #[.int .i64 q,.bool true])) (.inRegion Lc [1]::.code Ke::Np)) [bot] :=
  served_G b9 ⟨T,[]⟩ Lc 0 [1] (.code Ke::Np) [bot] _
 rw [e];have hs:=hT.size;have h6:(T.setIfInBounds 6 (.tuple #[.int .i64 q,.bool true])).getD 6 undef=.tuple #[.int .i64 q,.bool true]:=cM _ _ ae;refine Wk.at (K:=Kn (nb p hp End AnchW)) ?_ w hk;refine .op (a:=⟨T.setIfInBounds 6 _,[]⟩) (v:=.bool true) (o:=⟨some 7,.extract (.tmp 6) 1,4,_,_,none⟩) bb a7 af rfl rfl (fun w hk=>dP (vs:=#[.int .i64 q,.bool true]) h6 rfl) ?_;refine .tn bb a7 ?_;refine .seq (x:=.cond (.tmp 7) .skip (.exit 0)) (y:=.block 1 (.seq (.region 2 o92 false) (.region 3 xT true))) bb a7 ?_;refine .cond (t:=true) bb a7 (cM _ _ (by simp;omega)) ?_;refine .skip bb a7 ?_;refine .block bb a7 ?_;refine .seq bb a7 ?_;refine .reg (l:=[0,1]) bb a7 rfl ?_;refine .op (a:=⟨(T.setIfInBounds 6 _).setIfInBounds 7 _,[]⟩) (v:=.int .i64 q) (o:=⟨some 8,.extract (.tmp 6) 0,3,_,_,none⟩) bb a7 af rfl rfl (fun w hk=>dP (vs:=#[.int .i64 q,.bool true]) ((cj _ _ ae).trans h6) rfl) ?_;refine .op (a:=⟨((T.setIfInBounds 6 _).setIfInBounds 7 _).setIfInBounds 8 _,[]⟩) (v:=.int .i64 q) (o:=⟨some 4,.assign (.tmp 8),3,_,_,none⟩) bb a7 af rfl rfl (fun w hk=>bH (cM _ _ (by simp;omega))) ?_;refine .tn bb a7 ?_;refine .draw bb (fun w h=>⟨⟨h.low.low⟩,h.out,h.live,h.lo⟩) (fun w=>⟨⟨rfl,rfl,rfl⟩,ag⟩) ah 9 fun l hl w hk=>?_;refine Kg hq 9 _ _ l (by rw [ow];decide) hl ⟨((((hT.set (.inr ae) _).set (.inr ae) _).set (.inr ae) _).set (.inl rfl) _),by simp [ow],cM _ _ (by simp;omega),fun k hk hh=>?_,fun hh=>?_,fun hh=>?_⟩ ?_ ?_ ?_ w hk;all_goals first|(rw [ow];rfl)|(rw [ow] at hh;exfalso;revert hh;rw [ahA,Array.getElem?_replicate];split<;>simp)
theorem EW{ρ:Ren}{s1 s2 cy:Value}(h:VR ρ (.agg #[s1,s2]) cy):∃ R8 R9,cy=.agg #[R8,R9]/\VR ρ s1 R8/\VR ρ s2 R9:=by
 cases h with
 | @agg a b hs hv =>
  obtain⟨l⟩:=b
  match l,hs with
  | [x,y],_=>exact⟨x,y,rfl,hv 0 _ _ rfl rfl,hv 1 _ _ rfl rfl⟩
theorem OT{ρ:Ren}{s:Value}{v:World}{α:Type}{f:α->Nat->Value}{l:List α}(hr:dn (mW v) k f l s){s':Value}(h:VR ρ s s'):s'.oneCell'=true:=by
 rcases hr with⟨a,c,rfl,_⟩|⟨b,o,c,rfl,_⟩
 ·cases h<;>rfl
 ·cases h<;>rfl
theorem iJ:Lets (DO (gm B) q) (ER B):=fun w es h=>⟨.refl w,rfl,fun _ _=>rfl,fun cs e z hc=>⟨cs,hc,rfl,fun _ _=>rfl⟩,fun e he=>.inl (h e he)⟩
theorem vL{v:Value}{ai:World}(h:j8 (gm p.B) q v w)(hk:Kn (nb p hp End AnchW) w)(r:RB (gm p.B) 59 (some q) w ai):j8 (gm p.B) q v ai:=by
 refine⟨h.1,fun i hi=>?_⟩;have h2:=h.2 i hi;obtain⟨cs,h3,h4⟩:=hk.out;have mA:w.heap[(gm p.B).O]?=some (.cells cs 46 (0,0)):=h3;obtain⟨cs',h5,h6,h7⟩:=r.out cs _ _ mA;rw [<- h2];simp only [World.cell?,mA,h5];rw [h7 q (q*(gm p.B).d+i) rfl ⟨Nat.le_add_right _ _,ae⟩]
theorem GO{k:Nat}(hq:q<p.N){s1 s2:Value}(Og:s1.oneCell'=true)(F1:s2.oneCell'=true):∀ (m:Nat) (L:Array Bool) (T:Array Value) (l:List Nat),mi L=m->tg .any xT L l->PF p q L T->L.getD 8 true=false->(∀ i,2<=i->i<7->L.getD i false=true)->T.getD 15 undef=.agg #[s1,s2]->(L.getD 7 false=true->T.getD 16 undef=.pointer (some ⟨p.B+1,0+q*2,none⟩))->∀ w,Kn (nb p hp End AnchW) w ->
  Goes Tryz.prog false (RB (gm p.B) 59 (some q)) (DO (gm p.B) q) (oe (nb p hp End AnchW) k q (.agg #[s1,s2])) (m+6) (Go.Conc.G (b9.at ⟨T,[]⟩ (.inRegion xT l::R5)) [bot]) w:=by
 intro m
 induction m with
 | zero =>
  intro L T l hm ho hf h8 hd We Xw w hk;have:=gK h8;omega
 | succ m ih =>
  intro L T l hm ho hf h8 hd We Xw
  cases ho with
  | nil xP=>exact absurd xP (tq Kf (by rw [hf.sz];exact ow.symm) h8)
  | @cons _ i l hi hl =>
   have vK:=th hi;have aA:i<9:=by
    obtain⟨_,o,ho,_⟩:=mem_ready.1 hi;have:=(ahx.1 ho).1;rw [ow] at this;exact this
   have tY:mi (L.setIfInBounds i true)=m:=by have:=gK vK;omega
   have dep:∀ {o:Oper} (j:Nat),xT[i]?=some o->(o.after.any fun e=>Region.binds .any e&&e.on==j)=true->L.getD j false=true:=fun j ho hd=>vG hi ho hd;have no:2<=i->i<7->False:=fun a b=>by
    have h1:=hd i a b;have Bo:i<L.size:=by rw [hf.sz];exact aA
    simp only [ahA,ahO Bo,ah8] at h1 vK;rw [h1] at vK;cases vK
   have e6:m+1+6=(m+6)+1:=ae;rw [e6]
   match i,aA with
   | 0,_=>exact eK (a:=⟨T,[]⟩) (o:=⟨some 9,.load 23 (.tmp 2),23,_,#[],none⟩) bb iJ af rfl rfl (fun w hk=>eI underlying23 rfl hf.wc.t2 (EV hk) (AO (by simp only;omega))) (ih _ _ l tY hl (hf.put (k:=0) ae rfl nofun nofun) (by rw [eU _ ae];exact h8) (fun i a b=>dC (hd i a b)) ((cj _ _ ae).trans We) (fun hh=>(cj _ _ ae).trans (Xw (by rwa [eU _ ae] at hh))))
   | 1,_=>exact eK (a:=⟨T,[]⟩) (o:=⟨some 10,.move (.tmp 4),3,_,#[],none⟩) bb iJ af rfl rfl (fun w hk=>bY hf.t4) (ih _ _ l tY hl (hf.put (k:=1) ae rfl nofun nofun) (by rw [eU _ ae];exact h8) (fun i a b=>dC (hd i a b)) ((cj _ _ ae).trans We) (fun hh=>(cj _ _ ae).trans (Xw (by rwa [eU _ ae] at hh))))
   | 2,_=>exact(no ae ae).elim
   | 3,_=>exact(no ae ae).elim
   | 4,_=>exact(no ae ae).elim
   | 5,_=>exact(no ae ae).elim
   | 6,_=>exact(no ae ae).elim
   | 7,_ =>
    have d0:T.getD 9 undef=.slice (some ⟨p.B+1,0,none⟩) p.N p.N:=hf.at_ 0 ae (dep (o:=_) 0 rfl ah);have d1:T.getD 10 undef=.int .i64 q:=hf.at_ 1 ae (dep (o:=_) 1 rfl ah);exact eK (a:=⟨T,[]⟩) (o:=⟨some 16,.indexAddr 23 (.tmp 9) (.tmp 10),0,_,_,none⟩) bb iJ af rfl rfl (fun w hk=>JZ (n:=2) underlying23 ah d0 d1 hq) (ih _ _ l tY hl (hf.more ae ae) (by rw [eU _ ae];exact h8) (fun i a b=>dC (hd i a b)) ((cj _ _ ae).trans We) (fun hh=>cM _ _ (by rw [hf.wc.size];omega)))
   | 8,_ =>
    have cZ:∀ j,j<8->L.getD j false=true:=fun j hj=>by
     match j,hj with
     | 0,_=>exact dep (o:=_) 0 rfl ah
     | 1,_=>exact dep (o:=_) 1 rfl ah
     | 7,_=>exact dep (o:=_) 7 rfl ah
     | 2,_=>exact hd 2 ae ae
     | 3,_=>exact hd 3 ae ae
     | 4,_=>exact hd 4 ae ae
     | 5,_=>exact hd 5 ae ae
     | 6,_=>exact hd 6 ae ae
    have xP:l=[]:=GH hl fun j hj=>by
     rw [ow] at hj;by_cases e:8=j
     ·subst e;exact J0 _ (by rw [hf.sz];omega)
     ·rw [eU _ e];have Bo:j<L.size:=by rw [hf.sz];omega
      have h1:=cZ j ae;simp only [ahA,ahO Bo,ah8] at h1 ⊢;exact h1
    subst xP;have aax:=Xw (cZ 7 ae);have ho:∃ pos aft,xT[8]?=some ⟨none,.store 46 (.tmp 16) (.tmp 15),0,pos,aft,none⟩:=⟨_,_,rfl⟩;obtain⟨pos,aft,ho⟩:=ho;intro w hk;refine Goes.step rfl fun ai dO=>?_;have hk:=bb _ _ hk dO;obtain⟨cur,hc,bc⟩:=hk.out;have uK:ai.heap[p.B+1]?=some (.cells cur 46 (0,0)):=hc;have jh:cur.size=p.N*2:=bc;obtain⟨r1,r2⟩:=CY (P:=Tryz.prog) (a:=⟨T,[]⟩) (w:=ai) (d:=none) (ty:=0) (pos:=pos) (aft:=aft) (g:=none) (t:=46) (x:=.tmp 16) (y:=.tmp 15) (b:=p.B+1) (o:=0+q*2) ah aax We Og F1 uK ae;rw [stepG_none ho rfl af r1,goes_go];have g1:=setRow_heap ai (p.B+1) cur (cur.setIfInBounds (0+q*2) s1) 46 (0,0) uK;have g2:=setRow_heap _ (p.B+1) _ ((cur.setIfInBounds (0+q*2) s1).setIfInBounds (0+q*2+1) s2) 46 (0,0) g1;generalize yi:((ai.setRow (p.B+1) (cur.setIfInBounds (0+q*2) s1)).setRow (p.B+1) ((cur.setIfInBounds (0+q*2) s1).setIfInBounds (0+q*2+1) s2))=fQ at g2 ⊢;have mX:∀ b,b≠p.B+1->fQ.heap[b]?=ai.heap[b]?:=fun b hb=>by
     rw [<- yi,setRow_other _ _ _ _ hb,setRow_other _ _ _ _ hb]
    have Dx:fQ.heap.size=ai.heap.size:=by
     rw [<- yi];simp
    have JC:=hp.ten;have Wf:((cur.setIfInBounds (0+q*2) s1).setIfInBounds (0+q*2+1) s2).size=cur.size:=ag
    have SU:Kn (nb p hp End AnchW) fQ:=Kn.rb (S:=(nb p hp End AnchW)) (q:=none) hk ⟨⟨fun b _ _ _ h4=>mX b h4⟩,fun cs e z h=>by
     have h':ai.heap[p.B+1]?=some (.cells cs e z):=h
     rw [uK] at h';cases h'
     exact⟨_,g2,Wf,nofun⟩,fun⟨st,sm,h⟩=>⟨st,sm,h.of_block (mX _ (by show p.B+5≠p.B+1;omega))⟩,Nat.le_of_eq Dx.symm⟩
    have tO:j8 (gm p.B) q (.agg #[s1,s2]) fQ:=by
     refine⟨rfl,fun i hi=>?_⟩;have ez:i<2:=hi;show fQ.cell? ⟨p.B+1,q*2+i,none⟩=#[s1,s2][i]?;simp only [World.cell?,g2]
     match i,ez with
     | 0,_ =>
      rw [ahw ae,show 0+q*2=q*2+0 by omega,ahS ae];rfl
     | 1,_ =>
      rw [show 0+q*2+1=q*2+1 by omega,ahS (by simp;omega)];rfl
    have AP:fF ai fQ:=by rw [<- yi];exact⟨rfl,rfl⟩
    refine⟨⟨AP,Dx,mX,fun cs e z bt=>?_,fun e he=>?_⟩,?_⟩
    ·have h':ai.heap[p.B+1]?=some (.cells cs e z):=bt;rw [uK] at h';cases h';refine⟨_,g2,Wf,fun off FI=>?_⟩;have acS:¬ (q*2<=off/\off<q*2+2):=FI;rw [ahw ae,ahw ae]
    ·have PQ:=mem_listed he;rw [r2] at PQ;simp only [aiz,ah1,aiK,or_false] at PQ;rcases PQ with rfl|rfl
     ·exact .inr ⟨0+q*2,true,⟨by show q*2<=_;omega,by show _<q*2+2;omega⟩,rfl⟩
     ·exact .inr ⟨0+q*2+1,true,⟨by show q*2<=_;omega,by show _<q*2+2;omega⟩,rfl⟩
    ·have Wh:tl (RB (gm p.B) 59 (some q)) (fun w=>Kn (nb p hp End AnchW) w/\j8 (gm p.B) q (.agg #[s1,s2]) w):=fun w w' h r=>⟨bb _ _ h.1 r,vL h.2 h.1 r⟩;have wc:=hf.wc;rw [show m+6=5+(m+1) by omega];refine CO.GJ (m+1) ?_;refine jC (K:=fun w=>Kn (nb p hp End AnchW) w/\j8 (gm p.B) q (.agg #[s1,s2]) w) Wh iJ rfl (fun w=>stepG_region_end) ?_ fQ ⟨SU,tO⟩;refine jC Wh iJ rfl (fun w=>stepG_inBlock) ?_;refine jC Wh iJ rfl (fun w=>stepG_inLoop) ?_;refine jC (g:=Go.Conc.G (b9.at _ (.code (.seq (.region 1 Lc false) Ke)::Np)) [bot]) Wh iJ rfl (fun w=>stepG_seq) ?_;refine jC Wh iJ rfl (fun w=>stepG_region) ?_;exact fun w hk=>Goes.stop fun w' r=>⟨⟨T,rfl,wc⟩,vL hk.2 hk.1 r⟩
theorem Nq{k:Nat}{c:Frame}{cs:List Frame}{val cy:Value}{ρ:Ren}{v:World}(hr:R6 p q c cs)(om:p6 (p.A q) val v)(hv:VR ρ val cy)(hk:Kn (nb p hp End AnchW) w):
  ∃ m,Goes Tryz.prog false (RB (gm p.B) 59 (some q)) (DO (gm p.B) q) (oe (nb p hp End AnchW) k q cy) m (Gm (c.finish cy) cs) w:=by
 obtain⟨T,L,rest,rfl,rfl,hf,h6,h7,h8,hd,hq,ho⟩:=hr;obtain⟨s1,s2,rfl,r1,r2⟩:=om;obtain⟨R8,R9,rfl,v1,v2⟩:=EW hv;have hs:=hf.wc.size;have e:Gm ((b9.at ⟨T,[]⟩ (.inRegion xT (6::rest)::R5)).finish (.agg #[R8,R9])) [bot]=Go.Conc.G (b9.at ⟨T.setIfInBounds 15 (.agg #[R8,R9]),[]⟩ (.inRegion xT rest::R5)) [bot]:=by
  rw [Frame.finish_at];rfl
 rw [e];refine⟨_,GO hq (OT r1 v1) (OT r2 v2) _ (L.setIfInBounds 6 true) _ rest rfl ho (hf.more ae ae) (by rw [eU _ ae];exact h8) (fun i a b=>?_) (cM _ _ ae) (fun hh=>?_) w hk⟩
 ·by_cases e:6=i
  ·subst e;exact J0 _ (by rw [hf.sz];omega)
  ·exact dC (hd i a ae)
 ·rw [eU _ ae] at hh;have Bo:7<L.size:=by rw [hf.sz];omega
  simp only [ahA,ahO Bo,ah8] at hh h7;rw [h7] at hh;cases hh
noncomputable def Kh:Code:=Tryz.f11.body.getD .skip
noncomputable def Xx:Array Oper:=match Kh with|.region _ o _=>o|_=>#[]
theorem GP(T:Array Value):QuitsD Tryz.prog 2 0 (Go.Conc.G { b9.at ⟨T,[]⟩ [] with mode:=.returning } [bot]):=by
 refine QuitsD.ctl (g':=Go.Conc.G bot []) rfl (fun w=>?_) ?_
 ·simp [Go.Conc.G,stepG,unwind,doReturn,results,Frame.at,b9,baseD,bot,func9,Tryz.f9,seen,GStep.after,goexitEntry]
 refine QuitsD.ctl (g':={ Go.Conc.G bot [] with status:=.finished }) rfl (fun w=>?_) ⟨rfl,rfl⟩;simp [Go.Conc.G,stepG,unwind,bot,goexitEntry,Frame.catches];rfl
theorem Sa(T T1:Array Value):QuitsD Tryz.prog 7 0 (Go.Conc.G ((base 11).at ((⟨T1,[]⟩:Act).put ((Xx[1]?).bind (·.dst)) (.tuple #[])) (.inRegion Xx []::[])) [b9.at ⟨T,[]⟩ (.inRegion V9 [0]::[]),bot]):=by
 refine QuitsD.ctl (n:=6) rfl (fun w=>stepG_region_end) ?_;refine QuitsD.ctl (n:=5) rfl (fun w=>stepG_end) ?_;refine QuitsD.leave0 (n:=4) (b:=base 11) (ops:=V9) (i:=0) (rest:=[]) rfl rfl func11 rfl ?_;refine QuitsD.ctl (n:=3) rfl (fun w=>stepG_region_end) ?_;refine QuitsD.ctl (n:=2) rfl (fun w=>stepG_end) ?_;exact GP _
theorem sZ(hp:p.Ok){C:Nat}(h:C=p.B∨C=p.B+2):EL (gm p.B) C:=by
 have JC:=hp.ten;refine⟨?_,?_,?_,?_,fun hs=>?_⟩;all_goals try (simp only [gm];omega)
 have:=iH hs;omega
theorem aay(x y:Value):(#[x,y]++Array.replicate 115 undef:Array Value)=#[x,y,undef,undef,undef,undef,undef,undef,undef,undef,undef,undef,undef,undef,undef,undef,undef,undef,undef,undef,undef,undef,undef,undef,undef,undef,undef,undef,undef,undef,undef,undef,undef,undef,undef,undef,undef,undef,undef,undef,undef,undef,undef,undef,undef,undef,undef,undef,undef,undef,undef,undef,undef,undef,undef,undef,undef,undef,undef,undef,undef,undef,undef,undef,undef,undef,undef,undef,undef,undef,undef,undef,undef,undef,undef,undef,undef,undef,undef,undef,undef,undef,undef,undef,undef,undef,undef,undef,undef,undef,undef,undef,undef,undef,undef,undef,undef,undef,undef,undef,undef,undef,undef,undef,undef,undef,undef,undef,undef,undef,undef,undef,undef,undef,undef,undef,undef]:=by
 apply Array.ext';simp only [Array.toList_append,Array.toList_replicate];rfl
theorem Ki(x y:Value):Frame.enter Tryz.prog 8 #[x,y] .normal=(base link.add).at ⟨#[x,y,undef,undef,undef,undef,undef,undef,undef,undef,undef,undef,undef,undef,undef,undef,undef,undef,undef,undef,undef,undef,undef,undef,undef,undef,undef,undef,undef,undef,undef,undef,undef,undef,undef,undef,undef,undef,undef,undef,undef,undef,undef,undef,undef,undef,undef,undef,undef,undef,undef,undef,undef,undef,undef,undef,undef,undef,undef,undef,undef,undef,undef,undef,undef,undef,undef,undef,undef,undef,undef,undef,undef,undef,undef,undef,undef,undef,undef,undef,undef,undef,undef,undef,undef,undef,undef,undef,undef,undef,undef,undef,undef,undef,undef,undef,undef,undef,undef,undef,undef,undef,undef,undef,undef,undef,undef,undef,undef,undef,undef,undef,undef,undef,undef,undef,undef],[]⟩ [.code (body_add link)]:=by
 rw [<- aay,enter_at (fn:=Tryz.f8) (c:=body_add link) _ func8 rfl];rfl
theorem Sb(h:AM p g)(hk:Kn (nb p hp End AnchW) w):∃ m,Goes Tryz.prog false (RB (gm p.B) 59 none) (DR (gm p.B)) (Jv Tryz.prog 59 (gm p.B).Wg (RB (gm p.B) 59 none)) m (Go.Conc.served g (.tuple #[.int .i64 0,.bool false])) w:=by
 obtain⟨T,rfl,hT⟩:=h;have e:Go.Conc.served (Gm (b9.at ⟨T,[]⟩ (.inRegion Lc [0,1]::.code Ke::Np)) [bot]) (.tuple #[.int .i64 0,.bool false])=Go.Conc.G (b9.at ((⟨T,[]⟩:Act).put (some 6) (.tuple #[.int .i64 0,.bool false])) (.inRegion Lc [1]::.code Ke::Np)) [bot] :=
  served_G b9 ⟨T,[]⟩ Lc 0 [1] (.code Ke::Np) [bot] _
 rw [e];have hs:=hT.size;have h6:(T.setIfInBounds 6 (.tuple #[.int .i64 0,.bool false])).getD 6 undef=.tuple #[.int .i64 0,.bool false]:=cM _ _ ae;refine Wk.at (K:=Kn (nb p hp End AnchW)) ?_ w hk;refine .op (a:=⟨T.setIfInBounds 6 _,[]⟩) (v:=.bool false) (o:=⟨some 7,.extract (.tmp 6) 1,4,_,_,none⟩) bb a7 af rfl rfl (fun w hk=>dP (vs:=#[.int .i64 0,.bool false]) h6 rfl) ?_;refine .tn bb a7 ?_;refine .seq (x:=.cond (.tmp 7) .skip (.exit 0)) (y:=.block 1 (.seq (.region 2 o92 false) (.region 3 xT true))) bb a7 ?_;refine .cond (t:=false) bb a7 (cM _ _ (by simp;omega)) ?_;refine .exit (k':=[.code Xv]) bb a7 rfl ?_;refine .reg (id:=4) (ops:=V9) (l:=[0]) bb a7 rfl ?_;have EX:=(hT.set (i:=6) (.inr ae) (.tuple #[.int .i64 0,.bool false])).set (i:=7) (.inr ae) (.bool false);change Wk Tryz.prog false (RB (gm p.B) 59 none) (DR (gm p.B)) (Kn (nb p hp End AnchW)) _ (Go.Conc.G (b9.at ⟨(T.setIfInBounds 6 (.tuple #[.int .i64 0,.bool false])).setIfInBounds 7 (.bool false),[]⟩ [.inRegion V9 [0]]) [bot]);generalize (T.setIfInBounds 6 (.tuple #[.int .i64 0,.bool false])).setIfInBounds 7 (.bool false)=T2 at EX ⊢;have ho:∃ pos,V9[0]?=some ⟨some 17,.call { callee:=.value (.func 11),args:=#[.tmp 3],argTypes:=#[59] },0,pos,#[],none⟩:=⟨_,rfl⟩;obtain⟨pos,ho⟩:=ho;have cn:(#[Operand.tmp 3].map (⟨T2,[]⟩:Act).eval)=#[pA (p.B+5)]:=by
  rw [<- EX.t3];simp [Act.eval]
 refine .call (b:=b9) (a:=⟨T2,[]⟩) (f:=11) (fn:=Tryz.f11) (c:=Kh) bb a7 af ho rfl rfl func11 ah rfl ?_;rw [cn];have Sc:Frame.enter Tryz.prog 11 #[pA (p.B+5)] .normal=(base 11).at ⟨#[pA (p.B+5),undef,undef,undef],[]⟩ [.code (.region 0 Xx false)]:=rfl;rw [Sc];refine .reg (l:=[0,1]) bb a7 rfl ?_;refine .op (a:=⟨#[pA (p.B+5),undef,undef,undef],[]⟩) (v:=pA (p.B+5)) (o:=⟨some 2,.move (.tmp 0),84,_,_,none⟩) bb a7 af rfl rfl (fun w hk=>bY rfl) ?_;have Sd:∃ pos aft,Xx[1]?=some ⟨some 3,.call { callee:=.value (.func 8),args:=#[.tmp 2,.const (.int .i64 (-1))],argTypes:=#[84,3] },0,pos,aft,none⟩:=⟨_,_,rfl⟩;obtain⟨Se,Sf,Sd⟩:=Sd;refine .call (b:=base 11) (a:=⟨#[pA (p.B+5),undef,pA (p.B+5),undef],[]⟩) (f:=8) (fn:=Tryz.f8) (c:=body_add link) bb a7 af Sd rfl rfl func8 ah rfl ?_;refine .of (m:=20) fun w hk=>?_;have aaz:(#[Operand.tmp 2,Operand.const (.int .i64 (-1))].map (⟨#[pA (p.B+5),undef,pA (p.B+5),undef],[]⟩:Act).eval)=#[pA (p.B+5),.int .i64 (-1)]:=by
  simp [Act.eval]
 rw [aaz];rw [Ki];have hq:=Sa T2 #[pA (p.B+5),undef,pA (p.B+5),undef];have hl:WgLive link.tWg (gm p.B).Wg w:=hk.live;have c1:Has p.B (1-1) p.vJ w:=OS hk;have c2:Has (p.B+2) (1-1) (.slice (some ⟨p.B+1,0,none⟩) p.N p.N) w:=EV hk;have g1:=addNegN (L:=link) (P:=Tryz.prog) AK (Own:=fun _ _=>False) (Rd:=fun _ _=>False) (Wg:=(gm p.B).Wg) (C:=p.B) (n:=1) (Low:=0) (k:=1) (qt:=7) hq w ⟨hl,c1⟩;have g2:=addNegN (L:=link) (P:=Tryz.prog) AK (Own:=fun _ _=>False) (Rd:=fun _ _=>False) (Wg:=(gm p.B).Wg) (C:=p.B+2) (n:=1) (Low:=0) (k:=1) (qt:=7) hq w ⟨hl,c2⟩;exact J2 (sZ hp (.inl rfl)) (sZ hp (.inr rfl)) ae g1 g2
end
end Go.Proofs.YtmbbagbhmjaedaaGreatDoor
