/- Part of the proof. -/
import Derived.Test.YtmbbagbhmjaedaaGreatDoorCdf
import Derived.Conc.CrowdStepW
import Derived.Conc.CrowdComm
set_option linter.all false
namespace CO
open Go Go.Conc Go.ConcN
open Go.ConcR (KK WgAt stA smA rd wr mk DC0)
def FzI(s:Nat)(z:Nat×Nat):Prop:=Rm False (0,s) z
structure j6(G:cz)(w ai:World):Prop where
 low:∀ b,b<G.Lo->b≠G.Wg->b≠G.Ch->b≠G.O->ai.heap[b]?=w.heap[b]?
theorem j6.refl{G:cz}(w:World):j6 G w w:=⟨fun _ _ _ _ _=>rfl⟩
theorem j6.trans{G:cz}{a b c:World}(h:j6 G a b)(g:j6 G b c):j6 G a c :=
 ⟨fun x a1 a2 a3 a4=>(g.low x a1 a2 a3 a4).trans (h.low x a1 a2 a3 a4)⟩
structure fF(w ai:World):Prop where
 os:ai.os=w.os
 output:ai.output=w.output
theorem fF.refl(w:World):fF w w:=⟨rfl,rfl⟩
theorem fF.trans{a b c:World}(h:fF a b)(g:fF b c):fF a c:=⟨g.os.trans h.os,g.output.trans h.output⟩
structure RB(G:cz)(ty:TypeId)(q:Option Nat)(w ai:World):Prop where
 low:j6 G w ai
 out:∀ cs e z,w.heap[G.O]?=some (.cells cs e z)->∃ cs',ai.heap[G.O]?=some (.cells cs' e z)/\cs'.size=cs.size/\∀ j off,q=some j->slot G j off->cs'[off]?=cs[off]?
 live:WgLive ty G.Wg w->WgLive ty G.Wg ai
 size:w.heap.size<=ai.heap.size
theorem RB.refl{G:cz}{ty:TypeId}{q:Option Nat}(w:World):RB G ty q w w:=⟨.refl w,fun cs e z h=>⟨cs,h,rfl,fun _ _ _ _=>rfl⟩,id,ahr _⟩
theorem RB.trans{G:cz}{ty:TypeId}{q:Option Nat}(a b c:World)(h:RB G ty q a b)(g:RB G ty q b c):RB G ty q a c :=
 ⟨h.low.trans g.low,fun cs e z h1=>by
  obtain⟨c1,h2,h3,h4⟩:=h.out cs e z h1
  obtain⟨c2,g2,g3,g4⟩:=g.out c1 e z h2
  exact⟨c2,g2,g3.trans h3,fun j off hq hs=>(g4 j off hq hs).trans (h4 j off hq hs)⟩,g.live ∘ h.live,ahZ h.size g.size⟩
structure dZ(G:cz)(ty:TypeId)(w ai:World):Prop where
 rb:RB G ty none w ai
 out2:fF w ai
theorem dZ.refl{G:cz}{ty:TypeId}(w:World):dZ G ty w w:=⟨.refl w,.refl w⟩
theorem dZ.trans{G:cz}{ty:TypeId}(a b c:World)(h:dZ G ty a b)(g:dZ G ty b c):dZ G ty a c:=⟨RB.trans a b c h.rb g.rb,h.out2.trans g.out2⟩
def DR(G:cz)(w w':World)(es:Array Event):Prop:=(w'.heap=w.heap/\fF w w')/\∀ e∈es,(∃ a,e=⟨.cell a,false,false⟩/\G.Rd a.block)∨EvW G.Wg (fun _ _=>False) (fun _ _=>False) 1 e
def DS(G:cz)(w w':World)(es:Array Event):Prop:=DP G.Wg (fun _ l=>¬ ∃ a,l=.cell a/\G.Rd a.block) (yj G) 1 w.heap.size w w' es
structure DO(G:cz)(q:Nat)(w w':World)(es:Array Event):Prop where
 out2:fF w w'
 size:w'.heap.size=w.heap.size
 block:∀ b,b≠G.O->w'.heap[b]?=w.heap[b]?
 out:∀ cs e z,w.heap[G.O]?=some (.cells cs e z)->∃ cs',w'.heap[G.O]?=some (.cells cs' e z)/\cs'.size=cs.size/\∀ off,¬ slot G q off->cs'[off]?=cs[off]?
 evs:∀ e∈es,(∃ a,e=⟨.cell a,false,false⟩/\G.Rd a.block)∨∃ off wr,slot G q off/\e=⟨.cell ⟨G.O,off,none⟩,wr,false⟩
def j8(G:cz)(q:Nat)(v:Value)(w:World):Prop:=v.cells.size=G.d/\∀ i,i<G.d->w.cell? ⟨G.O,q*G.d+i,none⟩=v.cells[i]?
section
variable (P:Program) (ty:TypeId) (Wg:Nat) (R:World->World->Prop)
def VA(g:Goroutine)(w:World):Prop :=
 g.status=.running/\mayWake P g=true/\(WgAt ty Wg w 0 0->∃ g',stepG P false g w=.go g' (w.setCell (smA Wg) (.int .u32 1)) (semEvents (smA Wg))/\∃ q,QuitsD P q 1 g')
def RH(g:Goroutine)(w:World):Prop :=
 g.status=.running/\(WgAt ty Wg w 1 0->∃ g',stepG P false g w=.go g' (w.setCell (stA Wg) (.int .u64 0)) #[wr (stA Wg)]/\∃ m,Goes P false R DC0 (VA P ty Wg) m g' (w.setCell (stA Wg) (.int .u64 0)))
def RI(g:Goroutine)(w:World):Prop :=
 g.status=.running/\(WgAt ty Wg w 1 0->∃ g',stepG P false g w=.go g' w #[rd (stA Wg)]/\∃ m,Goes P false R DC0 (RH P ty Wg R) m g' w)
def RJ(g:Goroutine)(w:World):Prop :=
 g.status=.running/\∀ v wt:Nat,wt<=1->v<2147483647->WgAt ty Wg w ((v+1)*KK+wt) 0 ->
  ∃ g',stepG P false g w=.go g' (w.setCell (stA Wg) (.int .u64 (v*KK+wt))) #[rd (stA Wg),wr (stA Wg)] /\
   ((v=0/\wt=1)->∃ m,Goes P false R DC0 (RI P ty Wg R) m g' (w.setCell (stA Wg) (.int .u64 (v*KK+wt))))/\(¬ (v=0/\wt=1)->∃ q,QuitsD P q 1 g')
def RL(g:Goroutine)(w:World):Prop :=
 g.status=.running/\∃ g',stepG P false g w=.go g' w #[mk .disable]/\∃ m,Goes P false R DC0 (RJ P ty Wg R) m g' w
def Jv(g:Goroutine)(w:World):Prop :=
 g.status=.running/\∃ g',stepG P false g w=.go g' w #[mk (.releaseMerge (stA Wg))]/\∃ m,Goes P false R DC0 (RL P ty Wg R) m g' w
end
section
variable (P:Program) (ty:TypeId) (Wg:Nat) (R:World->World->Prop) (D:World->World->Array Event->Prop) (End AnchW:Goroutine->World->Prop)
def VB(g:Goroutine)(w:World):Prop :=
 g.status=.running/\∃ g',stepG P true g w=.go g' w #[mk (.acquire (stA Wg))]/\∃ m,Goes P true R D End m g' w
def ZS(g:Goroutine)(w:World):Prop :=
 g.status=.running/\∃ g',stepG P true g w=.go g' w #[mk .enable]/\∃ m,Goes P true R D (VB P Wg R D End) m g' w
def SW4(g:Goroutine)(w:World):Prop :=
 g.status=.running/\(WgAt ty Wg w 0 0->∃ g',stepG P true g w=.go g' w #[rd (stA Wg)]/\∃ m,Goes P true R D (ZS P Wg R D End) m g' w)
def ZT(g:Goroutine)(w:World):Prop :=
 g.status=.running/\g.offers=none /\
  ((∃ st,WgAt ty Wg w st 0)->stepG P true g w=.go { g with status:=.blocked } w #[]) /\
  (WgAt ty Wg w 0 1->∃ g',stepG P true g w=.go g' (w.setCell (smA Wg) (.int .u32 0)) (semEvents (smA Wg))/\∃ m,Goes P true R D (SW4 P ty Wg R D End) m g' (w.setCell (smA Wg) (.int .u32 0)))
def SW2(vs:Nat)(g:Goroutine)(w:World):Prop :=
 g.status=.running/\∀ v:Nat,v<2147483648->WgAt ty Wg w (v*KK) 0 ->
  (v=vs->∃ g',stepG P true g w=.go g' (w.setCell (stA Wg) (.int .u64 (v*KK+1))) #[rd (stA Wg),wr (stA Wg)]/\∃ m,Goes P true R D (ZT P ty Wg R D End) m g' (w.setCell (stA Wg) (.int .u64 (v*KK+1)))) /\
  (v≠vs->∃ g',stepG P true g w=.go g' w #[rd (stA Wg)]/\∃ m,Goes P true R D AnchW m g' w)
def RM(g:Goroutine)(w:World):Prop :=
 g.status=.running/\∀ v:Nat,v<2147483648->WgAt ty Wg w (v*KK) 0->∃ g',stepG P true g w=.go g' w #[rd (stA Wg)] /\
  (v=0->∃ m,Goes P true R D (ZS P Wg R D End) m g' w)/\(v≠0->∃ m,Goes P true R D (SW2 P ty Wg R D End AnchW v) m g' w)
def Xo(g:Goroutine)(w:World):Prop :=
 g.status=.running/\∃ g',stepG P true g w=.go g' w #[mk .disable]/\∃ m,Goes P true R D AnchW m g' w
def Xp(Child:Goroutine->World->Prop)(Next:Goroutine->World->Prop)(g:Goroutine)(w:World):Prop :=
 g.status=.running/\∃ g' child,stepG P true g w=.spawn g' child w #[]/\child.status=.running/\Child child w/\Next g' w
def VC(Child Next:Goroutine->World->Prop)(g:Goroutine)(w:World):Prop :=
 g.status=.running/\∃ g',stepG P true g w=.go g' w #[mk .enable]/\∃ m,Goes P true R D (Xp P Child Next) m g' w
def SA1(Child Next:Goroutine->World->Prop)(g:Goroutine)(w:World):Prop :=
 g.status=.running/\∀ v:Nat,v<2147483647->WgAt ty Wg w (v*KK) 0 ->
  ∃ g',stepG P true g w=.go g' (w.setCell (stA Wg) (.int .u64 ((v+1)*KK))) #[rd (stA Wg),wr (stA Wg)] /\
   ∃ m,Goes P true R D (VC P R D Child Next) m g' (w.setCell (stA Wg) (.int .u64 ((v+1)*KK)))
def Jw(Child Next:Goroutine->World->Prop)(g:Goroutine)(w:World):Prop :=
 g.status=.running/\∃ g',stepG P true g w=.go g' w #[mk .disable]/\∃ m,Goes P true R D (SA1 P ty Wg R D Child Next) m g' w
def Jx(n:Nat)(Child:Nat->Goroutine->World->Prop)(Fin:Goroutine->World->Prop):Nat->Goroutine->World->Prop
 | 0,g,w=>Fin g w
 | r+1,g,w=>∃ m,Goes P true R D (Jw P ty Wg R D (Child (n-(r+1))) (Jx n Child Fin r)) m g w
end
def Exact(G:cz)(v:World):Prop:=∀ b,G.Sh b->∃ c e,v.heap[b]?=some (.cells c e (0,c.size))
def Zoned(G:cz)(v:World):Prop:=∀ b,G.Sh b->∃ c e z,v.heap[b]?=some (.cells c e z)/\xu (0,c.size) z
section
variable {P:Program}
def mU(Sh:Nat->Prop)(S0 v:World):Prop:=∀ b,Sh b->∀ c e z,S0.heap[b]?=some (.cells c e z)->∃ c' e',v.heap[b]?=some (.cells c' e' z)
def M9(P:Program)(Sh:Nat->Prop)(S0:World)(x:FC)(v:World):Prop:=(∃ val,cL P x v val)/\mU Sh S0 v
def ZAt(E:Env P)(Sh:Nat->Prop)(S0:World)(R:Nat->Prop)(base:List Frame)(fr:Frame)(cs:List Frame)(w:World):Prop :=
 ∃ (ρ:Ren) (x:FC) (v:World),Runs P (M9 P Sh S0) x v/\ρ.eq/\Cx E ρ/\fP E ρ x.1 fr/\lX E ρ [bX P] base x.2 cs/\WR ρ v w/\(∀ b,Sh b->ρ b b)/\(∀ b b',ρ b b'->(Sh b'/\b=b')∨R b')/\mU Sh S0 v
end
structure gE(P:Program) where
 E:Env P
 hK:cQ E
 hB:cf E
 G:cz
 hG:G.Ok
 hm:∀ a u,E.m a u->G.Rd a.block/\¬ G.Sh a.block
 ty:TypeId
 n:Nat
 N:Nat
 S0:World
 eO:TypeId
 Post:Nat->Value->World->Prop
 blind:∀ q val w T d,Post q val w->Post q val (tp w T d)
 Recv:Nat->Goroutine->Prop
 Ret:Nat->Nat->Frame->List Frame->Prop
 fdo:FuncId
 arg:Nat->Value
 z:Value
 End:Goroutine->World->Prop
 AnchW:Goroutine->World->Prop
section
variable {P:Program} (S:gE P)
def Na(q:Nat)(x:FC)(v:World):Prop:=∃ val,cL P x v val/\S.Post q val v/\Exact S.G v
structure Kn(w:World):Prop where
 low:j6 S.G S.S0 w
 out:∃ cs,w.heap[S.G.O]?=some (.cells cs S.eO (0,0))/\cs.size=S.N*S.G.d
 live:WgLive S.ty S.G.Wg w
 lo:S.G.Lo<=w.heap.size
def sQ(k q:Nat)(g:Goroutine)(w:World):Prop:=∃ c cs,S.Ret k q c cs/\g=Gm (Frame.enter P S.fdo #[S.arg q] .normal) (c::cs)
def oe(k q:Nat)(cy:Value)(g:Goroutine)(w:World):Prop:=S.Recv k g/\j8 S.G q cy w
def Child(k:Nat)(g:Goroutine)(w:World):Prop:=∃ m,Goes P false (RB S.G S.ty none) (DR S.G) (fun g _=>S.Recv k g) m g w
def uD(g:Goroutine)(w:World):Prop:=∃ m,Goes P true (dZ S.G S.ty) (DS S.G) (Xo P (dZ S.G S.ty) (DS S.G) S.AnchW) m g w
structure gE.Ok:Prop where
 recvRun:∀ k g,S.Recv k g->g.status=.running
 recv:∀ k g w,S.Recv k g->stepG P false g w=.comm g #[rcase S.G.Ch S.z] true (.recv true) w #[]
 pre:∀ k g q w,S.Recv k g->q<S.N->Kn S w->∃ m,Goes P false (RB S.G S.ty none) (DR S.G) (sQ S k q) m (served g (.tuple #[.int .i64 q,.bool true])) w
 view:∀ q w,q<S.N->Kn S w->∃ (ρ:Ren) (v:World),Runs P (Na S q) (Frame.enter P S.fdo #[S.arg q] .normal,[bX P]) v/\¬ ρ.eq/\Cx S.E ρ/\fP S.E ρ (Frame.enter P S.fdo #[S.arg q] .normal) (Frame.enter P S.fdo #[S.arg q] .normal)/\WR ρ v w/\(∀ b b',ρ b b'->S.G.Sh b'/\b=b')/\Zoned S.G v
 viewZ:∀ q w base,q<S.N->Kn S w->ZAt S.E S.G.Sh S.S0 (fun _=>False) base (Frame.enter P S.fdo #[S.arg q] .normal) base w
 post:∀ k q c cs val cy w ρ v,S.Ret k q c cs->S.Post q val v->VR ρ val cy->Kn S w->∃ m,Goes P false (RB S.G S.ty (some q)) (DO S.G q) (oe S k q cy) m (Gm (c.finish cy) cs) w
 fin:∀ k g w,S.Recv k g->Kn S w->∃ m,Goes P false (RB S.G S.ty none) (DR S.G) (Jv P S.ty S.G.Wg (RB S.G S.ty none)) m (served g (.tuple #[S.z,.bool false])) w
 anch:∀ g w,S.AnchW g w->g.status=.running
 loop:∀ g w,S.AnchW g w->∃ m,Goes P true (dZ S.G S.ty) (DS S.G) (RM P S.ty S.G.Wg (dZ S.G S.ty) (DS S.G) S.End S.AnchW) m g w
 endRun:∀ g w,S.End g w->g.status=.running
inductive WX(P:Program) where
 | none|recv|pre (q:Nat)|job (q:Nat) (p:{ x:FC×World // Acc (Lt P) x })|post (q:Nat)|fin
def WX.held:WX P->Option Nat
 | .pre q|.job q _|.post q=>some q
 | _=>Option.none
def ik(D:WD):WX P->MP P
 | .none=>(D.stage,Option.none,D.fuel)
 | .pre _=>(13,Option.none,D.fuel)
 | .job _ p=>(12,some p,0)
 | .post _=>(11,Option.none,D.fuel)
 | .recv=>(10,Option.none,D.fuel)
 | .fin=>(9,Option.none,D.fuel)
structure Gh where
 W:Own
 ret:Nat->Prop
 rv:Nat->Value->Prop
 stored:Nat->Prop
structure sR(H:Gh)(k q:Nat)(x:FC)(v:World)(g:Goroutine)(w:World):Prop where
 at_:∃ (ρ:Ren) (fr:Frame) (cs:List Frame) (c:Frame) (cs':List Frame),g=Gm fr cs/\S.Ret k q c cs'/\Runs P (Na S q) x v/\¬ ρ.eq/\Cx S.E ρ/\fP S.E ρ x.1 fr/\lX S.E ρ [bX P] (c::cs') x.2 cs/\WR ρ v w /\
  (∀ b b',ρ b b'->(S.G.Sh b'/\b=b')∨(H.W.own k b'/\¬ H.ret b'))/\Zoned S.G v/\ZAt S.E S.G.Sh S.S0 (fun b'=>H.W.own k b'/\¬ H.ret b') (c::cs') fr cs w
def Rec(H:Gh)(q:Nat)(cy:Value)(w:World):Prop :=
 ∃ (ρ:Ren) (v:World) (val:Value),S.Post q val v/\VR ρ val cy/\WR ρ v w/\¬ ρ.eq/\(∀ b b',ρ b b'->(S.G.Sh b'/\b=b')∨H.ret b')/\Exact S.G v/\ρ.m=S.E.m
inductive WSit(H:Gh)(k:Nat):WD->WX P->Goroutine->World->Prop
 | recv {m:Nat} {g:Goroutine} {w:World}:Goes P false (RB S.G S.ty none) (DR S.G) (fun g _=>S.Recv k g) m g w->WSit H k ⟨7,m,0⟩ .recv g w
 | pre {q m:Nat} {g:Goroutine} {w:World}:q<S.N->Goes P false (RB S.G S.ty none) (DR S.G) (sQ S k q) m g w->WSit H k ⟨7,m,0⟩ (.pre q) g w
 | job {q:Nat} {x:FC} {v:World} {g:Goroutine} {w:World} (ha:Acc (Lt P) (x,v)):q<S.N->sR S H k q x v g w->WSit H k ⟨7,0,0⟩ (.job q ⟨(x,v),ha⟩) g w
 | post {q m:Nat} {cy:Value} {g:Goroutine} {w:World}:q<S.N->H.rv q cy->Goes P false (RB S.G S.ty (some q)) (DO S.G q) (oe S k q cy) m g w->WSit H k ⟨7,m,0⟩ (.post q) g w
 | fin {m:Nat} {g:Goroutine} {w:World}:Goes P false (RB S.G S.ty none) (DR S.G) (Jv P S.ty S.G.Wg (RB S.G S.ty none)) m g w->WSit H k ⟨7,m,0⟩ .fin g w
 | k1 {m:Nat} {g:Goroutine} {w:World}:Goes P false (RB S.G S.ty none) DC0 (RL P S.ty S.G.Wg (RB S.G S.ty none)) m g w->WSit H k ⟨6,m,0⟩ .none g w
 | d1 {m:Nat} {g:Goroutine} {w:World}:Goes P false (RB S.G S.ty none) DC0 (RJ P S.ty S.G.Wg (RB S.G S.ty none)) m g w->WSit H k ⟨5,m,1⟩ .none g w
 | d2 {m:Nat} {g:Goroutine} {w:World}:Goes P false (RB S.G S.ty none) DC0 (RI P S.ty S.G.Wg (RB S.G S.ty none)) m g w->WSit H k ⟨4,m,1⟩ .none g w
 | d3 {m:Nat} {g:Goroutine} {w:World}:Goes P false (RB S.G S.ty none) DC0 (RH P S.ty S.G.Wg (RB S.G S.ty none)) m g w->WSit H k ⟨3,m,1⟩ .none g w
 | d4 {m:Nat} {g:Goroutine} {w:World}:Goes P false (RB S.G S.ty none) DC0 (VA P S.ty S.G.Wg) m g w->WSit H k ⟨2,m,1⟩ .none g w
 | quit {q d:Nat} {g:Goroutine} {w:World}:QuitsD P q d g->WSit H k ⟨1,q,d⟩ .none g w
inductive CSit:CTag->Nat->Nat->Nat->Goroutine->World->Prop
 | skd {r m:Nat} {g:Goroutine} {w:World}:r<S.n->Goes P true (dZ S.G S.ty) (DS S.G) (Jw P S.ty S.G.Wg (dZ S.G S.ty) (DS S.G) (Child S (S.n-(r+1)+1)) (Jx P S.ty S.G.Wg (dZ S.G S.ty) (DS S.G) S.n (fun j=>Child S (j+1)) (uD S) r)) m g w->CSit (.sp r 5) (S.n-(r+1)) m 0 g w
 | sa1 {r m:Nat} {g:Goroutine} {w:World}:r<S.n->Goes P true (dZ S.G S.ty) (DS S.G) (SA1 P S.ty S.G.Wg (dZ S.G S.ty) (DS S.G) (Child S (S.n-(r+1)+1)) (Jx P S.ty S.G.Wg (dZ S.G S.ty) (DS S.G) S.n (fun j=>Child S (j+1)) (uD S) r)) m g w->CSit (.sp r 4) (S.n-(r+1)) m 1 g w
 | ske {r m:Nat} {g:Goroutine} {w:World}:r<S.n->Goes P true (dZ S.G S.ty) (DS S.G) (VC P (dZ S.G S.ty) (DS S.G) (Child S (S.n-(r+1)+1)) (Jx P S.ty S.G.Wg (dZ S.G S.ty) (DS S.G) S.n (fun j=>Child S (j+1)) (uD S) r)) m g w->CSit (.sp r 3) (S.n-(r+1)) m 1 g w
 | sgo {r m:Nat} {g:Goroutine} {w:World}:r<S.n->Goes P true (dZ S.G S.ty) (DS S.G) (Xp P (Child S (S.n-(r+1)+1)) (Jx P S.ty S.G.Wg (dZ S.G S.ty) (DS S.G) S.n (fun j=>Child S (j+1)) (uD S) r)) m g w->CSit (.sp r 2) (S.n-(r+1)) m 0 g w
 | kd {m:Nat} {g:Goroutine} {w:World}:Goes P true (dZ S.G S.ty) (DS S.G) (Xo P (dZ S.G S.ty) (DS S.G) S.AnchW) m g w->CSit .kd S.n m 0 g w
 | anch {m:Nat} {g:Goroutine} {w:World}:Goes P true (dZ S.G S.ty) (DS S.G) S.AnchW m g w->CSit .anch S.n m 1 g w
 | w1 {m:Nat} {g:Goroutine} {w:World}:Goes P true (dZ S.G S.ty) (DS S.G) (RM P S.ty S.G.Wg (dZ S.G S.ty) (DS S.G) S.End S.AnchW) m g w->CSit .w1 S.n m 1 g w
 | w2 {vs m:Nat} {g:Goroutine} {w:World}:Goes P true (dZ S.G S.ty) (DS S.G) (SW2 P S.ty S.G.Wg (dZ S.G S.ty) (DS S.G) S.End S.AnchW vs) m g w->CSit (.w2 vs) S.n m 1 g w
 | w3 {m:Nat} {g:Goroutine} {w:World}:Goes P true (dZ S.G S.ty) (DS S.G) (ZT P S.ty S.G.Wg (dZ S.G S.ty) (DS S.G) S.End) m g w->CSit .w3 S.n m 1 g w
 | blk {g:Goroutine} {w:World}:(∀ ai,(dZ S.G S.ty) w ai->ZT P S.ty S.G.Wg (dZ S.G S.ty) (DS S.G) S.End g ai)->CSit .blk S.n 0 1 { g with status:=.blocked } w
 | w4 {m:Nat} {g:Goroutine} {w:World}:Goes P true (dZ S.G S.ty) (DS S.G) (SW4 P S.ty S.G.Wg (dZ S.G S.ty) (DS S.G) S.End) m g w->CSit .w4 S.n m 1 g w
 | ke {m:Nat} {g:Goroutine} {w:World}:Goes P true (dZ S.G S.ty) (DS S.G) (ZS P S.G.Wg (dZ S.G S.ty) (DS S.G) S.End) m g w->CSit .ke S.n m 1 g w
 | acq {m:Nat} {g:Goroutine} {w:World}:Goes P true (dZ S.G S.ty) (DS S.G) (VB P S.G.Wg (dZ S.G S.ty) (DS S.G) S.End) m g w->CSit .acq S.n m 0 g w
 | ret {m:Nat} {g:Goroutine} {w:World}:Goes P true (dZ S.G S.ty) (DS S.G) S.End m g w->CSit .ret S.n m 0 g w
end
variable {w w' v ai:World}{k:Nat}{J:Option Nat}{H':Gh}{ρ:Ren}{fr:Frame}{cs:List Frame}{R:Nat->Prop}
section
variable {P:Program} {S:gE P}
structure Chg(S:gE P)(k:Nat)(J:Option Nat)(H:Gh)(w:World)(H':Gh)(w':World):Prop where
 low:j6 S.G w w'
 size:w.heap.size<=w'.heap.size
 blk:∀ b,S.G.Lo<=b->b<w.heap.size->¬ (H.W.own k b/\¬ H.ret b)->w'.heap[b]?=w.heap[b]?
 out:∀ cs e z,w.heap[S.G.O]?=some (.cells cs e z)->∃ cs',w'.heap[S.G.O]?=some (.cells cs' e z)/\cs'.size=cs.size/\∀ off,(∀ q,J=some q->¬ slot S.G q off)->cs'[off]?=cs[off]?
 live:WgLive S.ty S.G.Wg w->WgLive S.ty S.G.Wg w'
 own:∀ k' b,H.W.own k' b->H'.W.own k' b
 own':∀ k' b,H'.W.own k' b->H.W.own k' b∨(k'=k/\w.heap.size<=b/\b<w'.heap.size)
 ret:∀ b,H.ret b->H'.ret b
 ret':∀ b,H'.ret b->H.ret b∨H'.W.own k b
 tk:∀ k' q,H.W.tk k' q->H'.W.tk k' q
 rv:∀ q v,H.rv q v->H'.rv q v
 tkJ:∀ q,J=some q->H.W.tk k q/\¬ H.stored q
 out2:k≠0->fF w w'
theorem Kn.rb(h:Kn S w){q:Option Nat}(r:RB S.G S.ty q w w'):Kn S w' :=
 ⟨h.low.trans r.low,by obtain⟨cs,h1,h2⟩:=h.out;obtain⟨cs',h3,h4,_⟩:=r.out cs _ _ h1;exact⟨cs',h3,h4.trans h2⟩,r.live h.live,ahZ h.lo r.size⟩
theorem Chg.rb{H:Gh}(h:Chg S k J H w H' w'):RB S.G S.ty none w w' :=
 ⟨h.low,fun cs e z h1=>by obtain⟨c,h2,h3,_⟩:=h.out cs e z h1;exact⟨c,h2,h3,fun j off hq _=>by cases hq⟩,h.live,h.size⟩
theorem Chg.rbs{H:Gh}(h:Chg S k J H w H' w')(hk:k≠0):dZ S.G S.ty w w':=⟨h.rb,h.out2 hk⟩
theorem Chg.rbq{k' q:Nat}{H:Gh}(h:Chg S k J H w H' w')(hW:H.W.Ok S.G)(hk:k'≠k)(ht:H.W.tk k' q):RB S.G S.ty (some q) w w' :=
 ⟨h.low,fun cs e z h1=>by
  obtain⟨c,h2,h3,h4⟩:=h.out cs e z h1
  refine⟨c,h2,h3,fun j off hq hs=>h4 off fun q' hJ dz=>?_⟩
  cases hq
  have:=oa hs dz
  subst this
  exact hk (hW.tk1 _ _ _ ht (h.tkJ _ hJ).1),h.live,h.size⟩
theorem WR.CQ(h:WR ρ v w)(hm:ρ.m=S.E.m)(hl:j6 S.G w w')(hs:w.heap.size<=w'.heap.size)(hr:∀ b b',ρ b b'->(S.G.Sh b'/\b=b')∨w'.heap[b']?=w.heap[b']?):WR ρ v w':=by
 have sh:∀ b,S.G.Sh b->w'.heap[b]?=w.heap[b]?:=fun b hb=>by
  obtain⟨l1,l2,l3,l4⟩:=S.hG.sh _ (S.hG.rd b hb);exact hl.low b l1 l2 l4 l3
 refine⟨⟨h.lo.1,ahZ h.lo.2 hs⟩,fun b b' hb=>?_,fun a u hu=>?_⟩;rotate_left
 ·obtain⟨e1,e2⟩:=h.std a u hu;rw [hm] at hu;obtain⟨NV,Rp⟩:=S.hm a u hu;obtain⟨l1,l2,l3,l4⟩:=S.hG.sh _ NV;refine⟨e1,?_⟩;unfold World.cell? at e2 ⊢;rw [hl.low a.block l1 l2 l4 l3];exact e2
 obtain⟨o,o',h1,h2,h3⟩:=h.obj b b' hb;have he:w'.heap[b']?=w.heap[b']?:=by
  rcases hr b b' hb with⟨kx,rfl⟩|he
  ·exact sh _ kx
  ·exact he
 exact⟨o,o',h1,by rw [he];exact h2,h3⟩
theorem xu.ZU{a b:Nat×Nat}(h:xu a b)(g:xu b a):a=b:=by
 rcases h with h|⟨h1,h2⟩
 ·exact h
 ·rcases g with g|⟨g1,g2⟩
  ·exact g.symm
  ·obtain⟨a1,a2⟩:=a;obtain⟨b1,b2⟩:=b;dsimp only at h1 h2 g1 g2;have:a1=b1/\a2=b2:=ae;rw [this.1,this.2]
theorem xK{E:Env P}{ρ:Ren}{bC cs cs':List Frame}(h:lX E ρ [bX P] bC cs cs'):cs.length+bC.length=cs'.length+1:=by
 induction h with
 | nil=>simp;omega
 | cons _ _ _ ih=>simp only [ahI];omega
theorem j0{E E2:Env P}{dX:Ren}{bC:List Frame}{x x2:FC}(f1:fP E ρ x.1 fr)(c1:lX E ρ [bX P] bC x.2 cs)(f2:fP E2 dX x2.1 fr)(c2:lX E2 dX [bX P] bC x2.2 cs)(h:Leaving P x):Leaving P x2:=by
 refine⟨?_,?_⟩
 ·rw [f2.mode.1,<-f1.mode.1];exact h.1
 ·have e1:=xK c1;have e2:=xK c2;rw [h.2] at e1;have hl:x2.2.length=1:=by simp at e1;omega
  generalize x2.2=l at c2 hl
  cases c2 with
  | nil=>rfl
  | cons _ _ h =>
   have:=xK h
   cases h with
   | nil=>simp at hl
   | cons _ _ _=>simp at hl
section
variable {E:Env P} {Sh:Nat->Prop} {S0:World}
theorem Jy(hK:cQ E)(hB:cf E){bC:List Frame}{x:FC}(ha:Acc (Lt P) (x,v)):∀ {ρ:Ren} {fr:Frame} {cs:List Frame} {w:World},Runs P (M9 P Sh S0) x v->Cx E ρ->fP E ρ x.1 fr->lX E ρ [bX P] bC x.2 cs->WR ρ v w ->
  ∀ b,Sh b->∀ c e z,S0.heap[b]?=some (.cells c e z)->∀ c1 e1 z1,v.heap[b]?=some (.cells c1 e1 z1)->xu z1 z:=by
 generalize hp:(x,v)=p at ha
 induction ha generalizing x v with
 | intro p _ ih =>
  subst hp;intro ρ fr cs w hr hc hf bt hw b hb c e z h0 c1 e1 z1 h1;rcases hr.OB hK hB false hc hf bt hw (y:=(fr,cs)) with⟨_,h⟩|⟨lr,cg,aQ,ij,ai,evs,s⟩
  ·obtain⟨c',e',h2⟩:=h b hb c e z h0;rw [h1] at h2;cases h2;exact .inl rfl
  ·obtain⟨c',z',h3,h4⟩:=s.keep.row b c1 e1 z1 h1;exact h4.zone.trans (ih (lr,cg) s.lt rfl s.runs (hc.mono s.le) s.fr s.cs s.wr b hb c e z h0 c' e1 z' h3)
theorem og{x:FC}(h:M9 P Sh S0 x w):Leaving P x:=by obtain⟨⟨_,h⟩,_⟩:=h;exact h.leaving
def vy(Sh:Nat->Prop)(S0 ai:World):Prop:=∀ b,Sh b->∀ c e z c1 e1 z1,S0.heap[b]?=some (.cells c e z)->ai.heap[b]?=some (.cells c1 e1 z1)->z1=z
theorem sS(hq:ρ.eq)(hw:WR ρ v ai)(hs:∀ b,Sh b->ρ b b)(hf:mU Sh S0 v):vy Sh S0 ai:=fun b hb c e z c1 e1 z1 h0 h1=>by
 obtain⟨o,o',g1,g2,g3⟩:=hw.obj b b (hs b hb);obtain⟨c',e',g4⟩:=hf b hb c e z h0;rw [g4] at g1;cases g1;rw [h1] at g2;cases g2
 cases g3 with
 | cells _ hz _ =>
  rcases hz with hz|hz
  ·exact hz.symm
  ·exact absurd hq hz.1
theorem ZAt.step(hK:cQ E)(hB:cf E){R:Nat->Prop}{base:List Frame}{fr Jz:Frame}{cs JB:List Frame}{w ai:World}{es:Array Event}(h:ZAt E Sh S0 R base fr cs w){E1:Env P}{db:Ren}{x1:FC}(f1:fP E1 db x1.1 fr)(c1:lX E1 db [bX P] base x1.2 cs)(hn:¬ Leaving P x1){main:Bool}(bp:stepG P main (Gm fr cs) w=.go (Gm Jz JB) ai es) :
  ZAt E Sh S0 (fun b=>R b∨(w.heap.size<=b/\b<ai.heap.size)) base Jz JB ai/\vy Sh S0 ai:=by
 obtain⟨ρ,x,v,h1,h2,h3,h4,h5,h6,h7,h8,h9⟩:=h;rcases h1.OB hK hB main h3 h4 h5 h6 (y:=(fr,cs)) with hf|⟨lr,cg,aQ,ij,cO,evs,s⟩
 ·exact absurd (j0 h4 h5 f1 c1 (og hf)) hn
 ·have hs:=s.step;rw [bp] at hs;injection hs with e1 e2 e3
  subst e2;have e4:Jz=ij.1:=congrArg (·.frame) e1;have e5:JB=ij.2:=congrArg (·.callers) e1;subst e4;subst e5;have hq:aQ.eq:=by rw [s.le.eq];exact h2
  have kx:∀ b,Sh b->aQ b b:=fun b hb=>s.le.r _ _ (h7 b hb);have DV:mU Sh S0 cg:=fun b hb c e z h0=>by
   obtain⟨c',e',g1⟩:=h9 b hb c e z h0;obtain⟨c2,z2,g2,g3⟩:=s.keep.row b c' e' z g1;have ha:=s.runs.acc fun x w h=>og h;have hle:=Jy hK hB ha s.runs (h3.mono s.le) s.fr s.cs s.wr b hb c e z h0 c2 e' z2 g2;have:z=z2:=xu.ZU g3.zone hle;subst this;exact⟨c2,e',g2⟩
  refine⟨⟨aQ,lr,cg,s.runs,hq,h3.mono s.le,s.fr,s.cs,s.wr,kx,fun b b' hb=>?_,DV⟩,sS hq s.wr kx DV⟩;rcases s.frame.new b b' hb with h|h
  ·exact(h8 b b' h).imp id .inl
  ·obtain⟨o,o',_,g2,_⟩:=s.wr.obj b b' hb;exact .inr (.inr ⟨h,bW g2⟩)
theorem ZAt.last{c:Frame}{g:Goroutine}{es:Array Event}(h:ZAt E Sh S0 R (c::cs) fr (c::cs) w){E1:Env P}{db:Ren}{x1:FC}(f1:fP E1 db x1.1 fr)(c1:lX E1 db [bX P] (c::cs) x1.2 (c::cs))(hn:Leaving P x1){main:Bool}(bp:stepG P main (Gm fr (c::cs)) w=.go g ai es):vy Sh S0 ai:=by
 obtain⟨ρ,x,v,h1,h2,h3,h4,h5,h6,h7,h8,h9⟩:=h;have hl:=j0 f1 c1 h4 h5 hn
 cases h1 with
 | step _ _ Bd _ _=>exact absurd hl Bd
 | fin hf =>
  obtain⟨⟨val,hf⟩,_⟩:=hf;obtain⟨aQ,cy,cO,cg,evs,hgo,hle,_,lU,_,_,⟨T,d,rfl⟩,_,_⟩:=hf.OB main h4 h6;rw [bp] at hgo;injection hgo with e1 e2 e3
  subst e2;exact sS (by rw [hle.eq];exact h2) lU (fun b hb=>hle.r _ _ (h7 b hb)) h9
theorem ZAt.fin{R:Nat->Prop}{fr:Frame}{cs base:List Frame}{w:World}(h:ZAt E Sh S0 R base fr cs w){E1:Env P}{db:Ren}{x1:FC}(f1:fP E1 db x1.1 fr)(c1:lX E1 db [bX P] base x1.2 cs)(hn:Leaving P x1) :
  ∃ (ρ:Ren) (x:FC) (v:World) (val:Value),cL P x v val/\ρ.eq/\fP E ρ x.1 fr/\WR ρ v w/\(∀ b,Sh b->ρ b b)/\mU Sh S0 v:=by
 obtain⟨ρ,x,v,h1,h2,h3,h4,h5,h6,h7,h8,h9⟩:=h;have hl:=j0 f1 c1 h4 h5 hn
 cases h1 with
 | step _ _ Bd _ _=>exact absurd hl Bd
 | fin hf =>
  obtain⟨⟨val,hf⟩,_⟩:=hf;exact⟨ρ,x,v,val,hf,h2,h4,h6,h7,h9⟩
theorem Gz{aQ:Ren}{cg:World}{b:Nat}(hw:WR ρ v w)(lU:WR aQ cg ai)(hl:ρ.le aQ)(wB:∀ z z',cu ρ z z'->v.frozen? z=true->ai.cell? z'=w.cell? z')(hb:ρ b b)
  (hz:∃ c e z,v.heap[b]?=some (.cells c e z)/\xu (0,c.size) z) (hk:gf v cg) (VD:∀ c e z c1 e1 z1,w.heap[b]?=some (.cells c e z)->ai.heap[b]?=some (.cells c1 e1 z1)->z1=z):ai.heap[b]?=w.heap[b]?:=by
 obtain⟨c,e,z,h1,h2⟩:=hz;obtain⟨o,o',g1,g2,g3⟩:=hw.obj b b hb;obtain⟨p,p',g4,g5,g6⟩:=lU.obj b b (hl.r _ _ hb);obtain⟨c',z',h3,h4⟩:=hk.row b c e z h1;rw [h1] at g1;rw [h3] at g4;cases g1;cases g4
 cases g3 with
 | @cells _ c2 _ _ z2 _ hA =>
  cases g6 with
  | @cells _ c3 _ _ z3 _ hB =>
   have hs:c3.size=c2.size:=by rw [<- hA.size,<-hB.size,h4.size]
   have:c3=c2:=by
    apply Array.ext hs;intro i hi ez;have hm:=h2.mem (i:=i) (ahQ _) (by rw [hA.size];exact ez)
    have h1:=wB ⟨b,i,none⟩ ⟨b,i,none⟩ (.mk i none hb) (by
     unfold World.frozen?
     rw [h1]
     simp only [hm.1,hm.2,decide_true,Bool.and_self])
    unfold World.cell? at h1;rw [g5,g2] at h1;simpa [hi,ez] using h1
   subst this;have:=VD _ _ _ _ _ _ g2 g5;subst this;rw [g5,g2]
end
theorem ZAt.other{R':Nat->Prop}{base:List Frame}(h:ZAt S.E S.G.Sh S.S0 R base fr cs w)(hl:j6 S.G w w')(hs:w.heap.size<=w'.heap.size)(hr:∀ b,R b->R' b/\w'.heap[b]?=w.heap[b]?):ZAt S.E S.G.Sh S.S0 R' base fr cs w':=by
 obtain⟨ρ,x,v,h1,h2,h3,h4,h5,h6,h7,h8,h9⟩:=h;exact⟨ρ,x,v,h1,h2,h3,h4,h5,h6.CQ h3.m hl hs fun b b' hb=>(h8 b b' hb).imp id fun h=>(hr _ h).2,h7,fun b b' hb=>(h8 b b' hb).imp id fun h=>(hr _ h).1,h9⟩
theorem ZAt.mono{R':Nat->Prop}{base:List Frame}(h:ZAt S.E S.G.Sh S.S0 R base fr cs w)(hr:∀ b,R b->R' b):ZAt S.E S.G.Sh S.S0 R' base fr cs w:=h.other (.refl w) (ahr _) fun b hb=>⟨hr b hb,rfl⟩
theorem As{bC:List Frame}{q:Nat}{x:FC}{v:World}(ha:Acc (Lt P) (x,v)):∀ {ρ:Ren} {fr:Frame} {cs:List Frame} {w:World},Runs P (Na S q) x v->Cx S.E ρ->fP S.E ρ x.1 fr->lX S.E ρ [bX P] bC x.2 cs->WR ρ v w->Zoned S.G v->Exact S.G v:=by
 generalize hp:(x,v)=p at ha
 induction ha generalizing x v with
 | intro p _ ih =>
  subst hp;intro ρ fr cs w hr hc hf bt hw hz;rcases hr.OB S.hK S.hB false hc hf bt hw (y:=(fr,cs)) with⟨val,_,_,h⟩|⟨lr,cg,aQ,ij,ai,evs,s⟩
  ·exact h
  ·have Dw:Zoned S.G cg:=fun b hb=>by
    obtain⟨c,e,z,h1,h2⟩:=hz b hb;obtain⟨c',z',h3,h4⟩:=s.keep.row b c e z h1;exact⟨c',e,z',h3,by rw [h4.size];exact h2.trans h4.zone⟩
   have EC:=ih (lr,cg) s.lt rfl s.runs (hc.mono s.le) s.fr s.cs s.wr Dw;intro b hb;obtain⟨c,e,z,h1,h2⟩:=hz b hb;obtain⟨c',z',h3,h4⟩:=s.keep.row b c e z h1;obtain⟨c2,e2,h5⟩:=EC b hb;rw [h3] at h5;cases h5;have ur:xu z (0,c.size):=by have:=h4.zone;rw [h4.size] at this;exact this
   have:z=(0,c.size):=by
    rcases h2 with h2|⟨g1,g2⟩
    ·exact h2.symm
    ·rcases ur with h6|⟨k1,k2⟩
     ·exact h6
     ·dsimp only at g2 k1 k2;obtain⟨z1,z2⟩:=z;dsimp only at g1 g2 k1 k2;have:z1=0/\z2=c.size:=ae;rw [this.1,this.2]
   subst this;exact⟨c,e,h1⟩
theorem sR.exact {H:Gh} {k q:Nat} {x:FC} {v:World} {g:Goroutine} {w:World} (ha:Acc (Lt P) (x,v)) (h:sR S H k q x v g w):Exact S.G v:=by
 obtain⟨ρ,fr,cs,c,cs',h1,h2,h3,h4,h5,h6,h7,h8,h9,JC,_⟩:=h.at_;exact As ha h3 h5 h6 h7 h8 JC
theorem sR.other{H H':Gh}{k k' q:Nat}{J:Option Nat}{x:FC}{v:World}{g:Goroutine}{w w':World}(ha:Acc (Lt P) (x,v))(h:sR S H k' q x v g w)(c:Chg S k J H w H' w')(hk:k'≠k)(hW:H.W.Ok S.G)(Au:H'.W.Ok S.G)(aA:∀ k b,H.W.own k b->b<w.heap.size):sR S H' k' q x v g w':=by
 obtain⟨ρ,fr,cs,c0,cs',h1,h2,h3,h4,h5,h6,h7,h8,h9,JC,RN⟩:=h.at_;have own:∀ b',H.W.own k' b'/\¬ H.ret b'->(H'.W.own k' b'/\¬ H'.ret b')/\w'.heap[b']?=w.heap[b']?:=fun b' ⟨ho,hr⟩=>by
  refine⟨⟨c.own _ _ ho,fun ng=>?_⟩,c.blk b' (hW.hi _ _ ho) (aA _ _ ho) fun hh=>hk (hW.one _ _ _ ho hh.1)⟩;rcases c.ret' _ ng with ng|ho'
  ·exact hr ng
  ·exact hk (Au.one _ _ _ (c.own _ _ ho) ho')
 exact⟨ρ,fr,cs,c0,cs',h1,h2,h3,h4,h5,h6,h7,h8.CQ h5.m c.low c.size fun b b' hb=>(h9 b b' hb).imp id fun h=>(own _ h).2,fun b b' hb=>(h9 b b' hb).imp id fun h=>(own _ h).1,JC,RN.other c.low c.size own⟩
theorem Rec.ZV{H:Gh}{q:Nat}{cy:Value}(h:Rec S H q cy w)(c:Chg S k J H w H' w')(hW:H.W.Ok S.G)(aA:∀ k b,H.W.own k b->b<w.heap.size)(Q0:∀ b,H.ret b->∃ k,H.W.own k b):Rec S H' q cy w':=by
 obtain⟨ρ,v,val,h1,h2,h3,h4,h5,h6,h7⟩:=h;refine⟨ρ,v,val,h1,h2,h3.CQ h7 c.low c.size fun b b' hb=>?_,h4,fun b b' hb=>(h5 b b' hb).imp id (c.ret _),h6,h7⟩;rcases h5 b b' hb with h|hr
 ·exact .inl h
 ·obtain⟨k',ho⟩:=Q0 _ hr;exact .inr (c.blk b' (hW.hi _ _ ho) (aA _ _ ho) fun hh=>hh.2 hr)
theorem WSit.other{H H':Gh}{k k':Nat}{J:Option Nat}{D:WD}{X:WX P}{g:Goroutine}{w w':World}(h:WSit S H k' D X g w)(c:Chg S k J H w H' w')(hk:k'≠k)(hW:H.W.Ok S.G)(Au:H'.W.Ok S.G)(aA:∀ k b,H.W.own k b->b<w.heap.size)(ht:∀ q,X.held=some q->H.W.tk k' q):WSit S H' k' D X g w':=by
 have rn:=c.rb;have tr:∀ a b c,RB S.G S.ty none a b->RB S.G S.ty none b c->RB S.G S.ty none a c:=RB.trans
 cases h with
 | recv h=>exact .recv (Goes.rely tr h rn)
 | pre hq h=>exact .pre hq (Goes.rely tr h rn)
 | job ha hq h=>exact .job ha hq (h.other ha c hk hW Au aA)
 | post hq hv h=>exact .post hq (c.rv _ _ hv) (Goes.rely RB.trans h (c.rbq hW hk (ht _ rfl)))
 | fin h=>exact .fin (Goes.rely tr h rn)
 | k1 h=>exact .k1 (Goes.rely tr h rn)
 | d1 h=>exact .d1 (Goes.rely tr h rn)
 | d2 h=>exact .d2 (Goes.rely tr h rn)
 | d3 h=>exact .d3 (Goes.rely tr h rn)
 | d4 h=>exact .d4 (Goes.rely tr h rn)
 | quit h=>exact .quit h
theorem WSit.status(hS:S.Ok){H:Gh}{k:Nat}{D:WD}{X:WX P}{g:Goroutine}{w:World}(h:WSit S H k D X g w):g.status=.running∨g.status=.finished:=by
 have rf:=RB.refl (G:=S.G) (ty:=S.ty) (q:=none) w
 cases h with
 | recv h=>exact .inl (Goes.running (fun _ _ x=>hS.recvRun _ _ x) w rf h)
 | pre hq h=>exact .inl (Goes.running (fun g w x=>by obtain⟨c,cs,_,rfl⟩:=x;rfl) w rf h)
 | job ha hq h=>obtain⟨ρ,fr,cs,c,cs',rfl,_⟩:=h.at_;exact .inl rfl
 | post hq hv h=>exact .inl (Goes.running (fun _ _ x=>hS.recvRun _ _ x.1) w (RB.refl w) h)
 | fin h=>exact .inl (Goes.running (fun _ _ x=>x.1) w rf h)
 | k1 h=>exact .inl (Goes.running (fun _ _ x=>x.1) w rf h)
 | d1 h=>exact .inl (Goes.running (fun _ _ x=>x.1) w rf h)
 | d2 h=>exact .inl (Goes.running (fun _ _ x=>x.1) w rf h)
 | d3 h=>exact .inl (Goes.running (fun _ _ x=>x.1) w rf h)
 | d4 h=>exact .inl (Goes.running (fun _ _ x=>x.1) w rf h)
 | quit h=>exact h.status
theorem WSit.woken(hS:S.Ok){H:Gh}{k:Nat}{D:WD}{X:WX P}{g:Goroutine}{w:World}(h:WSit S H k D X g w)(a a':Goroutine)(w':World):woken P a a' w' g=g:=by
 unfold Go.Conc.woken;split
 ·exact again_running _ (h.status hS)
 ·rfl
end
end CO
