/- Part of the proof. -/
import Derived.Test.YtmbbagbhmjaedaaGreatDoorCde
import Derived.Conc.Beside
set_option linter.all false
namespace CO
open Go
variable {w:World}{x:FC}
section
variable {P:Program}
def bX (P:Program):Frame:={ fn:=P.funcs.size,tmps:=#[undef],todo:=[.call default false "fmt's door of nobody" #[]],defers:=[],mode:=.run,kind:=.normal }
theorem RD:Extern.next "fmt's door of nobody" = none:=by decide +kernel
theorem xJ(chain:List PanicEntry):({ bX P with mode:=.panicking chain }:Frame).catches P=true:=by
 unfold Frame.catches;have:P.funcs[(bX P).fn]?=none:=by simp [bX]
 simp only [this];simp only [bX];decide +kernel
theorem nX{fr:Frame}{cs:List Frame}{w':World}{o:Outcome}(h:(stepG P true (Gm fr cs) w).bare=.ended o w'):step P (lone fr cs w)=.ended o w':=step_lone_ended h
theorem An(v:Value)(w:World):∃ o w',step P (lone ((bX P).finish v) [] w)=.ended o w':=by
 have h:∃ o w',(stepG P true (Gm ((bX P).finish v) []) w).bare=.ended o w':=by
  simp [stepG,stepG.exec,Gm,bX,Frame.finish,RD]
 obtain⟨o,w',h⟩:=h;exact⟨o,w',nX h⟩
inductive M5(P:Program):List Frame->Prop
 | base:M5 P [bX P]
 | cons {f:Frame} {l:List Frame}:f.defers=[]->M5 P l->M5 P (f::l)
theorem M5.ne{l:List Frame}(h:M5 P l):l≠[]:=by cases h<;>simp
theorem vw:∀ (n:Nat) {f:Frame} {cs:List Frame} {chain:List PanicEntry} {w:World} {K5:Frame} {Vx:List Frame} {w2:World},M5 P (f::cs)->runN P n (lone { f with mode:=.panicking chain } cs w)=.next (lone K5 Vx w2)->∃ c,K5.mode=.panicking c
 | 0,f,cs,chain,w,K5,Vx,w2,_,h=>by
  injection h with h
  have h1:(#[Gm { f with mode:=.panicking chain } cs]:Array Goroutine)=#[Gm K5 Vx]:=congrArg Machine.gs h;have h2:Gm { f with mode:=.panicking chain } cs=Gm K5 Vx:=by simpa using h1
  have h3:({ f with mode:=.panicking chain }:Frame)=K5:=congrArg Goroutine.frame h2;exact⟨chain,by rw [<- h3]⟩
 | n+1,f,cs,chain,w,K5,Vx,w2,hS,h=>by
  have hd:f.defers=[]:=by
   cases hS with
   | base=>rfl
   | cons h _=>exact h
  obtain⟨fn0,tm0,td0,df0,md0,kd0,rd0⟩:=f;dsimp only at hd;subst hd;generalize hf:({ fn:=fn0,tmps:=tm0,todo:=td0,defers:=[],mode:=md0,kind:=kd0,roundOf:=rd0 }:Frame)=f at hS h;have hd:f.defers=[]:=by rw [<- hf]
  have NN:({ f with mode:=.panicking chain }:Frame).defers=[]:=hd;by_cases RE:({ f with mode:=.panicking chain }:Frame).catches P=true
  ·have:step P (lone { f with mode:=.panicking chain } cs w)=.ended (.unsupported (.noEntry "a panic or Goexit out of a method that fmt calls behind a cut's door") (({ f with mode:=.panicking chain }:Frame).pos P)) w:=nX (by
    subst hf
    simp only [stepG,Gm,unwind,RE,if_true];rfl)
   rw [runN,this] at h;cases h
  ·cases hS with
   | base=>exact absurd (xJ chain) RE
   | cons _ hS =>
    cases cs with
    | nil=>exact absurd rfl hS.ne
    | cons c rest =>
     have cH:step P (lone { f with mode:=.panicking chain } (c::rest) w)=.next (lone (c.raise chain) rest w):=step_lone_go (by
      subst hf
      simp only [stepG,unwind,RE];rfl)
     rw [runN,cH] at h;have hr:∃ ch,c.raise chain={ c with mode:=.panicking ch }:=by
      unfold Frame.raise;split
      ·exact⟨_,rfl⟩
      ·exact⟨_,rfl⟩
     obtain⟨ch,hr⟩:=hr;simp only [hr] at h;exact vw n hS h
def Leaving(P:Program)(x:FC):Prop:=x.1.mode=.returning/\x.2=[bX P]
theorem CL(hS:M5 P (x.1::x.2))(h:Lost x.1 x.2 (stepG P true (Gm x.1 x.2) w)){n:Nat}{y:FC}{w2:World}(hr:runN P (n+1) (lone x.1 x.2 w)=.next (lone y.1 y.2 w2)):y.1.mode≠.returning:=by
 rcases h with⟨o,w',h⟩|⟨chain,w',h⟩
 ·rw [runN,nX h] at hr;cases hr
 ·have:=step_lone_go (P:=P) (fr:=x.1) (cs:=x.2) (w:=w) (fr':={ x.1 with mode:=.panicking chain }) (cs':=x.2) (w':=w') h;rw [runN,this] at hr;obtain⟨c,hc⟩:=vw n hS hr;rw [hc];simp
theorem uC(hx:Leaving P x)(hF:CK x.1){fn:Func}(hf:P.funcs[x.1.fn]?=some fn){n:Nat}{y:FC}{w2:World}(hr:runN P (n+1) (lone x.1 x.2 w)=.next (lone y.1 y.2 w2)):y.1.mode≠.returning:=by
 obtain⟨hm,bt⟩:=hx;rw [bt] at hr;have cH:(∃ o w',step P (lone x.1 [bX P] w)=.ended o w')∨∃ v w',step P (lone x.1 [bX P] w)=.next (lone ((bX P).finish v) [] w'):=by
  cases mC:(results fn x.1.tmps).runT P w #[] with
  | mk res es =>
   cases res with
   | ok v w'=>exact .inr ⟨v,w',step_lone_go (by simp only [stepG,hm,unwind,hF.defers,hf,mC,doReturn,hF.kind,GStep.after,GStep.bare])⟩
   | halt hh w' =>
    refine .inl ?_;cases hh<;>exact⟨_,w',nX (by simp only [stepG,Gm,hm,unwind,hF.defers,hf,mC,GStep.after];rfl)⟩
 rcases cH with⟨o,w',h⟩|⟨v,w',h⟩
 ·rw [runN,h] at hr;cases hr
 ·rw [runN,h] at hr
  cases n with
  | zero =>
   injection hr with hr
   have h1:(#[Gm ((bX P).finish v) []]:Array Goroutine)=#[Gm y.1 y.2]:=congrArg Machine.gs hr;have h2:Gm ((bX P).finish v) []=Gm y.1 y.2:=by simpa using h1
   have h3:(bX P).finish v=y.1:=congrArg Goroutine.frame h2;rw [<- h3];simp [bX,Frame.finish]
  | succ n =>
   obtain⟨o,w3,h2⟩:=An (P:=P) v w';have ng:runN P (n+1) (lone ((bX P).finish v) [] w')=.next (lone y.1 y.2 w2):=hr;rw [runN,h2] at ng;cases ng
inductive Runs(P:Program)(Fin:FC->World->Prop):FC->World->Prop
 | fin {x:FC} {w:World}:Fin x w->Runs P Fin x w
 | step {x:FC} {w:World} (y:Tape->Nat->FC) (v:Tape->Nat->World):¬ Leaving P x->(∀ T d,(cF P x.1 x.2).run P (tp w T d)=.ok (y T d) (v T d))->(∀ T d,Runs P Fin (y T d) (v T d))->Runs P Fin x w
def U(E:Env P)(x:FC)(w:World):Prop:=∃ ρ:Ren,ρ.eq/\Cx E ρ/\fP E ρ x.1 x.1/\lX E ρ [bX P] [bX P] x.2 x.2/\WR ρ w w
theorem U.tp{E:Env P}{x:FC}{w:World}(h:U E x w)(T:Tape)(d:Nat):U E x (CO.tp w T d):=by
 obtain⟨ρ,h1,h2,h3,h4,h5⟩:=h;exact⟨ρ,h1,h2,h3,h4,h5.Ov _ _ _ _⟩
theorem lX.ZO{E:Env P}{ρ:Ren}{bC cs cs':List Frame}(h:lX E ρ [bX P] bC cs cs'):M5 P cs:=by
 induction h with
 | nil=>exact .base
 | cons hf _ _ ih=>exact .cons hf.defers.1 ih
theorem U.ZO{E:Env P}{x:FC}{w:World}(h:U E x w):M5 P (x.1::x.2):=by
 obtain⟨ρ,h1,h2,h3,h4,h5⟩:=h;exact .cons h3.defers.1 h4.ZO
theorem lX.hn{E:Env P}{ρ:Ren}{bC cs cs':List Frame}(h:lX E ρ [bX P] bC cs cs')(hn:cs≠[bX P]):∃ f f' l l',cs=f::l/\cs'=f'::l'/\fP E ρ f f'/\CJ E f/\lX E ρ [bX P] bC l l':=by
 cases h with
 | nil=>exact absurd rfl hn
 | cons hf hd h=>exact⟨_,_,_,_,rfl,rfl,hf,hd,h⟩
variable {E:Env P} (hK:cQ E) (hB:cf E)
include hK hB in
theorem U.sr(h:U E x w)(hl:¬ Leaving P x):∃ ρ:Ren,ρ.eq/\Cx E ρ/\WR ρ w w/\SR P (M0 E [bX P] [bX P]) ρ (cF P x.1 x.2) (cF P x.1 x.2):=by
 obtain⟨ρ,h1,h2,h3,h4,h5⟩:=h;exact⟨ρ,h1,h2,h5,Al hK hB h2 h3 h4 fun hm=>h4.hn fun e=>hl ⟨hm,e⟩⟩
include hK hB in
theorem U.loc{x:FC}{w:World}(h:U E x w)(hl:¬ Leaving P x):Loc P (cF P x.1 x.2) w:=by
 obtain⟨ρ,h1,h2,h3,h4⟩:=h.sr hK hB hl;exact h4.loc h1 h3
include hK hB in
theorem U.next(h:U E x w)(hl:¬ Leaving P x){y:FC}{ai:World}(hr:(cF P x.1 x.2).run P w=.ok y ai):U E y ai:=by
 obtain⟨ρ,h1,h2,h3,h4⟩:=h.sr hK hB hl;obtain⟨T0,g1,g2,g3⟩:=(h4.xw h3) w.drawn w.tape;have hT:T0=w.tape:=by
  funext i q;by_cases c:i<w.drawn
  ·exact g1 i q c
  ·have:=g2 h1 i q ae;rw [this];congr 1;omega
 subst hT;obtain⟨aQ,b,cO,Cg,o⟩:=g3 y ai (by rw [xv];exact hr) #[];have e:(cF P x.1 x.2).run P w=.ok b cO:=by
  have:=o.run;rw [Sem.runT_eq] at this;exact congrArg Prod.fst this
 rw [hr] at e;injection e with e1 e2
 subst e1;subst e2;exact⟨aQ,by rw [o.le.eq];exact h1,h2.mono o.le,o.res.fr,o.res.cs,o.wr⟩
theorem Runs.Ov{Fin:FC->World->Prop}(hT:∀ x w T d,Fin x w->Fin x (tp w T d)){x:FC}{w:World}(h:Runs P Fin x w)(T:Tape)(d:Nat):Runs P Fin x (tp w T d):=by
 cases h with
 | fin h=>exact .fin (hT _ _ _ _ h)
 | step y v h1 h2 h3=>exact .step y v h1 (fun T' d'=>h2 T' d') h3
variable {Fin:FC->World->Prop} (hL:∀ x w,Fin x w->Leaving P x) (hT:∀ x w T d,Fin x w->Fin x (tp w T d))
include hK hB hT in
theorem Jr(hU:U E x w)(h:¬ Runs P Fin x w):Leaving P x∨∃ T,(∃ hh ai,(cF P x.1 x.2).run P (tp w T w.drawn)=.halt hh ai)∨∃ y ai,(cF P x.1 x.2).run P (tp w T w.drawn)=.ok y ai/\¬ Runs P Fin y ai:=by
 refine Classical.byContradiction fun hn=>h ?_;have hl:¬ Leaving P x:=fun hl=>hn (.inl hl);have cZ:∀ T d,∃ y ai,(cF P x.1 x.2).run P (tp w T d)=.ok y ai/\Runs P Fin y ai:=by
  intro T d
  let Xn:Tape:=fun j q=>T (d+(j-w.drawn)) q
  have ZP:=(hU.tp Xn w.drawn).loc hK hB hl;have hs:=ZP.same T d fun i _ q=>by
   show T (d+i) q=T (d+(w.drawn+i-w.drawn)) q;congr 1;omega
  cases hr:(cF P x.1 x.2).run P (tp w Xn w.drawn) with
  | halt hh ai=>exact absurd (.inr ⟨Xn,.inl ⟨hh,ai,hr⟩⟩) hn
  | ok y ai =>
   rw [hr] at hs;refine⟨y,_,hs,?_⟩;have hy:Runs P Fin y ai:=Classical.byContradiction fun hy=>hn (.inr ⟨Xn,.inr ⟨y,ai,hr,hy⟩⟩);exact hy.Ov hT _ _
 exact .step (fun T d=>(cZ T d).choose) (fun T d=>(cZ T d).choose_spec.choose) hl (fun T d=>(cZ T d).choose_spec.choose_spec.1) (fun T d=>(cZ T d).choose_spec.choose_spec.2)
theorem Js{y:FC}{v:World}(h:lone x.1 x.2 w=lone y.1 y.2 v):x=y/\w=v:=by
 have h1:(#[Gm x.1 x.2]:Array Goroutine)=#[Gm y.1 y.2]:=congrArg Machine.gs h;have h2:Gm x.1 x.2=Gm y.1 y.2:=by simpa using h1
 have h3:x.1=y.1:=congrArg Goroutine.frame h2;have h4:x.2=y.2:=congrArg Goroutine.callers h2;exact⟨Prod.ext h3 h4,congrArg Machine.world h⟩
theorem least{p:Nat->Prop}:∀ {n:Nat},(¬ ∀ m,m<n->¬ p m)->∃ N,N<n/\p N/\∀ m,m<N->¬ p m
 | 0,h=>absurd (fun m hm=>ae) h
 | n+1,h=>by
  by_cases h1:∀ m,m<n->¬ p m
  ·refine⟨n,aiE n,?_,h1⟩;refine Classical.byContradiction fun hp=>h fun m hm hpm=>?_;by_cases e:m=n
   ·exact hp (e▸hpm)
   ·exact h1 m ae hpm
  ·obtain⟨N,a,b,c⟩:=least h1;exact⟨N,ae,b,c⟩
include hK hB hL hT in
theorem EB(hU:U E x w)(H:∀ T,∃ n y ai,runN P n (lone x.1 x.2 (tp w T 0))=.next (lone y.1 y.2 ai)/\Fin y ai):Runs P Fin x w:=by
 refine Classical.byContradiction fun dJ=>?_
 let S:={ s:FC×World // U E s.1 s.2/\¬ Runs P Fin s.1 s.2 }
 let dead:S->Tape->Prop:=fun s T=>Leaving P s.1.1∨∃ hh ai,(cF P s.1.1.1 s.1.1.2).run P (tp s.1.2 T s.1.2.drawn)=.halt hh ai
 have ex:∀ s:S,∃ (T:Tape) (s':S),dead s T∨(¬ Leaving P s.1.1/\(cF P s.1.1.1 s.1.1.2).run P (tp s.1.2 T s.1.2.drawn)=.ok s'.1.1 s'.1.2):=by
  intro s;by_cases hl:Leaving P s.1.1
  ·exact⟨fun _ _=>0,s,.inl (.inl hl)⟩
  ·rcases Jr hK hB hT s.2.1 s.2.2 with h|⟨T,h|⟨y,ai,h1,h2⟩⟩
   ·exact absurd h hl
   ·exact⟨T,s,.inl (.inr h)⟩
   ·exact⟨T,⟨(y,ai),(s.2.1.tp T _).next hK hB hl h1,h2⟩,.inr ⟨hl,h1⟩⟩
 let Tp:S->Tape:=fun s=>(ex s).choose
 let nx:S->S:=fun s=>(ex s).choose_spec.choose
 have spec:∀ s,dead s (Tp s)∨(¬ Leaving P s.1.1/\(cF P s.1.1.1 s.1.1.2).run P (tp s.1.2 (Tp s) s.1.2.drawn)=.ok (nx s).1.1 (nx s).1.2):=fun s=>(ex s).choose_spec.choose_spec
 let s0:S:=⟨(x,tp w w.tape 0),hU.tp _ _,fun h=>dJ (h.Ov hT w.tape w.drawn)⟩
 let c:Nat->S:=fun n=>Nat.rec s0 (fun _ s=>nx s) n
 have c0:c 0=s0:=rfl;have cS:∀ n,c (n+1)=nx (c n):=fun _=>rfl
 let en:S->Nat:=fun s=>(MN ((cF P s.1.1.1 s.1.1.2).run P (tp s.1.2 (Tp s) s.1.2.drawn))).drawn
 let D:Nat->Nat:=fun n=>(c n).1.2.drawn
 have alive:∀ n,¬ dead (c n) (Tp (c n))->D (n+1)=en (c n):=fun n h=>by
  rcases spec (c n) with h1|⟨_,h1⟩
  ·exact absurd h1 h
  ·show(nx (c n)).1.2.drawn=_;simp only [en,h1,MN]
 have le:∀ n,¬ Leaving P (c n).1.1->D n<=en (c n):=fun n h=>(((c n).2.1.tp (Tp (c n)) (D n)).loc hK hB h).le;have mono:∀ n k,(∀ m,m<n+k->¬ dead (c m) (Tp (c m)))->D n<=D (n+k):=by
  intro n k
  induction k with
  | zero=>exact fun _=>ahr _
  | succ k ih =>
   intro h;have h1:=ih fun m hm=>h m ae;have h2:=h (n+k) ae;have h3:=le (n+k) fun hl=>h2 (.inl hl);have h4:=alive (n+k) h2;show D n<=D (n+k+1);omega
 let T:Tape:=fun i q=>open Classical in if h:∃ n,(∀ m,m<n->¬ dead (c m) (Tp (c m)))/\D n<=i/\i<en (c n) then Tp (c h.choose) i q else 0
 have agree:∀ n,(∀ m,m<n->¬ dead (c m) (Tp (c m)))->∀ i q,D n<=i->i<en (c n)->T i q=Tp (c n) i q:=by
  intro n hn i q h1 h2;have hex:∃ n,(∀ m,m<n->¬ dead (c m) (Tp (c m)))/\D n<=i/\i<en (c n):=⟨n,hn,h1,h2⟩;show(open Classical in if h:∃ n,(∀ m,m<n->¬ dead (c m) (Tp (c m)))/\D n<=i/\i<en (c n) then Tp (c h.choose) i q else 0)=_;rw [dif_pos hex];obtain⟨g1,g2,g3⟩:=hex.choose_spec;generalize hex.choose=n' at g1 g2 g3;rcases Nat.lt_trichotomy n n' with h|h|h
  ·have e1:=alive n (g1 n h);have e2:=mono (n+1) (n'-(n+1)) fun m hm=>g1 m ae;rw [show n+1+(n'-(n+1))=n' by omega] at e2;omega
  ·rw [h]
  ·have e1:=alive n' (hn n' h);have e2:=mono (n'+1) (n-(n'+1)) fun m hm=>hn m ae;rw [show n'+1+(n-(n'+1))=n by omega] at e2;omega
 have onT:∀ n,(∀ m,m<n->¬ dead (c m) (Tp (c m)))->¬ Leaving P (c n).1.1->(cF P (c n).1.1.1 (c n).1.1.2).run P (tp (c n).1.2 T (D n))=rat T (D n+(en (c n)-D n)) ((cF P (c n).1.1.1 (c n).1.1.2).run P (tp (c n).1.2 (Tp (c n)) (D n))):=fun n hn hl =>
  (((c n).2.1.tp (Tp (c n)) (D n)).loc hK hB hl).same T (D n) fun i hi q=>agree n hn _ q (Nat.le_add_right _ _) hi
 have path:∀ n,(∀ m,m<n->¬ dead (c m) (Tp (c m)))->runN P n (lone x.1 x.2 (tp w T 0))=.next (lone (c n).1.1.1 (c n).1.1.2 (tp (c n).1.2 T (D n))):=by
  intro n
  induction n with
  | zero=>exact fun _=>rfl
  | succ n ih =>
   intro h;have hd:=h n (aiE n);have hl:¬ Leaving P (c n).1.1:=fun hl=>hd (.inl hl);rcases spec (c n) with h1|⟨_,h1⟩
   ·exact absurd h1 hd
   have h2:=onT n (fun m hm=>h m ae) hl;rw [show(cF P (c n).1.1.1 (c n).1.1.2).run P (tp (c n).1.2 (Tp (c n)) (D n))=_ from h1] at h2;have hle:=le n hl;rw [show D n+(en (c n)-D n)=D (n+1) by rw [alive n hd];omega] at h2;rw [runN_add,ih fun m hm=>h m ae];obtain⟨ρ,_,_,iY,_⟩:=(c n).2.1;have cH:step P (lone (c n).1.1.1 (c n).1.1.2 (tp (c n).1.2 T (D n)))=.next (lone (nx (c n)).1.1.1 (nx (c n)).1.1.2 (tp (nx (c n)).1.2 T (D (n+1)))):=by
    refine step_lone_go ?_;have oI:(cF P (c n).1.1.1 (c n).1.1.2).runT P (tp (c n).1.2 T (D n)) #[]=(.ok (nx (c n)).1.1 (tp (nx (c n)).1.2 T (D (n+1))),(cF P (c n).1.1.1 (c n).1.1.2).events P (tp (c n).1.2 T (D n)) #[]):=by
     rw [Sem.runT_eq,h2];rfl
    have:=xI true iY.ZL oI;exact congrArg GStep.bare this
   simp only [runN,cH];rfl
 obtain⟨n,y,ai,hr,hf⟩:=H T;by_cases cZ:∀ m,m<n->¬ dead (c m) (Tp (c m))
 ·rw [path n cZ] at hr;injection hr with hr
  obtain⟨e1,e2⟩:=Js hr;refine(c n).2.2 (.fin ?_);have j4:Fin (c n).1.1 (tp (c n).1.2 T (D n)):=by rw [e1,e2];exact hf
  exact(hT _ (tp (c n).1.2 T (D n)) (c n).1.2.tape (c n).1.2.drawn j4:Fin (c n).1.1 (c n).1.2)
 ·
  obtain⟨N,hN,hd,aA⟩:=least cZ;obtain⟨k,rfl⟩:∃ k,n=N+(k+1):=⟨n-N-1,ae⟩;have hp:=path N aA;rw [runN_add,hp] at hr;have ng:runN P (k+1) (lone (c N).1.1.1 (c N).1.1.2 (tp (c N).1.2 T (D N)))=.next (lone y.1 y.2 ai):=hr;obtain⟨ρ,he,_,iY,_,hw⟩:=(c N).2.1;have hy:=(hL _ _ hf).1;by_cases hl:Leaving P (c N).1.1
  ·obtain⟨fn,CM,_⟩:=iY.fnOk;exact uC hl iY.ZL CM ng hy
  ·rcases hd with hd|⟨hh,w2,hd⟩
   ·exact hl hd
   ·have h2:=onT N aA hl;have Oy:=(((c N).2.1.tp (Tp (c N)) (D N)).loc hK hB hl).soft;rw [show(cF P (c N).1.1.1 (c N).1.1.2).run P (tp (c N).1.2 (Tp (c N)) (D N))=_ from hd] at h2 Oy;have hrT:(cF P (c N).1.1.1 (c N).1.1.2).runT P (tp (c N).1.2 T (D N)) #[]=(.halt hh (tp w2 T (D N+(en (c N)-D N))),(cF P (c N).1.1.1 (c N).1.1.2).events P (tp (c N).1.2 T (D N)) #[]):=by
     rw [Sem.runT_eq,h2];rfl
    exact CL ((c N).2.1.ZO) (Gu true iY.ZL hrT Oy) ng hy
end
end CO
namespace CO
open Go Go.Conc
inductive Ao{β:Type}(r:β->β->Prop):List β->List β->Prop
 | head {a b:β} {l:List β}:r a b->Ao r (a::l) (b::l)
 | tail {a:β} {l l':List β}:Ao r l l'->Ao r (a::l) (a::l')
theorem Ap{β:Type}{r:β->β->Prop}(h:∀ b,Acc r b):∀ l,Acc (Ao r) l
 | []=>⟨_,fun y hy=>by cases hy⟩
 | b::l=>by
  have hl:=Ap h l
  induction h b generalizing l with
  | intro b _ ihb =>
   induction hl with
   | intro l hl ihl =>
    refine⟨_,fun y hy=>?_⟩
    cases hy with
    | head hr=>exact ihb _ hr l ⟨l,hl⟩
    | tail hr=>exact ihl _ hr
theorem M6{β:Type}{r:β->β->Prop}(h:WellFounded r):WellFounded (Ao r):=⟨Ap fun b=>h.apply b⟩
theorem M7{β:Type}{r:β->β->Prop}(f g:Nat->β){i n:Nat}(hi:i<n)(h:r (g i) (f i))(ho:∀ j,j≠i->g j=f j):Ao r ((List.range n).map g) ((List.range n).map f):=by
 have key:∀ (l:List Nat),i∈l->l.Nodup->Ao r (l.map g) (l.map f):=by
  intro l
  induction l with
  | nil=>intro h;cases h
  | cons a l ih =>
   intro hm hn;rw [List.nodup_cons] at hn;rw [aiw,aiw];by_cases e:a=i
   ·subst e;have:l.map g=l.map f:=List.map_congr_left fun x hx=>ho x fun e=>hn.1 (e▸hx);rw [this];exact .head h
   ·rw [ho a e];exact .tail (ih (by cases hm with|head=>exact absurd rfl e|tail _ h=>exact h) hn.2)
 exact key _ (List.mem_range.2 hi) List.nodup_range
def Lt(P:Program)(y x:FC×World):Prop:=¬ Leaving P x.1/\∃ T d,(cF P x.1.1 x.1.2).run P (tp x.2 T d)=.ok y.1 y.2
theorem Runs.acc{P:Program}{Fin:FC->World->Prop}(hL:∀ x w,Fin x w->Leaving P x){x:FC}{w:World}(h:Runs P Fin x w):Acc (Lt P) (x,w):=by
 induction h with
 | fin h=>exact⟨_,fun y hy=>absurd (hL _ _ h) hy.1⟩
 | step y v hn h1 _ ih =>
  refine⟨_,fun z hz=>?_⟩;obtain⟨_,T,d,hr⟩:=hz;rw [h1 T d] at hr;injection hr with e1 e2
  have:=ih T d;rw [e1,e2] at this;exact this
def WA(P:Program):=Option { x:FC×World // Acc (Lt P) x }
inductive Jt(P:Program):WA P->WA P->Prop
 | mk {a b:{ x:FC×World // Acc (Lt P) x }}:Lt P a.1 b.1->Jt P (some a) (some b)
theorem Oz(P:Program):WellFounded (Jt P):=by
 have key:∀ (x:FC×World) (h:Acc (Lt P) x),Acc (Jt P) (some ⟨x,h⟩):=by
  intro x h
  induction h with
  | intro x h ih=>exact⟨_,fun y hy=>by cases hy with|mk aA=>exact ih _ aA⟩
 refine⟨fun a=>?_⟩
 cases a with
 | none=>exact⟨_,fun y hy=>by cases hy⟩
 | some a=>exact key a.1 a.2
abbrev MP(P:Program):=Nat×WA P×Nat
def nY(P:Program):MP P->MP P->Prop:=Prod.Lex (·<·) (Prod.Lex (Jt P) (·<·))
theorem OA(P:Program):WellFounded (nY P):=(Prod.lex ⟨_,Nat.lt_wfRel.wf⟩ (Prod.lex ⟨_,Oz P⟩ ⟨_,Nat.lt_wfRel.wf⟩)).wf
abbrev MM(P:Program):=Nat×List (MP P)×MP P
def CN(P:Program):MM P->MM P->Prop:=Prod.Lex (·<·) (Prod.Lex (Ao (nY P)) (nY P))
theorem Vz(P:Program):WellFounded (CN P):=(Prod.lex ⟨_,Nat.lt_wfRel.wf⟩ (Prod.lex ⟨_,M6 (OA P)⟩ ⟨_,OA P⟩)).wf
theorem reach_of_inv{P:Program}{α:Type}{r:α->α->Prop}(wf:WellFounded r)(Inv:α->Machine->Trace->Prop)(Q:Machine->Trace->Prop)
  (h:∀ μ m t,Inv μ m t->Q m t∨∃ m' ops Aq,stepT P m=(.next m',ops)/\r Aq μ/\Inv Aq m' (t++ops)) :
  ∀ μ m t,Inv μ m t->∃ N m' t',runNT P N m t=(.next m',t')/\Q m' t':=by
 intro μ
 induction μ using wf.induction with
 | _ μ ih =>
  intro m t hI;rcases h μ m t hI with hq|⟨m',ops,Aq,hs,hr,hI'⟩
  ·exact⟨0,m,t,rfl,hq⟩
  ·obtain⟨N,m2,t2,h1,h2⟩:=ih Aq hr m' (t++ops) hI';exact⟨N+1,m2,t2,by simp only [runNT,hs];exact h1,h2⟩
section
variable {P:Program} {E:Env P}
structure gf(v cg:World):Prop where
 row:∀ (r:Nat) c t z,v.heap[r]?=some (.cells c t z)->∃ c' z',cg.heap[r]?=some (.cells c' t z')/\Gw c z c' z'
 size:v.heap.size<=cg.heap.size
structure Sim(P:Program)(E:Env P)(Fin:FC->World->Prop)(bC:List Frame)(main:Bool)(ρ:Ren)(x:FC)(v:World)(y:FC)(w:World)(lr:FC)(cg:World)(aQ:Ren)(ij:FC)(ai:World)(evs:Array Event):Prop where
 runs:Runs P Fin lr cg
 lt:Lt P (lr,cg) (x,v)
 step:stepG P main (Gm y.1 y.2) w=.go (Gm ij.1 ij.2) ai (seen P y.1.fn evs)
 le:ρ.le aQ
 fr:fP E aQ lr.1 ij.1
 cs:lX E aQ [bX P] bC lr.2 ij.2
 wr:WR aQ cg ai
 frame:Fr ρ aQ w ai
 keep:gf v cg
 evs:∀ e∈evs,KY aQ v e
 fz:∀ z z',cu ρ z z'->v.frozen? z=true->ai.cell? z'=w.cell? z'
theorem Runs.OB(hK:cQ E)(hB:cf E){Fin:FC->World->Prop}{bC:List Frame}(main:Bool){x y:FC}{v w:World}(h:Runs P Fin x v){ρ:Ren}(hc:Cx E ρ)(hf:fP E ρ x.1 y.1)(bt:lX E ρ [bX P] bC x.2 y.2)(hw:WR ρ v w):
  Fin x v∨∃ lr cg aQ ij ai evs,Sim P E Fin bC main ρ x v y w lr cg aQ ij ai evs:=by
 cases h with
 | fin h=>exact .inl h
 | step z u hn h1 h2 =>
  refine .inr ?_;have hsr:=Al hK hB hc hf bt fun hm=>bt.hn fun e=>hn ⟨hm,e⟩;obtain⟨T0,_,_,g3⟩:=(hsr.xw hw) 0 (fun _ _=>0);obtain⟨aQ,b,cO,Cg,o⟩:=g3 _ _ (h1 T0 0) #[];refine⟨z T0 0,u T0 0,aQ,b,cO,Cg,h2 T0 0,⟨hn,T0,0,h1 T0 0⟩,?_,o.le,o.res.fr,o.res.cs,o.wr,o.fr,⟨o.grow.row,o.grow.size⟩,o.evs,o.fz⟩;have hr:=o.run;rw [aiH] at hr;exact xI main hf.ZM hr
theorem nZ(fn:FuncId)(evs:Array Event):∀ e∈seen P fn evs,e∈evs:=by
 unfold seen;dsimp only;rw [<- Array.foldl_toList]
 have key:∀ (l:List Event) (q:Bool) (k:Array Event),(∀ e∈k,e∈evs)->(∀ e∈l,e∈evs)->∀ e∈(l.foldl (fun(x:Bool×Array Event) e=>match e.loc with
   | .mark (.extern f)=>((P.funcs[f]?).any (·.norace),x.2)
   | _=>(x.1,if (x.1&&!e.sync)=true then x.2 else x.2.push e)) (q,k)).2,e∈evs:=by
  intro l
  induction l with
  | nil=>exact fun q k h _=>h
  | cons a l ih =>
   intro q k hk hl;rw [List.foldl_cons];have Bo:∀ e∈l,e∈evs:=fun e he=>hl e (.tail _ he);dsimp only;split
   ·exact ih _ _ hk Bo
   ·refine ih _ _ (fun e he=>?_) Bo;split at he
    ·exact hk e he
    ·rcases Array.mem_push.1 he with he|rfl
     ·exact hk e he
     ·exact hl _ (.head _)
 exact key evs.toList _ _ ag (fun e he=>by simpa using he)
inductive Ro(P:Program){α:Type}:Sem α->Prop
 | pure (a:α):Ro P (.pure a)
 | load {m:Mode} {a:Addr} {k:Value->Sem α}:(∀ v,Ro P (k v))->Ro P (.load m a k)
 | program {k:Program->Sem α}:Ro P (k P)->Ro P (.program k)
 | halt (h:Halt):Ro P (.halt h)
theorem Ro.bind{α β:Type}{s:Sem α}{f:α->Sem β}(h:Ro P s)(k:∀ a,Ro P (f a)):Ro P (s.bind f):=by
 induction h with
 | pure a=>exact k a
 | load _ ih=>exact .load ih
 | program _ ih=>exact .program ih
 | halt h=>exact .halt h
theorem Ro.still{α:Type}{s:Sem α}(h:Ro P s):∀ {w:World} {a:α} {ai:World},s.run P w=.ok a ai->ai=w/\∀ T d,s.run P (tp w T d)=.ok a (tp w T d):=by
 induction h with
 | pure a =>
  intro w b ai h;simp only [Sem.run] at h ⊢;injection h with h1 h2
  subst h1;subst h2;exact⟨rfl,fun _ _=>rfl⟩
 | @load m x k _ ih =>
  intro w b ai h;simp only [Sem.run] at h ⊢
  cases hc:w.cell? x with
  | some v =>
   rw [hc] at h;obtain⟨h1,h2⟩:=ih v h;refine⟨h1,fun T d=>?_⟩;have:(tp w T d).cell? x=some v:=hc;rw [this];exact h2 T d
  | none =>
   rw [hc] at h
   cases hf:w.farLoad P x (m==.atomic) with
   | error e=>rw [hf] at h;cases h
   | ok r =>
    rw [hf] at h;obtain⟨h1,h2⟩:=ih r.1 h;refine⟨h1,fun T d=>?_⟩;have:(tp w T d).cell? x=none:=hc;have XP:(tp w T d).farLoad P x (m==.atomic)=.ok r:=hf;rw [this];simp only [XP];exact h2 T d
 | program _ ih=>intro w b ai h;simp only [Sem.run] at h ⊢;exact ih h
 | halt e=>intro w b ai h;simp only [Sem.run] at h;cases h
theorem OC{α:Type}{s:Sem α}(h:Cl P s):Ro P s:=by
 induction h with
 | pure a=>exact .pure a
 | program _ ih=>exact .program ih
 | halt _=>exact .halt _
theorem n9:∀ (n:Nat) (a:Addr) (i:Nat) (p:Array Value),Ro P (loadCellsFrom a i n p)
 | 0,_,_,_=>.pure _
 | n+1,a,i,p=>Ro.bind (s:=load (a.add i)) (.load fun v=>.pure v) fun v=>n9 n a (i+1) _
theorem CP(t:TypeId)(a:Addr):Ro P (loadVar t a):=(OC (sF t)).bind fun b=>by
 split
 ·exact(OC (aZ t)).bind fun n=>(n9 n a 0 _).bind fun p=>.pure _
 ·exact .load fun v=>.pure v
theorem Gx(p:Array Value)(r:ResultVar):Ro P (mP p r):=by
 cases r with
 | tmp t=>exact .pure _
 | cell a t =>
  refine Ro.bind (s:=asAddr _) ?_ fun x=>CP t x
  cases p.getD a undef with
  | pointer a=>cases a with
   | some a=>exact .pure _
   | none=>exact .program (.halt _)
  | _=>exact .halt _
theorem mS(fn:Func)(p:Array Value):Ro P (results fn p):=by
 rw [mQ];refine Ro.bind ?_ fun vs=>.pure _;rw [Array.mapM_eq_foldlM,<-Array.foldlM_toList];have key:∀ (l:List ResultVar) (z:Array Value),Ro P (l.foldlM (fun bs a=>do let b<-mP p a;pure (bs.push b)) z):=by
  intro l
  induction l with
  | nil=>exact fun z=>.pure z
  | cons r l ih=>exact fun z=>by rw [List.foldlM_cons];exact((Gx p r).bind fun b=>.pure _).bind fun c=>ih c
 exact key _ _
structure cL(P:Program)(x:FC)(v:World)(val:Value):Prop where
 leaving:Leaving P x
 res:∃ fn,P.funcs[x.1.fn]?=some fn/\(results fn x.1.tmps).run P v=.ok val v
theorem cL.Ov{x:FC}{v:World}{val:Value}(h:cL P x v val)(T:Tape)(d:Nat):cL P x (tp v T d) val:=by
 obtain⟨fn,h1,h2⟩:=h.res;exact⟨h.leaving,fn,h1,((mS fn _).still h2).2 T d⟩
theorem cL.OB(main:Bool){x:FC}{v w:World}{val:Value}(h:cL P x v val){ρ:Ren}{fr c:Frame}{cs:List Frame}(hf:fP E ρ x.1 fr)(hw:WR ρ v w):
  ∃ aQ cy ai cg evs,stepG P main (Gm fr (c::cs)) w=.go (Gm (c.finish cy) cs) ai (seen P fr.fn evs)/\ρ.le aQ/\VR aQ val cy/\WR aQ cg ai/\Fr ρ aQ w ai/\gf v cg/\(∃ T d,cg=tp v T d)/\(∀ e∈evs,KY aQ v e)/\∀ z z',cu ρ z z'->v.frozen? z=true->ai.cell? z'=w.cell? z':=by
 obtain⟨fn,h1,h2⟩:=h.res;obtain⟨ZR,e1,e2⟩:=hf.fnOk;obtain rfl:fn=ZR:=ah6 (h1.symm.trans e1);obtain⟨T0,_,_,g3⟩:=((mR (P:=P) fn hf.tmps e2).xw hw) 0 (fun _ _=>0);obtain⟨aQ,cy,ai,evs,o⟩:=g3 val _ (((mS fn _).still h2).2 T0 0) #[];have hr:=o.run;rw [aiH] at hr;refine⟨aQ,cy,ai,_,evs,?_,o.le,o.res,o.wr,o.fr,⟨o.grow.row,o.grow.size⟩,⟨_,_,rfl⟩,o.evs,o.fz⟩;have hm:fr.mode=.returning:=by rw [<- hf.mode.1];exact h.leaving.1
 have CM:P.funcs[fr.fn]?=some fn:=by rw [<- hf.fn];exact h1
 refine xI main hf.ZM (cs:=c::cs) (r:=(c.finish cy,cs)) ?_;unfold cF;rw [hm];simp only [CM];rw [Sem.runT_bind',hr];rfl
end
end CO
namespace CO
open Go Go.Conc Go.ConcN
variable {B:Nat}
structure cz where
 Wg:Nat
 Ch:Nat
 O:Nat
 d:Nat
 Lo:Nat
 Sh:Nat->Prop
 Rd:Nat->Prop
structure cz.Ok(G:cz):Prop where
 wg:G.Wg<G.Lo
 ch:G.Ch<G.Lo
 o:G.O<G.Lo
 wo:G.Wg≠G.O
 wc:G.Wg≠G.Ch
 co:G.Ch≠G.O
 sh:∀ b,G.Rd b->b<G.Lo/\b≠G.Wg/\b≠G.O/\b≠G.Ch
 rd:∀ b,G.Sh b->G.Rd b
structure Own where
 own:Nat->Nat->Prop
 tk:Nat->Nat->Prop
structure Own.Ok(G:cz)(W:Own):Prop where
 one:∀ k k' b,W.own k b->W.own k' b->k=k'
 tk1:∀ k k' q,W.tk k q->W.tk k' q->k=k'
 hi:∀ k b,W.own k b->G.Lo<=b
def slot(G:cz)(q off:Nat):Prop:=q*G.d<=off/\off<q*G.d+G.d
theorem oa{G:cz}{q q' off:Nat}(h:slot G q off)(h':slot G q' off):q=q':=by
 obtain⟨h1,h2⟩:=h;obtain⟨h3,h4⟩:=h';rcases Nat.lt_trichotomy q q' with h|h|h
 ·have:=ahT G.d h;rw [Nat.succ_mul] at this;omega
 ·exact h
 ·have:=ahT G.d h;rw [Nat.succ_mul] at this;omega
def lY(G:cz)(W:Own):Nat->Go.Loc->Prop:=fun k l =>
 (∃ a,l=.cell a/\(W.own k a.block∨(a.block=G.O/\∃ q,W.tk k q/\slot G q a.off)))∨∃ r,l=.obj r/\W.own k r
def yj(G:cz):Nat->Go.Loc->Prop:=fun _ l=>∃ a,l=.cell a/\G.Rd a.block
section
variable {G:cz} {W:Own}
theorem apart(hG:G.Ok)(hW:W.Ok G):Apart (ShN G.Wg) (lY G W) (yj G):=by
 refine⟨fun k k' l h h'=>?_,fun k k' l h h'=>?_,fun k l h h'=>?_,fun k l h h'=>?_⟩
 ·rcases h with⟨a,rfl,h⟩|⟨r,rfl,h⟩
  ·rcases h' with⟨a',e,h'⟩|⟨r,e,_⟩
   ·cases e;rcases h with h|⟨ho,q,h1,h2⟩<;>rcases h' with h'|⟨ho',q',nj,kh⟩
    ·exact hW.one _ _ _ h h'
    ·have:=hW.hi _ _ h;have:=hG.o;omega
    ·have:=hW.hi _ _ h';have:=hG.o;omega
    ·have:=oa h2 kh;subst this;exact hW.tk1 _ _ _ h1 nj
   ·cases e
  ·rcases h' with⟨a',e,_⟩|⟨r',e,h'⟩
   ·cases e
   ·cases e;exact hW.one _ _ _ h h'
 ·obtain⟨a,rfl,h'⟩:=h';rcases h with⟨a',e,h⟩|⟨r,e,_⟩
  ·cases e;have:=hG.sh _ h';rcases h with h|⟨ho,_⟩
   ·have:=hW.hi _ _ h;omega
   ·exact this.2.2.1 ho
  ·cases e
 ·obtain⟨a,rfl,h'⟩:=h';rcases h with⟨a',e,h⟩|⟨r,e,_⟩
  ·cases e;rcases h with h|⟨ho,_⟩
   ·have:=hW.hi _ _ h;have:=hG.wg;omega
   ·exact hG.wo (h'▸ho)
  ·cases e
 ·obtain⟨a,rfl,h⟩:=h;obtain⟨a',e,h'⟩:=h';cases e;exact(hG.sh _ h).2.1 h'
end
section
variable {Sh:Go.Loc->Prop} {Own RF Rd:Nat->Go.Loc->Prop} {t:Trace} {j:Nat}
theorem M8(h:CT Sh Own Rd t j)(hle:∀ k l,Own k l->RF k l)(oG:∀ k l,RF k l->Own k l∨∀ i a,touchAt t i=some a->a.loc≠l):CT Sh RF Rd t j :=
 ⟨h.quiet,fun k k1 kj l hl=>(oG k l hl).elim (h.own k k1 kj l) fun hu i a ha e=>absurd e (hu i a ha),h.rd,
  fun l hs hl=>h.free l hs fun k k1 kj=>⟨fun ho=>(hl k k1 kj).1 (hle k l ho),(hl k k1 kj).2⟩,
  fun l hs hl=>h.mine l hs fun k k1 kj ho=>hl k k1 kj (hle k l ho),h.nr,h.gs⟩
end
def oc(t:Trace)(B:Nat):Prop:=∀ op∈t,∀ x,op.act.touch?=some x->x.loc.low B
theorem oc.mono{t:Trace}{B':Nat}(h:oc t B)(hB:B<=B'):oc t B':=fun op bU x hx=>Loc.low_mono hB (h op bU x hx)
theorem oc.app{t u:Trace}(h:oc t B)(hu:oc u B):oc (t++u) B:=fun op bU=>(Array.mem_append.1 bU).elim (h op) (hu op)
theorem vx{x:MemAct}{B:Nat}(h:x.low B){y:Touch}(hy:x.touch?=some y):y.loc.low B:=by
 cases x with
 | access e=>cases hy;exact h
 | mark m=>cases m<;>first|(cases hy;exact h)|cases hy
 | _=>cases hy
theorem pY{t:Trace}{i:Nat}{a:Touch}(h:oc t B)(ha:touchAt t i=some a):a.loc.low B:=by
 obtain⟨x,hx,hxa⟩:=touch_of ha;exact h x (aih hx) a hxa
theorem od{u:Trace}(h:∀ op∈u,op.act.low B):oc u B:=fun op bU x hx=>vx (h op bU) hx
theorem Gy(x:MemAct):∃ B,x.low B:=by
 cases x with
 | access e =>
  obtain⟨l,wr,sy⟩:=e
  cases l with
  | cell a=>exact⟨a.block+1,aiE _⟩
  | obj r=>exact⟨r+1,aiE _⟩
  | _=>exact⟨0,trivial⟩
 | mark m=>cases m<;>first|exact⟨_,aiE _⟩|exact⟨0,trivial⟩
 | go _|start=>exact⟨0,trivial⟩
 | send c _|sendDone c _|recv c _ _|recvDone c _|close c|recvClosed c=>exact⟨c+1,aiE _⟩
theorem Ar(t:Trace):∃ B,∀ op∈t,op.act.low B:=by
 obtain⟨l⟩:=t;have key:∀ l:List MemOp,∃ B,∀ op∈l,op.act.low B:=by
  intro l
  induction l with
  | nil=>exact⟨0,nofun⟩
  | cons a l ih =>
   obtain⟨B,hB⟩:=ih;obtain⟨C,hC⟩:=Gy a.act;refine⟨max B C,fun op bU=>?_⟩
   cases bU with
   | head=>exact MemAct.low_mono (Nat.le_max_right _ _) hC
   | tail _ h=>exact MemAct.low_mono (Nat.le_max_left _ _) (hB op h)
 obtain⟨B,hB⟩:=key l;exact⟨B,fun op bU=>hB op (by simpa using bU)⟩
structure RG(G:cz)(W:Own)(k:Nat)(ρ:Ren)(v:World):Prop where
 range:∀ b b',ρ b b'->(G.Sh b'/\b=b')∨W.own k b'
 frozen:∀ b,G.Sh b->∃ c t z,v.heap[b]?=some (.cells c t z)/\xu (0,c.size) z
 rd:∀ a u,ρ.m a u->G.Rd a.block
theorem cu.rel{ρ:Ren}{a a':Addr}(h:cu ρ a a'):ρ a.block a'.block:=by obtain⟨_,_,h⟩:=h;exact h
theorem Ju{G:cz}(hG:G.Ok){W:Own}{k:Nat}{ρ:Ren}{v:World}(h:RG G W k ρ v){e:Event}(he:KY ρ v e)(hB:∀ b b',ρ b b'->b'<B)(hL:G.Lo<=B):
  EvW G.Wg (lY G W) (yj G) k e/\(MemAct.ofEvent e).low B/\∀ x,(MemAct.ofEvent e).touch?=some x->x.kind≠.atomic:=by
 rcases he with⟨a,a',h1,h2,h3,h4⟩|⟨r,r',h1,h2,h3,h4⟩|⟨f,h1⟩|h1|⟨a,u,h1,rfl⟩
 ·obtain⟨l,wr,sy⟩:=e;dsimp only at h1 h2 h4;subst h1;subst h2;refine⟨⟨fun fn pos=>⟨rfl,fun x hx=>?_⟩,ag,ag,ag⟩,hB _ _ h3.rel,fun x hx=>by(have eQ:some (⟨.cell a',wr,.plain⟩:Touch)=some x:=hx);cases eQ;simp⟩;have eQ:some (⟨.cell a',wr,.plain⟩:Touch)=some x:=hx;cases eQ;rcases h.range _ _ h3.rel with⟨hs,he⟩|ho
  ·refine .inr (.inr ⟨⟨a',rfl,hG.rd _ hs⟩,?_⟩)
   cases wr with
   | false=>rfl
   | true =>
    obtain⟨g1,g2⟩:=h4 rfl;obtain⟨c,t,z,g3,g4⟩:=h.frozen _ hs;rw [<- he] at g3;have hl:=g2 c t z g3;have hz:=g4.mem (ahQ a.off) hl;unfold World.frozen? at g1;rw [g3] at g1;simp only [Bool.and_eq_false_iff,decide_eq_false_iff_not] at g1;omega
  ·exact .inr (.inl (.inl ⟨a',rfl,.inl ho⟩))
 ·obtain⟨l,wr,sy⟩:=e;dsimp only at h1 h2;subst h1;subst h2;refine⟨⟨fun fn pos=>⟨rfl,fun x hx=>?_⟩,ag,ag,ag⟩,?_⟩
  ·have eQ:some (⟨.obj r',wr,.plain⟩:Touch)=some x:=by
    cases wr<;>exact hx
   cases eQ;rcases h.range _ _ h3 with⟨hs,he⟩|ho
   ·obtain⟨c,t,z,g3,_⟩:=h.frozen _ hs;exact absurd (he▸g3) (h4 c t z)
   ·exact .inr (.inl (.inr ⟨r',rfl,ho⟩))
  ·refine⟨by cases wr<;>exact hB _ _ h3,fun x hx=>?_⟩;have eQ:some (⟨.obj r',wr,.plain⟩:Touch)=some x:=by
    cases wr<;>exact hx
   cases eQ;simp
 ·obtain⟨l,wr,sy⟩:=e;dsimp only at h1;subst h1;exact⟨⟨fun fn pos=>⟨rfl,fun x hx=>by cases hx⟩,ag,ag,ag⟩,trivial,fun x hx=>by cases hx⟩
 ·obtain⟨l,wr,sy⟩:=e;dsimp only at h1;subst h1;exact⟨⟨fun fn pos=>⟨rfl,fun x hx=>by cases hx⟩,ag,ag,ag⟩,trivial,fun x hx=>by cases hx⟩
 ·have hr:=h.rd a u h1;refine⟨⟨fun fn pos=>⟨rfl,fun x hx=>?_⟩,ag,ag,ag⟩,ahv (hG.sh _ hr).1 hL,fun x hx=>by(have eQ:some (⟨.cell a,false,.plain⟩:Touch)=some x:=hx);cases eQ;simp⟩;have eQ:some (⟨.cell a,false,.plain⟩:Touch)=some x:=hx;cases eQ;exact .inr (.inr ⟨⟨a,rfl,hr⟩,rfl⟩)
end CO
