/- Part of the proof. -/
import Derived.Test.YtmbbagbhmjaedaaGreatDoorCee
set_option linter.all false
set_option maxRecDepth 10000
set_option maxHeartbeats 3200000
namespace Go.Proofs.YtmbbagbhmjaedaaGreatDoor
open Go CO Go.Conc Go.ConcN Go.RowKit Go.Conc.Lib Go.ConcR.Gen Go.ConcN.Gen
open Go.ConcR (KK wgBlock WgAt stA smA rd wr mk Payload Aside2 DC0)
open Tryz
variable {T:Array Value}{w:World}{j:Nat}{End:Goroutine->World->Prop}
def b3:Frame:=base 3
def b4:Frame:=base 4
noncomputable def vM:Code:=Tryz.f3.body.getD .skip
noncomputable def EY:Array Oper:=match vM with|.seq _ (.seq (.region _ o _) _)=>o|_=>#[]
noncomputable def c3:Code:=match vM with|.seq _ (.seq _ c)=>c|_=>.skip
noncomputable def vN:Code:=Tryz.f4.body.getD .skip
noncomputable def d4:Code:=match vN with|.seq _ (.seq _ (.seq _ (.seq _ (.seq _ (.seq _ c)))))=>c|_=>.skip
noncomputable def l4:Code:=match d4 with|.seq _ (.seq (.seq _ (.block _ (.loop c))) _)=>c|_=>.skip
noncomputable def r4:Code:=match d4 with|.seq _ (.seq _ r)=>r|_=>.skip
noncomputable def aaA:Array Oper:=match l4 with|.seq (.region _ o _) _=>o|_=>#[]
noncomputable def q4:Code:=match l4 with|.seq _ r=>r|_=>.skip
noncomputable def GQ:Array Oper:=match q4 with|.seq _ (.seq (.block _ (.seq (.region _ o _) _)) _)=>o|_=>#[]
noncomputable def GR:Array Oper:=match q4 with|.seq _ (.seq (.block _ (.seq _ (.region _ o _))) _)=>o|_=>#[]
noncomputable def Kj:Array Oper:=match q4 with|.seq _ (.seq _ (.region _ o _))=>o|_=>#[]
noncomputable def C9:Array Oper:=match r4 with|.seq (.region _ o _) _=>o|_=>#[]
noncomputable def GS:Code:=match r4 with|.seq _ r=>r|_=>.skip
noncomputable def aaB:Array Oper:=match GS with|.seq (.region _ o _) _=>o|_=>#[]
noncomputable def k4:List Item:=[.inLoop l4,.inBlock 2,.code r4]
def qs(T:Array Value)(l:Value)(e:Int):Array Value:=(((((T.setIfInBounds 20 (.tuple #[l,.int .i64 e])).setIfInBounds 17 (.tuple #[l,.int .i64 e])).setIfInBounds 21 l).setIfInBounds 22 (.int .i64 e)).setIfInBounds 5 l).setIfInBounds 6 (.int .i64 e)
section
variable (p:kt) (h:Int)
def sO:Value:=.slice (some ⟨p.B+1,0,none⟩) p.N p.N
def uH:Array Value:=((((#[.int .i64 h,p.vJ]++Array.replicate 93 undef).setIfInBounds 4 (.bool false)).setIfInBounds 18 (.int .i64 h)).setIfInBounds 19 p.vJ)
noncomputable def tS:Frame:=b3.at ⟨uH p h,[]⟩ [.inRegion EY [2,3,4,5,6,7],.code c3]
noncomputable def aaC (l:Value) (e:Int):Goroutine:=Gm (b3.at ⟨qs (uH p h) l e,[]⟩ [.code c3]) []
def GU(g:Goroutine)(w:World):Prop:=g=aaC p h (sO p) 0/\fF p.S0 w
structure FT(j:Nat)(T:Array Value):Prop where
 size:T.size=39
 t3:T.getD 3 undef=pA p.B
 t6:T.getD 6 undef=pA (p.B+2)
 t7:T.getD 7 undef=pA (p.B+4)
 t9:T.getD 9 undef=pA (p.B+5)
 t31:T.getD 31 undef=.int .i64 p.n
 t32:T.getD 32 undef=.int .i64 j
end
theorem FT.set{p:kt}(hT:FT p j T){i:Nat}(hi:33<=i)(v:Value):FT p j (T.setIfInBounds i v):=by
 refine⟨by simpa using hT.size,?_,?_,?_,?_,?_,?_⟩<;>rw [cj _ _ ae]
 ·exact hT.t3
 ·exact hT.t6
 ·exact hT.t7
 ·exact hT.t9
 ·exact hT.t31
 ·exact hT.t32
theorem FT.next{p:kt}(hT:FT p j T):FT p (j+1) (T.setIfInBounds 32 (.int .i64 ((j+1:Nat):Int))):=by
 have hs:=hT.size;refine⟨by simpa using hT.size,?_,?_,?_,?_,?_,cM _ _ ae⟩<;>rw [cj _ _ ae]
 ·exact hT.t3
 ·exact hT.t6
 ·exact hT.t7
 ·exact hT.t9
 ·exact hT.t31
def xV(p:kt)(hp:p.Ok)(w:World):Prop:=Kn (nb p hp (fun _ _=>False) (fun _ _=>False)) w/\fF p.S0 w
theorem knp{p:kt}{hp:p.Ok}{AnchW aaD Sg:Goroutine->World->Prop}(h:Kn (nb p hp End AnchW) w):Kn (nb p hp aaD Sg) w:=⟨⟨h.low.low⟩,h.out,h.live,h.lo⟩
def Xy(p:kt)(h:Int)(hp:p.Ok)(g:Goroutine)(w:World):Prop :=
 ∃ T j,FT p j T/\AnchWN link (xV p hp) (gm p.B).Wg (b4.at ⟨T,[]⟩ (.inRegion C9 [0]::[.code GS])) [tS p h] g w
noncomputable abbrev ku (p:kt) (h:Int) (hp:p.Ok):gE Tryz.prog:=nb p hp (GU p h) (Xy p h hp)
section
variable {p:kt} {h:Int} {hp:p.Ok}
abbrev RS(p:kt):World->World->Prop:=dZ (gm p.B) 59
theorem bj:tl (RS p) (xV p hp):=fun w ai h r=>⟨bb _ _ h.1 r.rb,h.2.trans r.out2⟩
theorem Da{ai:World}(hF:xV p hp w/\WgLive link.tWg (gm p.B).Wg w)(r:RS p w ai):xV p hp ai/\WgLive link.tWg (gm p.B).Wg ai:=⟨bj _ _ hF.1 r,r.rb.live hF.2⟩
theorem Kk{ai:World}(hF:xV p hp w)(ha:Go.Conc.Aside (gm p.B).Wg w ai)(hl:WgLive link.tWg (gm p.B).Wg ai):xV p hp ai:=⟨Kn.aside (S:=nb p hp (fun _ _=>False) (fun _ _=>False)) hF.1 ha hl,hF.2.trans ⟨ha.os,ha.output⟩⟩
theorem iZ(hp:p.Ok):Lets (DS (gm p.B)) (ES (gm p.B)):=Nk (OQ hp.ten)
theorem GV:Tryz.f4.results=#[.tmp 4,.tmp 5]:=rfl
theorem Si(T:Array Value)(c:Frame)(cs:List Frame)(w:World):stepG Tryz.prog true (Go.Conc.G { b4.at ⟨T,[]⟩ [.code .ret] with mode:=.returning } (c::cs)) w=.go (Go.Conc.G (c.finish (.tuple #[T.getD 4 undef,T.getD 5 undef])) cs) w #[] :=
 stepG_leave (b:=b4) (a:=⟨T,[]⟩) (fn:=Tryz.f4) rfl rfl func4 (results_tmp2 GV _ _ w) (events_results_tmp2 GV _ _)
theorem Wi(T:Array Value)(v:Value):(b3.at ⟨T,[]⟩ [.inRegion EY [2,3,4,5,6,7],.code c3]).finish v=b3.at ⟨T.setIfInBounds 20 v,[]⟩ [.inRegion EY [3,4,5,6,7],.code c3]:=by
 rw [Frame.finish_at];rfl
theorem Sj(p:kt)(h:Int)(v:Value):(tS p h).finish v=b3.at ⟨(uH p h).setIfInBounds 20 v,[]⟩ [.inRegion EY [3,4,5,6,7],.code c3]:=Wi _ v
theorem Kl(p:kt)(h:Int):(uH p h).size=95:=by simp [uH]
theorem Wj(hs:T.size=95)(e:Int)(l:Value):Wk Tryz.prog true (RS p) (DS (gm p.B)) (xV p hp) (fun g w=>g=Gm (b3.at ⟨qs T l e,[]⟩ [.code c3]) []/\fF p.S0 w) (Go.Conc.G (b3.at ⟨T.setIfInBounds 20 (.tuple #[l,.int .i64 e]),[]⟩ [.inRegion EY [3,4,5,6,7],.code c3]) []):=by
 obtain⟨A0,e0⟩:∃ A,T.setIfInBounds 20 (.tuple #[l,.int .i64 e])=A:=⟨_,rfl⟩;have s0:A0.size=95:=by rw [<- e0];simpa using hs
 have a20:A0.getD 20 undef=.tuple #[l,.int .i64 e]:=by rw [<- e0];exact cM _ _ ae
 rw [e0];refine .C1 17 (v:=.tuple #[l,.int .i64 e]) (op:=.move (.tmp 20)) bj (iZ hp) af rfl (fun w hk=>bY a20) ?_;obtain⟨A1,e1⟩:∃ A,A0.setIfInBounds 17 (.tuple #[l,.int .i64 e])=A:=⟨_,rfl⟩;have s1:A1.size=95:=by rw [<- e1];simpa using s0
 replace a20:A1.getD 20 undef=.tuple #[l,.int .i64 e]:=by rw [<- e1,cj _ _ af];exact a20
 have a17:A1.getD 17 undef=.tuple #[l,.int .i64 e]:=by rw [<- e1];exact cM _ _ ae
 rw [e1];refine .C1 21 (v:=l) (op:=.extract (.tmp 17) 0) bj (iZ hp) af rfl (fun w hk=>dP (vs:=#[l,.int .i64 e]) a17 rfl) ?_;obtain⟨A2,e2⟩:∃ A,A1.setIfInBounds 21 (l)=A:=⟨_,rfl⟩;have s2:A2.size=95:=by rw [<- e2];simpa using s1
 replace a20:A2.getD 20 undef=.tuple #[l,.int .i64 e]:=by rw [<- e2,cj _ _ af];exact a20
 replace a17:A2.getD 17 undef=.tuple #[l,.int .i64 e]:=by rw [<- e2,cj _ _ af];exact a17
 have a21:A2.getD 21 undef=l:=by rw [<- e2];exact cM _ _ ae
 rw [e2];refine .C1 22 (v:=.int .i64 e) (op:=.extract (.tmp 17) 1) bj (iZ hp) af rfl (fun w hk=>dP (vs:=#[l,.int .i64 e]) a17 rfl) ?_;obtain⟨A3,e3⟩:∃ A,A2.setIfInBounds 22 (.int .i64 e)=A:=⟨_,rfl⟩;have s3:A3.size=95:=by rw [<- e3];simpa using s2
 replace a20:A3.getD 20 undef=.tuple #[l,.int .i64 e]:=by rw [<- e3,cj _ _ af];exact a20
 replace a17:A3.getD 17 undef=.tuple #[l,.int .i64 e]:=by rw [<- e3,cj _ _ af];exact a17
 replace a21:A3.getD 21 undef=l:=by rw [<- e3,cj _ _ af];exact a21
 have a22:A3.getD 22 undef=.int .i64 e:=by rw [<- e3];exact cM _ _ ae
 rw [e3];refine .C1 5 (v:=l) (op:=.assign (.tmp 21)) bj (iZ hp) af rfl (fun w hk=>bH a21) ?_;obtain⟨A4,e4⟩:∃ A,A3.setIfInBounds 5 (l)=A:=⟨_,rfl⟩;have s4:A4.size=95:=by rw [<- e4];simpa using s3
 replace a20:A4.getD 20 undef=.tuple #[l,.int .i64 e]:=by rw [<- e4,cj _ _ af];exact a20
 replace a17:A4.getD 17 undef=.tuple #[l,.int .i64 e]:=by rw [<- e4,cj _ _ af];exact a17
 replace a21:A4.getD 21 undef=l:=by rw [<- e4,cj _ _ af];exact a21
 replace a22:A4.getD 22 undef=.int .i64 e:=by rw [<- e4,cj _ _ af];exact a22
 have a5:A4.getD 5 undef=l:=by rw [<- e4];exact cM _ _ ae
 rw [e4];refine .C1 6 (v:=.int .i64 e) (op:=.assign (.tmp 22)) bj (iZ hp) af rfl (fun w hk=>bH a22) ?_;obtain⟨A5,e5⟩:∃ A,A4.setIfInBounds 6 (.int .i64 e)=A:=⟨_,rfl⟩;have s5:A5.size=95:=by rw [<- e5];simpa using s4
 replace a20:A5.getD 20 undef=.tuple #[l,.int .i64 e]:=by rw [<- e5,cj _ _ af];exact a20
 replace a17:A5.getD 17 undef=.tuple #[l,.int .i64 e]:=by rw [<- e5,cj _ _ af];exact a17
 replace a21:A5.getD 21 undef=l:=by rw [<- e5,cj _ _ af];exact a21
 replace a22:A5.getD 22 undef=.int .i64 e:=by rw [<- e5,cj _ _ af];exact a22
 replace a5:A5.getD 5 undef=l:=by rw [<- e5,cj _ _ af];exact a5
 have a6:A5.getD 6 undef=.int .i64 e:=by rw [<- e5];exact cM _ _ ae
 rw [e5];refine .tn bj (iZ hp) ?_;refine .stop bj fun w hk=>⟨?_,hk.2⟩;rw [<- e5,<-e4,<-e3,<-e2,<-e1,<-e0];rfl
theorem Db(hT:FT p j T):Wk Tryz.prog true (RS p) (DS (gm p.B)) (xV p hp) (GU p h) (Go.Conc.G (b4.at ((⟨T,[]⟩:Act).put ((C9[0]?).bind (·.dst)) (.tuple #[])) (.inRegion C9 []::[.code GS])) [tS p h]):=by
 have hs:=hT.size;change Wk Tryz.prog true (RS p) (DS (gm p.B)) (xV p hp) (GU p h) (Go.Conc.G (b4.at ⟨T.setIfInBounds 37 (.tuple #[]),[]⟩ (.inRegion C9 []::[.code GS])) [tS p h]);have EX:=hT.set (i:=37) ae (.tuple #[]);generalize T.setIfInBounds 37 (.tuple #[])=T' at EX ⊢;clear hT hs;have hs:=EX.size;refine .tn bj (iZ hp) ?_;refine .seq (x:=.region 18 aaB false) (y:=.ret) bj (iZ hp) ?_;refine .reg (l:=[0,1,2]) bj (iZ hp) rfl ?_;refine .C1 38 (v:=sO p) (op:=.load 23 (.tmp 6)) bj (iZ hp) af rfl (fun w hk=>eI underlying23 rfl EX.t6 (EV hk.1) ⟨_,rfl,by show _/\_;simp only;omega⟩) ?_;obtain⟨A0,e0⟩:∃ A,T'.setIfInBounds 38 (sO p)=A:=⟨_,rfl⟩;have s0:A0.size=39:=by rw [<- e0];simpa using hs
 have a38:A0.getD 38 undef=sO p:=by rw [<- e0];exact cM _ _ ae
 rw [e0];refine .C1 4 (v:=sO p) (op:=.assign (.tmp 38)) bj (iZ hp) af rfl (fun w hk=>bH a38) ?_;obtain⟨A1,e1⟩:∃ A,A0.setIfInBounds 4 (sO p)=A:=⟨_,rfl⟩;have s1:A1.size=39:=by rw [<- e1];simpa using s0
 have a4:A1.getD 4 undef=sO p:=by rw [<- e1];exact cM _ _ ae
 rw [e1];refine .C1 5 (v:=.int .i64 0) (op:=.assign (.const (.int .i64 0))) bj (iZ hp) af rfl (fun w hk=>bH rfl) ?_;obtain⟨A2,e2⟩:∃ A,A1.setIfInBounds 5 (.int .i64 0)=A:=⟨_,rfl⟩;have g4:A2.getD 4 undef=sO p:=by rw [<- e2,cj _ _ af];exact a4
 have g5:A2.getD 5 undef=.int .i64 0:=by rw [<- e2];exact cM _ _ ae
 rw [e2];refine .tn bj (iZ hp) ?_;refine .ctl bj (iZ hp) rfl (fun w=>stepG_ret') ?_;refine .ctl (g:=Go.Conc.G { b4.at ⟨A2,[]⟩ [.code .ret] with mode:=.returning } (tS p h::[])) (g':=Go.Conc.G (b3.at ⟨(uH p h).setIfInBounds 20 (.tuple #[sO p,.int .i64 0]),[]⟩ [.inRegion EY [3,4,5,6,7],.code c3]) []) bj (iZ hp) rfl (fun w=>?_) ?_
 ·rw [Si,g4,g5,Sj]
 have hE:(fun(g:Goroutine) (w:World)=>g=Gm (b3.at ⟨qs (uH p h) (sO p) 0,[]⟩ [.code c3]) []/\fF p.S0 w)=GU p h:=rfl;rw [<- hE];exact Wj (Kl p h) 0 (sO p)
theorem Km{P:Program}{ty:TypeId}{Wg:Nat}{R:World->World->Prop}{D:World->World->Array Event->Prop}{A A':Goroutine->World->Prop}(hA:∀ g w,A g w->A' g w){g:Goroutine}(y:RM P ty Wg R D End A g w):RM P ty Wg R D End A' g w:=by
 refine⟨y.1,fun v hv hw=>?_⟩;obtain⟨g',h1,h2,h3⟩:=y.2 v hv hw;refine⟨g',h1,h2,fun hn=>?_⟩;obtain⟨m,hm⟩:=h3 hn;refine⟨m,dh (fun _ _ h=>h) (fun _ _ _ h=>h) (fun g w z=>⟨z.1,fun v hv hw=>?_⟩) hm⟩;obtain⟨h4,h5⟩:=z.2 v hv hw;refine⟨h4,fun hn=>?_⟩;obtain⟨g',h6,m,h7⟩:=h5 hn;exact⟨g',h6,m,dh (fun _ _ h=>h) (fun _ _ _ h=>h) hA h7⟩
theorem Ko(g:Goroutine)(w:World)(hA:Xy p h hp g w):∃ m,Goes Tryz.prog true (RS p) (DS (gm p.B)) (RM Tryz.prog 59 (gm p.B).Wg (RS p) (DS (gm p.B)) (GU p h) (Xy p h hp)) m g w:=by
 obtain⟨T,j,hT,hA⟩:=hA;obtain⟨mT,hm⟩:=Db (h:=h) (hp:=hp) hT;obtain⟨m,hm⟩:=waitRound (L:=link) (P:=Tryz.prog) (G:=gm p.B) (R:=RS p) (F:=xV p hp) (End:=GU p h) (mT:=mT) AK Da Kk (fun w h1 h2=>hm w h1) g w hA;exact⟨m,dh (fun _ _ h=>h) (fun _ _ _ h=>h) (fun g w y=>Km (fun g w z=>⟨T,j,hT,z⟩) y) hm⟩
theorem Wl(x:Value):(#[x]++Array.replicate 83 undef:Array Value)=#[x,undef,undef,undef,undef,undef,undef,undef,undef,undef,undef,undef,undef,undef,undef,undef,undef,undef,undef,undef,undef,undef,undef,undef,undef,undef,undef,undef,undef,undef,undef,undef,undef,undef,undef,undef,undef,undef,undef,undef,undef,undef,undef,undef,undef,undef,undef,undef,undef,undef,undef,undef,undef,undef,undef,undef,undef,undef,undef,undef,undef,undef,undef,undef,undef,undef,undef,undef,undef,undef,undef,undef,undef,undef,undef,undef,undef,undef,undef,undef,undef,undef,undef,undef]:=by
 apply Array.ext';simp only [Array.toList_append,Array.toList_replicate];rfl
theorem Nr(x:Value):Frame.enter Tryz.prog 12 #[x] .normal=(base link.wait).at ⟨#[x,undef,undef,undef,undef,undef,undef,undef,undef,undef,undef,undef,undef,undef,undef,undef,undef,undef,undef,undef,undef,undef,undef,undef,undef,undef,undef,undef,undef,undef,undef,undef,undef,undef,undef,undef,undef,undef,undef,undef,undef,undef,undef,undef,undef,undef,undef,undef,undef,undef,undef,undef,undef,undef,undef,undef,undef,undef,undef,undef,undef,undef,undef,undef,undef,undef,undef,undef,undef,undef,undef,undef,undef,undef,undef,undef,undef,undef,undef,undef,undef,undef,undef,undef],[]⟩ [.code (body_wait link)]:=by
 rw [<- Wl,enter_at (fn:=Tryz.f12) (c:=body_wait link) _ func12 rfl];rfl
def OU(p:kt)(h:Int)(hp:p.Ok):Nat->Goroutine->World->Prop
 | 0=>Xo Tryz.prog (RS p) (DS (gm p.B)) (Xy p h hp)
 | r+1=>Jw Tryz.prog 59 (gm p.B).Wg (RS p) (DS (gm p.B)) (Child (ku p h hp) (p.n-(r+1)+1)) (Jx Tryz.prog 59 (gm p.B).Wg (RS p) (DS (gm p.B)) p.n (fun j=>Child (ku p h hp) (j+1)) (CO.uD (ku p h hp)) r)
theorem Kp{r:Nat}{g:Goroutine}{w:World}(hg:∃ m,Goes Tryz.prog true (RS p) (DS (gm p.B)) (OU p h hp r) m g w):Jx Tryz.prog 59 (gm p.B).Wg (RS p) (DS (gm p.B)) p.n (fun j=>Child (ku p h hp) (j+1)) (CO.uD (ku p h hp)) r g w:=by
 cases r with
 | zero=>exact hg
 | succ r=>exact hg
theorem OW{Q:Goroutine->World->Prop}(hT:FT p j T){b:Bool}(hb:decide ((j:Int)<(p.n:Int))=b){c d:Code}(hq:q4=.seq (.cond (.tmp 33) .skip (.exit 2)) d)(hc:(if b then(.skip:Code) else .exit 2)=c):
  Wk Tryz.prog true (RS p) (DS (gm p.B)) (xV p hp) Q (Go.Conc.G (b4.at ⟨T.setIfInBounds 33 (.bool b),[]⟩ (.code c::.code d::k4)) [tS p h])->Wk Tryz.prog true (RS p) (DS (gm p.B)) (xV p hp) Q (Go.Conc.G (b4.at ⟨T,[]⟩ (.code l4::k4)) [tS p h]):=fun n=>by
 have hs:=hT.size;refine .seq (x:=.region 13 aaA false) (y:=q4) bj (iZ hp) ?_;refine .reg (l:=[0]) bj (iZ hp) rfl ?_;refine .C1 33 (v:=.bool b) (op:=.binOp .lss 3 (.tmp 32) (.tmp 31) 3) bj (iZ hp) af rfl (fun w hk=>by rw [<- hb];exact pn hT.t32 hT.t31) ?_;refine .tn bj (iZ hp) ?_;rw [hq];refine .seq bj (iZ hp) ?_;refine .cond (t:=b) bj (iZ hp) (cM _ _ ae) ?_;rw [hc];exact n
noncomputable def e4:Code:=match q4 with|.seq _ d=>d|_=>.skip
theorem OX:q4=.seq (.cond (.tmp 33) .skip (.exit 2)) e4:=rfl
theorem Kq{P:Program}{a:Act}{E:Event->Prop}{d:Option Nat}{ty:Nat}{pos:String}{aft:Array Edge}{g:Option (Nat×Bool)}{fn:Fn}{cs:Array Operand}{vs:Array Value}(bt:cs.map a.eval=vs):xQ P a ⟨d,.makeFunc fn #[] cs,ty,pos,aft,g⟩ E w (.func fn #[] vs):=by
 have:=Nj (P:=P) (a:=a) (E:=E) (w:=w) (d:=d) (ty:=ty) (pos:=pos) (aft:=aft) (g:=g) (fn:=fn) (fs:=#[]) (cs:=cs);rw [bt] at this;simpa using this
theorem Dc(hn:p.n<2147483648):∀ (r j:Nat) (T:Array Value),j+r=p.n->FT p j T->Wk Tryz.prog true (RS p) (DS (gm p.B)) (xV p hp) (OU p h hp r) (Go.Conc.G (b4.at ⟨T,[]⟩ (.code l4::k4)) [tS p h]):=by
 intro r
 induction r with
 | zero =>
  intro j T hj hT;obtain rfl:j=p.n:=ae;refine OW hT (b:=false) ag OX (c:=.exit 2) rfl ?_;have EX:=hT.set (i:=33) ae (.bool false);generalize T.setIfInBounds 33 (.bool false)=T' at EX ⊢;refine .exit (k':=[.code r4]) bj (iZ hp) rfl ?_;refine .seq (x:=.region 17 C9 false) (y:=GS) bj (iZ hp) ?_;refine .reg (l:=[0]) bj (iZ hp) rfl ?_;have ho:∃ pos,C9[0]?=some ⟨some 37,.call { callee:=.value (.func 12),args:=#[.tmp 9],argTypes:=#[59] },0,pos,#[],none⟩:=⟨_,rfl⟩;obtain⟨pos,ho⟩:=ho;have cn:(#[Operand.tmp 9].map (⟨T',[]⟩:Act).eval)=#[pA (p.B+5)]:=by
   rw [<- EX.t9];simp [Act.eval]
  refine .call (b:=b4) (a:=⟨T',[]⟩) (f:=12) (fn:=Tryz.f12) (c:=body_wait link) bj (iZ hp) af ho rfl rfl func12 ah rfl ?_;rw [cn,Nr];refine .of (m:=3) fun w hk=>?_;have:=waitStart (L:=link) (P:=Tryz.prog) (G:=gm p.B) (R:=RS p) (F:=xV p hp) (b₀:=b4) (a₀:=⟨T',[]⟩) (ops₀:=C9) (i₀:=0) (rest₀:=[]) (k₀:=[.code GS]) (cs:=[tS p h]) AK Da w ⟨hk,hk.1.live⟩;refine dh (fun _ _ h=>h) (fun _ _ _ h=>h) (fun g w y=>?_) this;obtain⟨y1,g',y2,m,y3⟩:=y;exact⟨y1,g',y2,m,dh (fun _ _ h=>h) (fun _ _ _ h=>h) (fun g w z=>⟨T',_,EX,z⟩) y3⟩
 | succ r ih =>
  intro j T hj hT;refine OW hT (b:=true) (by simp;omega) OX (c:=.skip) rfl ?_;have EX:=hT.set (i:=33) ae (.bool true);generalize T.setIfInBounds 33 (.bool true)=T' at EX ⊢;refine .skip bj (iZ hp) ?_;refine .seq (x:=.block 3 (.seq (.region 14 GQ false) (.region 15 GR false))) (y:=.region 16 Kj false) bj (iZ hp) ?_;refine .block bj (iZ hp) ?_;refine .seq bj (iZ hp) ?_;refine .reg (l:=[0]) bj (iZ hp) rfl ?_;have ho:∃ pos,GQ[0]?=some ⟨some 34,.call { callee:=.value (.func 8),args:=#[.tmp 9,.const (.int .i64 1)],argTypes:=#[59,3] },0,pos,#[],none⟩:=⟨_,rfl⟩;obtain⟨pos,ho⟩:=ho;have cn:(#[Operand.tmp 9,Operand.const (.int .i64 1)].map (⟨T',[]⟩:Act).eval)=#[pA (p.B+5),.int .i64 1]:=by
   rw [<- EX.t9];simp [Act.eval]
  refine .call (b:=b4) (a:=⟨T',[]⟩) (f:=8) (fn:=Tryz.f8) (c:=body_add link) bj (iZ hp) af ho rfl rfl func8 ah rfl ?_;rw [cn,Ki];have hgo:Wk Tryz.prog true (RS p) (DS (gm p.B)) (xV p hp) (Xp Tryz.prog (Child (ku p h hp) (p.n-(r+1)+1)) (Jx Tryz.prog 59 (gm p.B).Wg (RS p) (DS (gm p.B)) p.n (fun j=>Child (ku p h hp) (j+1)) (CO.uD (ku p h hp)) r)) (Go.Conc.G (b4.at ((⟨T',[]⟩:Act).put ((GQ[0]?).bind (·.dst)) (.tuple #[])) (.inRegion GQ []::[.code (.region 15 GR false),.inBlock 3,.code (.region 16 Kj false),.inLoop l4,.inBlock 2,.code r4])) [tS p h]):=by
   have oI:=EX.set (i:=34) ae (.tuple #[]);change Wk Tryz.prog true (RS p) (DS (gm p.B)) (xV p hp) _ (Go.Conc.G (b4.at ⟨T'.setIfInBounds 34 (.tuple #[]),[]⟩ (.inRegion GQ []::[.code (.region 15 GR false),.inBlock 3,.code (.region 16 Kj false),.inLoop l4,.inBlock 2,.code r4])) [tS p h]);generalize T'.setIfInBounds 34 (.tuple #[])=T2 at oI ⊢;refine .tn bj (iZ hp) ?_;refine .reg (l:=[0,1]) bj (iZ hp) rfl ?_;have bt:(#[Operand.tmp 7,Operand.tmp 3,Operand.tmp 6,Operand.tmp 9].map (⟨T2,[]⟩:Act).eval)=#[pA (p.B+4),pA p.B,pA (p.B+2),pA (p.B+5)]:=by
    rw [<- oI.t7,<-oI.t3,<-oI.t6,<-oI.t9];simp [Act.eval]
   have F1:=oI.size;refine .C1 35 (v:=.func (.func 9) #[] #[pA (p.B+4),pA p.B,pA (p.B+2),pA (p.B+5)]) (op:=.makeFunc (.func 9) #[] #[.tmp 7,.tmp 3,.tmp 6,.tmp 9]) bj (iZ hp) af rfl (fun w hk=>Kq bt) ?_;have Xz:=oI.set (i:=35) ae (.func (.func 9) #[] #[pA (p.B+4),pA p.B,pA (p.B+2),pA (p.B+5)]);have h35:(T2.setIfInBounds 35 (.func (.func 9) #[] #[pA (p.B+4),pA p.B,pA (p.B+2),pA (p.B+5)])).getD 35 undef=.func (.func 9) #[] #[pA (p.B+4),pA p.B,pA (p.B+2),pA (p.B+5)]:=cM _ _ ae;generalize T2.setIfInBounds 35 (.func (.func 9) #[] #[pA (p.B+4),pA p.B,pA (p.B+2),pA (p.B+5)])=T3 at Xz h35 ⊢;refine .stop bj fun w hk=>⟨rfl,?_⟩;have Sd:∃ pos aft,GR[1]?=some ⟨none,.go { callee:=.value (.tmp 35),args:=#[],argTypes:=#[] },0,pos,aft,none⟩:=⟨_,_,rfl⟩;obtain⟨Se,Sf,Sd⟩:=Sd;have V1:(⟨T3,[]⟩:Act).eval (.tmp 35)=.func (.func 9) #[] #[pA (p.B+4),pA p.B,pA (p.B+2),pA (p.B+5)]:=h35;have aD:(execOp (⟨T3,[]⟩:Act).eval ⟨none,.go { callee:=.value (.tmp 35),args:=#[],argTypes:=#[] },0,Se,Sf,none⟩).run Tryz.prog w=.ok (.spawn (call9 p.B)) w/\(execOp (⟨T3,[]⟩:Act).eval ⟨none,.go { callee:=.value (.tmp 35),args:=#[],argTypes:=#[] },0,Se,Sf,none⟩).events Tryz.prog w #[]=#[]:=by
    have Wm:T3[35]?.getD undef=.func (.func 9) #[] #[pA (p.B+4),pA p.B,pA (p.B+2),pA (p.B+5)]:=by rw [<- ahA];exact h35
    unfold execOp;constructor
    ·simp [go_sem,call9,Deferred.ofValue,Wm]
    ·simp [go_sem,Deferred.ofValue,Wm]
   obtain⟨NV,Rp⟩:=aD;obtain⟨mc,hc⟩:=C8.at w hk.1;refine⟨_,_,by rw [stepG_spawn Sd rfl af NV rfl];unfold listed;rw [Rp,Go.Conc.seen_none],rfl,⟨mc,hc⟩,Kp ?_⟩;refine Wk.at (K:=xV p hp) ?_ w hk;change Wk Tryz.prog true (RS p) (DS (gm p.B)) (xV p hp) _ (Go.Conc.G (b4.at ⟨T3,[]⟩ (.inRegion GR []::[.inBlock 3,.code (.region 16 Kj false),.inLoop l4,.inBlock 2,.code r4])) [tS p h]);refine .tn bj (iZ hp) ?_;refine .inBlock bj (iZ hp) ?_;refine .reg (l:=[0,1]) bj (iZ hp) rfl ?_;have Ax:IntKind.i64.wrap ((j:Int)+1)=((j+1:Nat):Int):=by rw [IntKind.wrap_i64];omega
   refine .C1 36 (v:=.int .i64 ((j+1:Nat):Int)) (op:=.binOp .add 3 (.tmp 32) (.const (.int .i64 1)) 3) bj (iZ hp) af rfl (fun w hk=>by rw [<- Ax];exact J6 Xz.t32 rfl) ?_;have hs3:=Xz.size;have hT4:=Xz.set (i:=36) ae (.int .i64 ((j+1:Nat):Int));have h36:(T3.setIfInBounds 36 (.int .i64 ((j+1:Nat):Int))).getD 36 undef=.int .i64 ((j+1:Nat):Int):=cM _ _ ae;generalize T3.setIfInBounds 36 (.int .i64 ((j+1:Nat):Int))=T4 at hT4 h36 ⊢;refine .C1 32 (v:=.int .i64 ((j+1:Nat):Int)) (op:=.move (.tmp 36)) bj (iZ hp) af rfl (fun w hk=>bY h36) ?_;have hT5:=hT4.next;generalize T4.setIfInBounds 32 (.int .i64 ((j+1:Nat):Int))=T5 at hT5 ⊢;refine .tn bj (iZ hp) ?_;refine .inLoop bj (iZ hp) ?_;exact ih (j+1) T5 ae hT5
  obtain⟨mT,hmT⟩:=hgo;refine .of (m:=12) fun w hk=>?_;have key:=CO.addPos (L:=link) (P:=Tryz.prog) (G:=gm p.B) (R:=RS p) (F:=xV p hp) (b₀:=b4) (a₀:=⟨T',[]⟩) (ops₀:=GQ) (i₀:=0) (rest₀:=[]) (k₀:=[.code (.region 15 GR false),.inBlock 3,.code (.region 16 Kj false),.inLoop l4,.inBlock 2,.code r4]) (cs:=[tS p h]) (mT:=mT) AK Da Kk (fun w h1 h2=>hmT w h1) w ⟨hk,hk.1.live⟩;show Goes Tryz.prog true (RS p) (DS (gm p.B)) (Jw Tryz.prog 59 (gm p.B).Wg (RS p) (DS (gm p.B)) (Child (ku p h hp) (p.n-(r+1)+1)) (Jx Tryz.prog 59 (gm p.B).Wg (RS p) (DS (gm p.B)) p.n (fun j=>Child (ku p h hp) (j+1)) (CO.uD (ku p h hp)) r)) 12 _ w;exact key
end
end Go.Proofs.YtmbbagbhmjaedaaGreatDoor
