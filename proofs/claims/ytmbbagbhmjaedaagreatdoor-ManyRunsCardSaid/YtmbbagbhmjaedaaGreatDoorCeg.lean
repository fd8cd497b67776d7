/- Part of the proof. -/
import Derived.Test.YtmbbagbhmjaedaaGreatDoorCef
set_option linter.all false
set_option maxRecDepth 10000
set_option maxHeartbeats 3200000
namespace Go.Proofs.YtmbbagbhmjaedaaGreatDoor
open Go CO Go.Conc Go.ConcN Go.RowKit Tryz
variable {cap:Nat}{cs:List Frame}{Q:Goroutine->World->Prop}
noncomputable def o30:Array Oper:=match vM with|.seq (.region _ o _) _=>o|_=>#[]
theorem aaG(x y:Value):Frame.enter Tryz.prog 3 #[x,y] .normal=b3.at ⟨#[x,y]++Array.replicate 93 undef,[]⟩ [.code vM]:=by
 rw [enter_at (fn:=Tryz.f3) (c:=vM) _ func3 rfl];rfl
theorem Sk(x y:Value):Frame.enter Tryz.prog 4 #[x,y] .normal=b4.at ⟨#[x,y]++Array.replicate 37 undef,[]⟩ [.code vN]:=by
 rw [enter_at (fn:=Tryz.f4) (c:=vN) _ func4 rfl];rfl
section
variable {p:kt} {h:Int} {G:cz} {w:World}
theorem Wn(n:PrefTo Tryz.prog G (Go.Conc.G (Frame.enter Tryz.prog 4 #[.int .i64 h,p.vJ] .normal) [tS p h]) w Q):PrefTo Tryz.prog G (Go.Conc.G (Frame.enter Tryz.prog 3 #[.int .i64 h,p.vJ] .normal) []) w Q:=by
 rw [aaG];have hs:(#[Value.int .i64 h,p.vJ]++Array.replicate 93 undef).size=95:=ag;have g0:(#[Value.int .i64 h,p.vJ]++Array.replicate 93 undef).getD 0 undef=.int .i64 h:=by simp [ahA]
 have g1:(#[Value.int .i64 h,p.vJ]++Array.replicate 93 undef).getD 1 undef=p.vJ:=by simp [ahA]
 have hT:uH p h=((((#[Value.int .i64 h,p.vJ]++Array.replicate 93 undef).setIfInBounds 4 (.bool false)).setIfInBounds 18 (.int .i64 h)).setIfInBounds 19 p.vJ):=rfl;unfold tS at n;rw [hT] at n;generalize (#[Value.int .i64 h,p.vJ]++Array.replicate 93 undef)=T at hs g0 g1 n ⊢;have hT:=((TS.nil hs).add 0 g0).add 1 g1;refine .fh (x:=.region 0 o30 false) (y:=.seq (.region 1 EY false) c3) ?_;refine .iU (l:=[0]) rfl ?_;refine .cV 4 (v:=.bool false) (op:=.assign (.const (.bool false))) rfl af (bH rfl) ?_;refine .iV ?_;refine .fh ?_;refine .iU (l:=[0,1,2,3,4,5,6,7]) rfl ?_;replace hT:=hT.set 4 (.bool false) rfl;generalize T.setIfInBounds 4 (.bool false)=T at hT n ⊢;refine .cV 18 (v:=.int .i64 h) (op:=.move (.tmp 0)) rfl af (bY (hT.get 0 rfl)) ?_;replace hT:=hT.set 18 (.int .i64 h) rfl;generalize T.setIfInBounds 18 (.int .i64 h)=T at hT n ⊢;refine .cV 19 (v:=p.vJ) (op:=.move (.tmp 1)) rfl af (bY (hT.get 1 rfl)) ?_;replace hT:=hT.set 19 (p.vJ) rfl;generalize T.setIfInBounds 19 p.vJ=T at hT n ⊢;have ho:∃ pos aft,EY[2]?=some ⟨some 20,.call { callee:=.value (.func 4),args:=#[.tmp 18,.tmp 19],argTypes:=#[3,22] },25,pos,aft,none⟩:=⟨_,_,rfl⟩;obtain⟨pos,aft,ho⟩:=ho;have cn:(#[Operand.tmp 18,Operand.tmp 19].map (⟨T,[]⟩:Act).eval)=#[.int .i64 h,p.vJ]:=by
  rw [<- (hT.get 18 rfl),<-(hT.get 19 rfl)];simp [Act.eval]
 refine .qp (.call (f:=4) (fn:=Tryz.f4) (c:=vN) ho af func4 ah rfl) ?_;rw [cn];exact n
noncomputable def o40:Array Oper:=match vN with|.seq (.region _ o _) _=>o|_=>#[]
noncomputable def Tj:Code:=match vN with|.seq _ r=>r|_=>.skip
noncomputable def Hh:Array Oper:=match Tj with|.seq (.seq (.region _ o _) _) _=>o|_=>#[]
noncomputable def i41:Code:=match Tj with|.seq (.seq _ c) _=>c|_=>.skip
noncomputable def Wo:Code:=match Tj with|.seq _ r=>r|_=>.skip
noncomputable def o42:Array Oper:=match i41 with|.cond _ (.seq (.region _ o _) _) _=>o|_=>#[]
theorem Df:i41=.cond (.tmp 15) (.seq (.region 2 o42 false) .ret) .skip:=rfl
noncomputable def o43:Array Oper:=match Wo with|.seq (.region _ o _) _=>o|_=>#[]
noncomputable def r43:Code:=match Wo with|.seq _ r=>r|_=>.skip
noncomputable def o44:Array Oper:=match r43 with|.seq (.region _ o _) _=>o|_=>#[]
noncomputable def XA:Code:=match r43 with|.seq _ r=>r|_=>.skip
noncomputable def o45:Array Oper:=match XA with|.seq (.seq (.region _ o _) _) _=>o|_=>#[]
noncomputable def OY:Code:=match XA with|.seq (.seq _ (.block _ (.loop c))) _=>c|_=>.skip
noncomputable def Sm:Code:=match XA with|.seq _ r=>r|_=>.skip
structure FS(p:kt)(h:Int)(j:Nat)(T:Array Value):Prop where
 size:T.size=39
 t0:T.getD 0 undef=.int .i64 h
 t3:T.getD 3 undef=pA p.B
 t6:T.getD 6 undef=pA (p.B+2)
 t7:T.getD 7 undef=pA (p.B+4)
 t23:T.getD 23 undef=.int .i64 p.N
 t24:T.getD 24 undef=.int .i64 j
theorem Sn:(Tryz.prog.info? 23).map (fun i=>i.zero)=some (some (.slice none 0 0)):=ah
theorem Sp:(Tryz.prog.info? 49).map (fun i=>i.zero)=some (some (.chan none)):=ah
theorem Wp:(Tryz.prog.info? 3).map (fun i=>i.bytes)=some 8:=ah
theorem Wq:(Tryz.prog.info? 46).map (fun i=>(i.zero,i.size,i.bytes))=some (some (.agg #[.slice none 0 0,.slice none 0 0]),2,48):=ah
section
variable {iD:TypeInfo} {zD:Value} (OZ:Tryz.prog.info? 46=some iD) (Ns:iD.zero=some zD) (O0:iD.bytes=48) (hN:p.N*48<=281474976710656) {T:Array Value} (O1:T.getD 17 undef=.int .i64 p.N)
include OZ Ns O0 hN in
theorem mk1{ty:Nat}{pos:String}{aft:Array Edge}{g:Option (Nat×Bool)}(O1:T.getD 17 undef=.int .i64 p.N)(w:World):(execOp (⟨T,[]⟩:Act).eval ⟨some 18,.makeSlice 23 (.tmp 17) (.tmp 17),ty,pos,aft,g⟩).run Tryz.prog w=.ok (.value (.slice (some ⟨w.heap.size,0,none⟩) p.N p.N)) (w.alloc (.cells (madeCells zD.cells ((p.N:Int).toNat*iD.size)) 46 (0,0))):=by
 have hx:(⟨T,[]⟩:Act).eval (.tmp 17)=.int .i64 p.N:=O1;have:=run_make (P:=Tryz.prog) w 23 46 iD zD underlying23 OZ Ns .i64 .i64 p.N p.N ae ae (by rw [O0];omega) ae;simp only [execOp,hx];simp [this]
include OZ Ns O0 hN in
theorem mk2{ty:Nat}{pos:String}{aft:Array Edge}{g:Option (Nat×Bool)}{B:Nat}(O1:T.getD 17 undef=.int .i64 p.N)(w:World):∀ e∈(execOp (⟨T,[]⟩:Act).eval ⟨some 18,.makeSlice 23 (.tmp 17) (.tmp 17),ty,pos,aft,g⟩).events Tryz.prog w #[],J7 G B e:=fun e he=>by
 have hx:(⟨T,[]⟩:Act).eval (.tmp 17)=.int .i64 p.N:=O1;have h1:=run_make (P:=Tryz.prog) w 23 46 iD zD underlying23 OZ Ns .i64 .i64 p.N p.N ae ae (by rw [O0];omega) ae;have h2:=J9 (P:=Tryz.prog) (w:=w) 23 46 iD zD underlying23 OZ Ns p.N ae (by rw [O0];omega) ae;simp only [execOp,hx] at he;simp [h1] at he;exact .inr (.inr ⟨0,.inr (h2 e he)⟩)
end
theorem aaM(hB:w.heap.size=p.B)(h1:decide (h<1)=false)(h8:decide (8<h)=false){ad:Option Addr}(hJ:p.vJ=.slice ad p.N cap)(hN:p.N*48<=281474976710656):PrefTo Tryz.prog (gm p.B) (Go.Conc.G (Frame.enter Tryz.prog 4 #[.int .i64 h,p.vJ] .normal) cs) w fun a' w'=>∃ T row,a'=Go.Conc.G (b4.at ⟨T,[]⟩ [.code OY,.inLoop OY,.inBlock 0,.code Sm]) cs/\FS p h 0 T/\Lay w [.cells #[p.vJ] 22 (0,0),.cells (madeCells row (p.N*2)) 46 (0,0),.cells #[sO p] 23 (0,0),.chan p.N #[] false 0 0 false,.cells #[.chan (some (p.B+3))] 49 (0,0)] w':=by
 rw [Sk];have hv:p.vJ.cells=#[p.vJ]:=by rw [hJ];rfl
 obtain⟨iD,OZ,KZ⟩:=ahs.1 Wq;simp only [Prod.mk.injEq] at KZ;obtain⟨Ns,hsD,O0⟩:=KZ;generalize ur:Value.agg #[.slice none 0 0,.slice none 0 0]=zD at Ns;have mk1:=fun{T:Array Value} {ty:Nat} {pos:String} {aft:Array Edge} {g:Option (Nat×Bool)} (O1:T.getD 17 undef=.int .i64 p.N) (w:World)=>mk1 (T:=T) (ty:=ty) (pos:=pos) (aft:=aft) (g:=g) OZ Ns O0 hN O1 w;have mk2:=fun{T:Array Value} {ty:Nat} {pos:String} {aft:Array Edge} {g:Option (Nat×Bool)} {B:Nat} (O1:T.getD 17 undef=.int .i64 p.N) (w:World)=>mk2 (G:=gm p.B) (T:=T) (ty:=ty) (pos:=pos) (aft:=aft) (g:=g) (B:=B) OZ Ns O0 hN O1 w;obtain⟨i23,Ws,Wt⟩:=ahs.1 Sn;obtain⟨i49,Wu,Wv⟩:=ahs.1 Sp;obtain⟨iI,hiI,hbI⟩:=ahs.1 Wp;have ch1:∀ {T:Array Value} {ty:Nat} {pos:String} {aft:Array Edge} {g:Option (Nat×Bool)},T.getD 20 undef=.int .i64 p.N->∀ w:World,(execOp (⟨T,[]⟩:Act).eval ⟨some 21,.makeChan 49 (.tmp 20),ty,pos,aft,g⟩).run Tryz.prog w=.ok (.value (.chan (some w.heap.size))) (w.alloc (.chan p.N #[] false 0 0 false)):=fun{T ty pos aft g} h20 w=>by
  have hx:(⟨T,[]⟩:Act).eval (.tmp 20)=.int .i64 p.N:=h20;have:=run_makeChan (P:=Tryz.prog) (w:=w) underlying49 hiI .i64 p.N ae (by rw [hbI];omega);simp only [execOp,hx];simp [this]
 have ch2:∀ {T:Array Value} {ty:Nat} {pos:String} {aft:Array Edge} {g:Option (Nat×Bool)},T.getD 20 undef=.int .i64 p.N->∀ w:World,(execOp (⟨T,[]⟩:Act).eval ⟨some 21,.makeChan 49 (.tmp 20),ty,pos,aft,g⟩).events Tryz.prog w #[]=#[]:=fun{T ty pos aft g} h20 w=>by
  have hx:(⟨T,[]⟩:Act).eval (.tmp 20)=.int .i64 p.N:=h20;have:=run_makeChan (P:=Tryz.prog) (w:=w) underlying49 hiI .i64 p.N ae (by rw [hbI];omega);have h2:=events_makeChan (P:=Tryz.prog) (w:=w) underlying49 hiI .i64 p.N ae (by rw [hbI];omega) #[];simp only [execOp,hx];simp [this,h2]
 have s0:(#[Value.int .i64 h,p.vJ]++Array.replicate 37 undef).size=39:=ag;have g0:(#[Value.int .i64 h,p.vJ]++Array.replicate 37 undef).getD 0 undef=.int .i64 h:=by simp [ahA]
 have g1:(#[Value.int .i64 h,p.vJ]++Array.replicate 37 undef).getD 1 undef=p.vJ:=by simp [ahA]
 generalize (#[Value.int .i64 h,p.vJ]++Array.replicate 37 undef)=T at s0 g0 g1 ⊢;have hT:=((TS.nil s0).add 0 g0).add 1 g1;refine .fh (x:=.region 0 o40 false) (y:=Tj) ?_;refine .iU (l:=[0,1,2]) rfl ?_;refine .cW 3 (v:=pA w.heap.size) (op:=.box 22 (.tmp 1)) rfl af ⟨(jD (a:=⟨T,[]⟩) (x:=.tmp 1) (hT.get 1 rfl) hv).1,fun e he=>by rw [(jD (a:=⟨T,[]⟩) (x:=.tmp 1) (hT.get 1 rfl) hv).2] at he;simp at he⟩ ag ?_;have L1:=(Lay.nil w).alloc (.cells #[p.vJ] 22 (0,0));generalize w.alloc (.cells #[p.vJ] 22 (0,0))=w1 at L1 ⊢;have z1:w1.heap.size=p.B+1:=by rw [L1.size,hB];rfl
 rw [hB];replace hT:=hT.set 3 (pA p.B) rfl;generalize T.setIfInBounds 3 (pA p.B)=T at hT ⊢;refine .tV hT 4 (v:=.slice none 0 0) rfl rfl af (bH rfl) fun T hT=>?_;refine .tV hT 5 (v:=.int .i64 0) rfl rfl af (bH rfl) fun T hT=>?_;refine .iV ?_;refine .fh (x:=.seq (.region 1 Hh false) i41) (y:=Wo) ?_;refine .fh (x:=.region 1 Hh false) (y:=i41) ?_;refine .iU (l:=[0,1,2,3,4,5]) rfl ?_;refine .tV hT 10 (v:=.int .i64 h) rfl rfl af (bY (hT.get 0 rfl)) fun T hT=>?_;refine .tV hT 11 (v:=.bool false) rfl rfl af (by rw [<- h1];exact pn (hT.get 10 rfl) rfl) fun T hT=>?_;refine .tV hT 12 (v:=.bool false) rfl rfl af (bY (hT.get 11 rfl)) fun T hT=>?_;refine .qp (Pref.V3 13 (v:=.int .i64 h) (op:=.move (.tmp 0)) (gd:=some (2,false)) rfl (by show(yielded Hh _ 2==some false)=true;rw [yl rfl (hT.get 12 rfl)];rfl) af (bY (hT.get 0 rfl))) ?_;replace hT:=hT.set 13 (.int .i64 h) rfl;generalize T.setIfInBounds 13 (.int .i64 h)=T at hT ⊢;refine .qp (Pref.V3 14 (v:=.bool false) (op:=.binOp .gtr 3 (.tmp 13) (.const (.int .i64 8)) 3) (gd:=some (2,false)) rfl (by show(yielded Hh _ 2==some false)=true;rw [yl rfl (hT.get 12 rfl)];rfl) af (by rw [<- h8];exact J8 (hT.get 13 rfl) rfl)) ?_;replace hT:=hT.set 14 (.bool false) rfl;generalize T.setIfInBounds 14 (.bool false)=T at hT ⊢;refine .tV hT 15 (v:=.bool false) rfl rfl af (xS (hT.get 12 rfl) (by simp only [ahD,if_false];exact(hT.get 14 rfl))) fun T hT=>?_;refine .iV ?_;rw [Df];refine .AH (t:=false) (hT.get 15 rfl) ?_;simp only [ahD,if_false];refine .OL ?_;refine .fh (x:=.region 3 o43 false) (y:=r43) ?_;refine .iU (l:=[0,1,2,3,4]) rfl ?_;have c0:w1.cell? ⟨p.B,0,none⟩=some p.vJ:=by have:=L1.cell (i:=0) rfl 0;rw [hB] at this;simpa using this
 refine .tV hT 16 (v:=p.vJ) rfl rfl af (eI underlying22 rfl (hT.get 3 rfl) c0 (.inl ⟨_,_,rfl,by simp only [gm];omega,by simp only [gm];omega,by simp only [];omega⟩)) fun T hT=>?_;refine .tV hT 17 (v:=.int .i64 p.N) rfl rfl af (C2 (rt:=0) underlying22 ((hT.get 16 rfl).trans hJ)) fun T hT=>?_;refine .cW 18 (v:=.slice (some ⟨w1.heap.size,0,none⟩) p.N p.N) (op:=.makeSlice 23 (.tmp 17) (.tmp 17)) rfl af ⟨mk1 (hT.get 17 rfl) w1,fun e he=>mk2 (hT.get 17 rfl) w1 e he⟩ ag ?_;have L2:=L1.alloc (.cells (madeCells zD.cells ((p.N:Int).toNat*iD.size)) 46 (0,0));generalize w1.alloc (.cells (madeCells zD.cells ((p.N:Int).toNat*iD.size)) 46 (0,0))=w2 at L2 ⊢;have z2:w2.heap.size=p.B+2:=by rw [L2.size,hB];rfl
 rw [z1,show(Value.slice (some ⟨p.B+1,0,none⟩) p.N p.N)=sO p from rfl];replace hT:=hT.set 18 (sO p) rfl;generalize T.setIfInBounds 18 (sO p)=T at hT ⊢;refine .cW 6 (v:=pA w2.heap.size) (op:=.alloc 23) rfl af ⟨(fg (a:=⟨T,[]⟩) Ws Wt).1,fun e he=>by rw [(fg (a:=⟨T,[]⟩) Ws Wt).2] at he;simp at he⟩ ag ?_;have L3:=L2.alloc (.cells (Value.slice none 0 0).cells 23 (0,0));generalize w2.alloc (.cells (Value.slice none 0 0).cells 23 (0,0))=w3 at L3 ⊢;have z3:w3.heap.size=p.B+3:=by rw [L3.size,hB];rfl
 rw [z2];replace hT:=hT.set 6 ((pA (p.B+2))) rfl;generalize T.setIfInBounds 6 (pA (p.B+2))=T at hT ⊢;have hg3:w3.heap[p.B+2]?=some (.cells #[.slice none 0 0] 23 (0,0)):=by have:=L3.at_ 2 _ rfl;rw [hB] at this;exact this
 obtain⟨q1,q2⟩:=tt (P:=Tryz.prog) (a:=⟨T,[]⟩) (w:=w3) (d:=none) (ty:=0) (pos := "many.go:16") (aft:=o43[4]!.after) (g:=none) (t:=23) (x:=.tmp 6) (y:=.tmp 18) (b:=p.B+2) (o:=0) (v:=sO p) ah (hT.get 6 rfl) (hT.get 18 rfl) rfl rfl hg3 af;refine .cS (op:=.store 23 (.tmp 6) (.tmp 18)) rfl af ⟨.inl q1,fun e he=>by replace he:=q2▸he;simp at he;subst he;exact .inl ⟨_,_,rfl,by simp only [gm];omega,by simp only [gm];omega,by simp;omega⟩⟩ ag ?_;clear q1 q2;have L4:=L3.setRow (i:=2) rfl (#[Value.slice none 0 0].setIfInBounds 0 (sO p));rw [hB] at L4;generalize w3.setRow (p.B+2) (#[Value.slice none 0 0].setIfInBounds 0 (sO p))=w4 at L4 ⊢;have z4:w4.heap.size=p.B+3:=by rw [L4.size,hB];rfl
 refine .iV ?_;refine .fh (x:=.region 4 o44 false) (y:=XA) ?_;refine .iU (l:=[0,1,2,3,4]) rfl ?_;have c1:w4.cell? ⟨p.B,0,none⟩=some p.vJ:=by have:=L4.cell (i:=0) rfl 0;rw [hB] at this;simpa using this
 refine .tV hT 19 (v:=p.vJ) rfl rfl af (eI underlying22 rfl (hT.get 3 rfl) c1 (.inl ⟨_,_,rfl,by simp only [gm];omega,by simp only [gm];omega,by simp only [];omega⟩)) fun T hT=>?_;refine .tV hT 20 (v:=.int .i64 p.N) rfl rfl af (C2 (rt:=0) underlying22 ((hT.get 19 rfl).trans hJ)) fun T hT=>?_;refine .cW 21 (v:=.chan (some w4.heap.size)) (op:=.makeChan 49 (.tmp 20)) rfl af ⟨ch1 (hT.get 20 rfl) w4,fun e he=>by rw [ch2 (hT.get 20 rfl) w4] at he;simp at he⟩ ag ?_;have L5:=L4.alloc (.chan p.N #[] false 0 0 false);generalize w4.alloc (.chan p.N #[] false 0 0 false)=w5 at L5 ⊢;have z5:w5.heap.size=p.B+4:=by rw [L5.size,hB];rfl
 rw [z4];replace hT:=hT.set 21 ((.chan (some (p.B+3)))) rfl;generalize T.setIfInBounds 21 (.chan (some (p.B+3)))=T at hT ⊢;refine .cW 7 (v:=pA w5.heap.size) (op:=.alloc 49) rfl af ⟨(fg (a:=⟨T,[]⟩) Wu Wv).1,fun e he=>by rw [(fg (a:=⟨T,[]⟩) Wu Wv).2] at he;simp at he⟩ ag ?_;have L6:=L5.alloc (.cells (Value.chan none).cells 49 (0,0));generalize w5.alloc (.cells (Value.chan none).cells 49 (0,0))=w6 at L6 ⊢;have z6:w6.heap.size=p.B+5:=by rw [L6.size,hB];rfl
 rw [z5];replace hT:=hT.set 7 ((pA (p.B+4))) rfl;generalize T.setIfInBounds 7 (pA (p.B+4))=T at hT ⊢;have hg6:w6.heap[p.B+4]?=some (.cells #[.chan none] 49 (0,0)):=by have:=L6.at_ 4 _ rfl;rw [hB] at this;exact this
 obtain⟨q1,q2⟩:=tt (P:=Tryz.prog) (a:=⟨T,[]⟩) (w:=w6) (d:=none) (ty:=0) (pos := "many.go:17") (aft:=o44[4]!.after) (g:=none) (t:=49) (x:=.tmp 7) (y:=.tmp 21) (b:=p.B+4) (o:=0) (v:=.chan (some (p.B+3))) ah (hT.get 7 rfl) (hT.get 21 rfl) rfl rfl hg6 af;refine .cS (op:=.store 49 (.tmp 7) (.tmp 21)) rfl af ⟨.inl q1,fun e he=>by replace he:=q2▸he;simp at he;subst he;exact .inl ⟨_,_,rfl,by simp only [gm];omega,by simp only [gm];omega,by simp;omega⟩⟩ ag ?_;clear q1 q2;have L7:=L6.setRow (i:=4) rfl (#[Value.chan none].setIfInBounds 0 (.chan (some (p.B+3))));rw [hB] at L7;generalize w6.setRow (p.B+4) (#[Value.chan none].setIfInBounds 0 (.chan (some (p.B+3))))=w7 at L7 ⊢;have z7:w7.heap.size=p.B+5:=by rw [L7.size,hB];rfl
 refine .iV ?_;refine .fh (x:=.seq (.region 5 o45 false) (.block 0 (.loop OY))) (y:=Sm) ?_;refine .fh (x:=.region 5 o45 false) (y:=.block 0 (.loop OY)) ?_;refine .iU (l:=[0,1,2]) rfl ?_;have c2:w7.cell? ⟨p.B,0,none⟩=some p.vJ:=by have:=L7.cell (i:=0) rfl 0;rw [hB] at this;simpa using this
 refine .tV hT 22 (v:=p.vJ) rfl rfl af (eI underlying22 rfl (hT.get 3 rfl) c2 (.inl ⟨_,_,rfl,by simp only [gm];omega,by simp only [gm];omega,by simp only [];omega⟩)) fun T hT=>?_;refine .tV hT 23 (v:=.int .i64 p.N) rfl rfl af (C2 (rt:=0) underlying22 ((hT.get 22 rfl).trans hJ)) fun T hT=>?_;refine .tV hT 24 (v:=.int .i64 0) rfl rfl af (bY rfl) fun T hT=>?_;refine .iV ?_;refine .C3 ?_;refine .OK ?_;have eN:((p.N:Int).toNat*iD.size)=p.N*2:=by rw [hsD];simp
 rw [eN] at L7;exact .stop ⟨_,zD.cells,rfl,⟨hT.size,(hT.get 0 rfl),(hT.get 3 rfl),(hT.get 6 rfl),(hT.get 7 rfl),(hT.get 23 rfl),(hT.get 24 rfl)⟩,L7⟩
noncomputable def o46:Array Oper:=match OY with|.seq (.region _ o _) _=>o|_=>#[]
noncomputable def r46:Code:=match OY with|.seq _ r=>r|_=>.skip
noncomputable def Ww:Code:=match r46 with|.seq _ r=>r|_=>.skip
noncomputable def o47:Array Oper:=match Ww with|.seq (.block _ (.seq (.region _ o _) _)) _=>o|_=>#[]
noncomputable def XB:Array Oper:=match Ww with|.seq (.block _ (.seq _ (.region _ o _))) _=>o|_=>#[]
noncomputable def o49:Array Oper:=match Ww with|.seq _ (.region _ o _)=>o|_=>#[]
def xW(j:Nat):Array Value:=((List.range j).map fun q:Nat=>Value.int .i64 q).toArray
theorem Kr(j:Nat):(xW j).size=j:=by simp [xW]
theorem Ks(j:Nat):xW (j+1)=(xW j).push (.int .i64 j):=by
 unfold xW;rw [List.range_succ,ah0];simp
theorem GW{A:Array Value}{k:List Item}{cs:List Frame}{c s r:Nat}{buf:Array Value}{tm:Bool}{v:Value}(g27:A.getD 27 undef=.chan (some c))(g28:A.getD 28 undef=v)(hc:w.heap[c]?=some (.chan cap buf false s r tm))(fY:buf.size<cap):
  Pref Tryz.prog G (Go.Conc.G (b4.at ⟨A,[]⟩ (.inRegion XB [2]::k)) cs) w (Go.Conc.G (b4.at ⟨A,[]⟩ (.inRegion XB []::k)) cs) (w.setChan c cap (buf.push v) false (s+1) r tm):=by
 have ho:∃ pos aft,XB[2]?=some ⟨none,.send (.tmp 27) (.tmp 28),0,pos,aft,none⟩:=⟨_,_,rfl⟩;obtain⟨pos,aft,ho⟩:=ho;have hx:(⟨A,[]⟩:Act).eval (.tmp 27)=.chan (some c):=g27;have hy:(⟨A,[]⟩:Act).eval (.tmp 28)=v:=g28;have h1:=stepG_comm (P:=Tryz.prog) (main:=true) (b:=b4) (a:=⟨A,[]⟩) (rest:=[]) (k:=k) (cs:=cs) (w:=w) (cases:=#[scase c v (.tuple #[])]) (blocking:=true) (shape:=.send) (w':=w) ho rfl af (by simp only [execOp,hx,hy];simp [scase]);have h2:listed Tryz.prog b4.fn ⟨A,[]⟩ ⟨none,.send (.tmp 27) (.tmp 28),0,pos,aft,none⟩ w=#[]:=by
  unfold listed;have:(execOp (⟨A,[]⟩:Act).eval ⟨none,.send (.tmp 27) (.tmp 28),0,pos,aft,none⟩).events Tryz.prog w #[]=#[]:=by
   simp only [execOp,hx,hy];simp
  rw [this,Go.Conc.seen_none]
 rw [h2] at h1;have:=Pref.send (G:=G) h1 hc fY;rw [Frame.finish_at,ho] at this;exact this
theorem GX{W:World}{row:Array Value}(hB:W.heap.size=p.B)(hN:p.N<=9223372036854775807){cs:List Frame}:∀ (r j:Nat) (T:Array Value) (w:World),j+r=p.N->FS p h j T->Lay W [.cells #[p.vJ] 22 (0,0),.cells row 46 (0,0),.cells #[sO p] 23 (0,0),.chan p.N (xW j) false j 0 false,.cells #[.chan (some (p.B+3))] 49 (0,0)] w ->
  PrefTo Tryz.prog (gm p.B) (Go.Conc.G (b4.at ⟨T,[]⟩ [.code OY,.inLoop OY,.inBlock 0,.code Sm]) cs) w (fun a' w'=>∃ T,a'=Go.Conc.G (b4.at ⟨T,[]⟩ [.code Sm]) cs/\FS p h p.N T/\Lay W [.cells #[p.vJ] 22 (0,0),.cells row 46 (0,0),.cells #[sO p] 23 (0,0),.chan p.N (xW p.N) false p.N 0 false,.cells #[.chan (some (p.B+3))] 49 (0,0)] w'):=by
 intro r
 induction r with
 | zero =>
  intro j T w hj hF hL;obtain rfl:j=p.N:=ae;obtain⟨s0,g0,g3,g6,g7,g23,g24⟩:=hF;have hT:=((((((TS.nil s0).add 0 g0).add 3 g3).add 6 g6).add 7 g7).add 23 g23).add 24 g24;have aA:decide (((p.N:Nat):Int)<(p.N:Int))=false:=ag;refine .fh (x:=.region 6 o46 false) (y:=r46) ?_;refine .iU (l:=[0]) rfl ?_;refine .tV hT 25 (v:=.bool false) rfl rfl af (by rw [<- aA];exact pn (hT.get 24 rfl) (hT.get 23 rfl)) fun T hT=>?_;refine .iV ?_;refine .fh (x:=.cond (.tmp 25) .skip (.exit 0)) (y:=Ww) ?_;refine .AH (t:=false) (hT.get 25 rfl) ?_;simp only [ahD,if_false];refine .V4 (k':=[.code Sm]) rfl ?_;exact .stop ⟨_,rfl,⟨hT.size,(hT.get 0 rfl),(hT.get 3 rfl),(hT.get 6 rfl),(hT.get 7 rfl),(hT.get 23 rfl),(hT.get 24 rfl)⟩,hL⟩
 | succ r ih =>
  intro j T w hj hF hL;obtain⟨s0,g0,g3,g6,g7,g23,g24⟩:=hF;have hT:=((((((TS.nil s0).add 0 g0).add 3 g3).add 6 g6).add 7 g7).add 23 g23).add 24 g24;have aA:decide ((j:Int)<(p.N:Int))=true:=by simp;omega
  refine .fh (x:=.region 6 o46 false) (y:=r46) ?_;refine .iU (l:=[0]) rfl ?_;refine .tV hT 25 (v:=.bool true) rfl rfl af (by rw [<- aA];exact pn (hT.get 24 rfl) (hT.get 23 rfl)) fun T hT=>?_;refine .iV ?_;refine .fh (x:=.cond (.tmp 25) .skip (.exit 0)) (y:=Ww) ?_;refine .AH (t:=true) (hT.get 25 rfl) ?_;simp only [if_true];refine .OL ?_;refine .fh (x:=.block 1 (.seq (.region 7 o47 false) (.region 8 XB false))) (y:=.region 9 o49 false) ?_;refine .C3 ?_;refine .fh ?_;refine .iU (l:=[0,1]) rfl ?_;refine .tV hT 26 (v:=.int .i64 j) rfl rfl af (bY (hT.get 24 rfl)) fun T hT=>?_;refine .tV hT 8 (v:=.int .i64 j) rfl rfl af (bH (hT.get 26 rfl)) fun T hT=>?_;refine .iV ?_;refine .iU (l:=[0,1,2]) rfl ?_;have c0:w.cell? ⟨p.B+4,0,none⟩=some (.chan (some (p.B+3))):=by have:=hL.cell (i:=4) rfl 0;rw [hB] at this;simpa using this
  have zw:w.heap.size=p.B+5:=by rw [hL.size,hB];rfl
  refine .tV hT 27 (v:=.chan (some (p.B+3))) rfl rfl af (eI underlying49 rfl (hT.get 7 rfl) c0 (.inl ⟨_,_,rfl,by simp only [gm];omega,by simp only [gm];omega,by simp only [];omega⟩)) fun T hT=>?_;refine .tV hT 28 (v:=.int .i64 j) rfl rfl af (bY (hT.get 8 rfl)) fun T hT=>?_;have hc:w.heap[p.B+3]?=some (.chan p.N (xW j) false j 0 false):=by have:=hL.at_ 3 _ rfl;rw [hB] at this;exact this
  refine .qp (GW (A:=T) (hT.get 27 rfl) (hT.get 28 rfl) hc (by rw [Kr];omega)) ?_;rw [show(xW j).push (.int .i64 j)=xW (j+1) from(Ks j).symm];have fS:=hL.set (i:=3) ag (.chan p.N (xW (j+1)) false (j+1) 0 false);rw [hB] at fS;change Lay W _ (w.setChan (p.B+3) p.N (xW (j+1)) false (j+1) 0 false) at fS;generalize w.setChan (p.B+3) p.N (xW (j+1)) false (j+1) 0 false=w' at fS ⊢;refine .iV ?_;refine .Ka ?_;refine .iU (l:=[0,1]) rfl ?_;have Ax:IntKind.i64.wrap ((j:Int)+1)=((j+1:Nat):Int):=by rw [IntKind.wrap_i64];omega
  refine .tV hT 29 (v:=.int .i64 ((j+1:Nat):Int)) rfl rfl af (by rw [<- Ax];exact J6 (hT.get 24 rfl) rfl) fun T hT=>?_;refine .tV hT 24 (v:=.int .i64 ((j+1:Nat):Int)) rfl rfl af (bY (hT.get 29 rfl)) fun T hT=>?_;refine .iV ?_;refine .Nl ?_;exact ih (j+1) _ w' ae ⟨hT.size,(hT.get 0 rfl),(hT.get 3 rfl),(hT.get 6 rfl),(hT.get 7 rfl),(hT.get 23 rfl),(hT.get 24 rfl)⟩ fS
noncomputable def aaR:Array Oper:=match Sm with|.seq (.region _ o _) _=>o|_=>#[]
noncomputable def aaS:Array Oper:=match d4 with|.seq (.region _ o _) _=>o|_=>#[]
noncomputable def aaT:Array Oper:=match d4 with|.seq _ (.seq (.seq (.region _ o _) _) _)=>o|_=>#[]
theorem Sq:(Tryz.prog.info? 59).map (fun i=>i.zero)=some (some (.agg #[.int .u64 0,.int .u32 0])):=ah
theorem GY{A:Array Value}{c s r:Nat}{buf:Array Value}{tm:Bool}{pos:String}{aft:Array Edge}(g30:A.getD 30 undef=.chan (some c))(hc:w.heap[c]?=some (.chan cap buf false s r tm)):
  (execOp (⟨A,[]⟩:Act).eval ⟨none,.call { callee:=.builtin .close,args:=#[.tmp 30],argTypes:=#[49] },0,pos,aft,none⟩).run Tryz.prog w=.ok (.value (.tuple #[])) { w with heap:=w.heap.setIfInBounds c (.chan cap buf true s r tm) } /\
   (execOp (⟨A,[]⟩:Act).eval ⟨none,.call { callee:=.builtin .close,args:=#[.tmp 30],argTypes:=#[49] },0,pos,aft,none⟩).events Tryz.prog w #[]=(#[⟨.obj c,false,true⟩,⟨.obj c,true,true⟩]:Array Event):=by
 have ua:(#[Operand.tmp 30].map (⟨A,[]⟩:Act).eval)=#[Value.chan (some c)]:=by rw [<- g30];simp [Act.eval]
 constructor
 ·simp only [execOp,resolve,invoke,builtin,ua];simp [run_close_open _ _ hc]
 ·simp only [execOp,resolve,invoke,builtin,ua];simp [run_close_open _ _ hc,events_close_open _ _ hc]
theorem aaU{W:World}{row:Array Value}(hB:W.heap.size=p.B)(hn:h=(p.n:Int)){cs:List Frame}{T:Array Value}(hF:FS p h p.N T)(hL:Lay W [.cells #[p.vJ] 22 (0,0),.cells row 46 (0,0),.cells #[sO p] 23 (0,0),.chan p.N (xW p.N) false p.N 0 false,.cells #[.chan (some (p.B+3))] 49 (0,0)] w):
  PrefTo Tryz.prog (gm p.B) (Go.Conc.G (b4.at ⟨T,[]⟩ [.code Sm]) cs) w (fun a' w'=>∃ T,a'=Go.Conc.G (b4.at ⟨T,[]⟩ (.code l4::k4)) cs/\FT p 0 T/\Lay W [.cells #[p.vJ] 22 (0,0),.cells row 46 (0,0),.cells #[sO p] 23 (0,0),.chan p.N (xW p.N) true p.N 0 false,.cells #[.chan (some (p.B+3))] 49 (0,0),.cells #[.int .u64 0,.int .u32 0] 59 (0,0)] w'):=by
 obtain⟨i59,Wx,Wy⟩:=ahs.1 Sq;obtain⟨s0,g0,g3,g6,g7,_,_⟩:=hF;have hT:=((((TS.nil s0).add 0 g0).add 3 g3).add 6 g6).add 7 g7;refine .fh (x:=.region 10 aaR false) (y:=d4) ?_;refine .iU (l:=[0,1]) rfl ?_;have c0:w.cell? ⟨p.B+4,0,none⟩=some (.chan (some (p.B+3))):=by have:=hL.cell (i:=4) rfl 0;rw [hB] at this;simpa using this
 have zw:w.heap.size=p.B+5:=by rw [hL.size,hB];rfl
 refine .tV hT 30 (v:=.chan (some (p.B+3))) rfl rfl af (eI underlying49 rfl (hT.get 7 rfl) c0 (.inl ⟨_,_,rfl,by simp only [gm];omega,by simp only [gm];omega,by simp only [];omega⟩)) fun T hT=>?_;have hc:w.heap[p.B+3]?=some (.chan p.N (xW p.N) false p.N 0 false):=by have:=hL.at_ 3 _ rfl;rw [hB] at this;exact this
 obtain⟨q1,q2⟩:=GY (A:=T) (pos := "many.go:21") (aft:=#[⟨0,.data⟩]) (hT.get 30 rfl) hc;refine .cS (op:=.call { callee:=.builtin .close,args:=#[.tmp 30],argTypes:=#[49] }) rfl af ⟨.inr ⟨_,q1⟩,fun e he=>by rw [q2] at he;simp at he;rcases he with rfl|rfl<;>exact .inr (.inl ⟨_,_,_,rfl,by simp;omega⟩)⟩ ag ?_;have fS:=hL.set (i:=3) ag (.chan p.N (xW p.N) true p.N 0 false);rw [hB] at fS;clear q1 q2;generalize ({ w with heap:=w.heap.setIfInBounds (p.B+3) (.chan p.N (xW p.N) true p.N 0 false) }:World)=w2 at fS ⊢;have z2:w2.heap.size=p.B+5:=by rw [fS.size,hB];rfl
 refine .iV ?_;refine .fh (x:=.region 11 aaS false) (y:=.seq (.seq (.region 12 aaT false) (.block 2 (.loop l4))) r4) ?_;refine .iU (l:=[0]) rfl ?_;refine .cW 9 (v:=pA w2.heap.size) (op:=.alloc 59) rfl af ⟨(fg (a:=⟨T,[]⟩) Wx Wy).1,fun e he=>by rw [(fg (a:=⟨T,[]⟩) Wx Wy).2] at he;simp at he⟩ ag ?_;have L3:=fS.alloc (.cells (Value.agg #[.int .u64 0,.int .u32 0]).cells 59 (0,0));generalize w2.alloc (.cells (Value.agg #[.int .u64 0,.int .u32 0]).cells 59 (0,0))=w3 at L3 ⊢;rw [z2];replace hT:=hT.set 9 ((pA (p.B+5))) rfl;generalize T.setIfInBounds 9 (pA (p.B+5))=T at hT ⊢;refine .iV ?_;refine .fh ?_;refine .fh ?_;refine .iU (l:=[0,1]) rfl ?_;refine .tV hT 31 (v:=.int .i64 p.n) rfl rfl af (bY ((hT.get 0 rfl).trans (by rw [hn]))) fun T hT=>?_;refine .tV hT 32 (v:=.int .i64 ((0:Nat):Int)) rfl rfl af (bY rfl) fun T hT=>?_;refine .iV ?_;refine .C3 ?_;refine .OK ?_;exact .stop ⟨_,rfl,⟨hT.size,(hT.get 3 rfl),(hT.get 6 rfl),(hT.get 7 rfl),(hT.get 9 rfl),(hT.get 31 rfl),(hT.get 32 rfl)⟩,L3⟩
theorem PrefTo.bind{P:Program}{a:Goroutine}{Q':Goroutine->World->Prop}(h:PrefTo P G a w Q)(k:∀ a' w',Q a' w'->PrefTo P G a' w' Q'):PrefTo P G a w Q':=by
 obtain⟨a',w',h1,h2⟩:=h;obtain⟨Xt,Hz,h3,h4⟩:=k a' w' h2;exact⟨Xt,Hz,h1.trans h3,h4⟩
theorem Dg{W:World}(hB:W.heap.size=p.B)(hn:h=(p.n:Int))(h1:1<=h)(h8:h<=8){ad:Option Addr}(hJ:p.vJ=.slice ad p.N cap)(hN:p.N*48<=281474976710656):
  PrefTo Tryz.prog (gm p.B) (Go.Conc.G (Frame.enter Tryz.prog 3 #[.int .i64 h,p.vJ] .normal) []) W (fun a' w'=>∃ T row,a'=Go.Conc.G (b4.at ⟨T,[]⟩ (.code l4::k4)) [tS p h]/\FT p 0 T/\Lay W [.cells #[p.vJ] 22 (0,0),.cells (madeCells row (p.N*2)) 46 (0,0),.cells #[sO p] 23 (0,0),.chan p.N (xW p.N) true p.N 0 false,.cells #[.chan (some (p.B+3))] 49 (0,0),.cells #[.int .u64 0,.int .u32 0] 59 (0,0)] w'):=by
 refine Wn ?_;refine PrefTo.bind (aaM (h:=h) (cs:=[tS p h]) hB (by simp;omega) (by simp;omega) hJ hN) fun a' w' ⟨T,row,e,hF,hL⟩=>?_;subst e;refine PrefTo.bind (GX (h:=h) (cs:=[tS p h]) hB ae p.N 0 T w' ae hF hL) fun a' w' ⟨T,e,hF,hL⟩=>?_;subst e;refine PrefTo.bind (aaU (h:=h) (cs:=[tS p h]) hB hn hF hL) fun a' w' ⟨T,e,hF,hL⟩=>?_;exact .stop ⟨T,row,e,hF,hL⟩
end
end Go.Proofs.YtmbbagbhmjaedaaGreatDoor
namespace FM
open Go Go.RowKit
variable {π:Option (List Nat)}
def Nt:AV->Value
 | .int n=>.int .i64 n
 | .str s=>.string ⟨s.toArray⟩
 | _=>undef
def AV.GZ:AV->Bool
 | .int _|.str _=>true
 | _=>false
theorem Nu{L:Nat->aO}{w:World}{y:AV}{v:Value}(hp:y.GZ=true)(h:Rep L w π y v):v=Nt y:=by
 cases h<;>first|rfl|cases hp
theorem Nv{L:Nat->aO}{w:World}{y:AV}(hp:y.GZ=true):Rep L w π y (Nt y):=by
 cases y<;>first|exact .int|exact .str|cases hp
section
variable {α:Type} {F:α->AV} {C:α->List AV} {k:Nat} {L:Nat->aO} {w:World} {π:Option (List Nat)}
theorem O2(hF:∀ x,(F x).cells=C x)(hk:∀ x,(C x).length=k){l:List α}{i j:Nat}{x:α}{y:AV}(hx:l[i]?=some x)(hy:(C x)[j]?=some y):(flat (l.map F))[i*k+j]?=some y :=
 flat_get (fun z hz=>by obtain⟨x,_,rfl⟩:=ahY.1 hz;rw [hF,hk]) (x:=F x) (by rw [ahE,hx];rfl) (by rw [hF];exact hy)
theorem tB(hF:∀ x,(F x).cells=C x)(hk:∀ x,(C x).length=k){l:List α}{s:Value}(h:Rep L w π (.sl false k (l.map F)) s):
  (∃ a c,s=.slice a 0 c/\l=[])∨∃ b o c,s=.slice (some ⟨b,o,none⟩) l.length c/\l.length<=c/\∀ i x,l[i]?=some x->∀ j y,(C x)[j]?=some y->∃ u,w.cell? ⟨b,o+(i*k+j),none⟩=some u/\Rep L w none y u:=by
 generalize ua:l.map F=xs at h
 cases h with
 | slE _=>exact .inl ⟨_,_,rfl,by simpa using ua⟩
 | @slS _ _ _ b off cap u bK hL hb hc aH hr =>
  have hlen:xs.length=l.length:=by rw [<- ua,ahu]
  refine .inr ⟨b,off,cap,by rw [hlen],ae,fun i x hx j y hy=>?_⟩;have hf:=O2 hF hk hx hy;rw [ua] at hf;have aA:i*k+j<xs.length*k:=by
   have h1:=(aho.1 hx).1;have h2:=(aho.1 hy).1;rw [hk] at h2;have:=ahT k (Nat.succ_le_of_lt h1);rw [Nat.succ_mul] at this;rw [hlen];omega
  exact⟨u (i*k+j),aH _ aA,hr _ _ hf⟩
theorem xX(hF:∀ x,(F x).cells=C x)(hk:∀ x,(C x).length=k)(hL:∀ b,L b=.sh){l:List α}{s:Value}
  (h:(∃ a c,s=.slice a 0 c/\l=[])∨∃ b o c,s=.slice (some ⟨b,o,none⟩) l.length c/\l.length<=c/\∀ i x,l[i]?=some x->∀ j y,(C x)[j]?=some y->∃ u,w.cell? ⟨b,o+(i*k+j),none⟩=some u/\Rep L w none y u) (G8:0<k):Rep L w π (.sl false k (l.map F)) s:=by
 rcases h with⟨a,c,rfl,rfl⟩|⟨b,o,c,rfl,hc,h⟩
 ·exact .slE nofun
 ·have hlen:l.length=(l.map F).length:=by rw [ahu]
  have rN:∀ p,p<l.length*k->∃ y,(flat (l.map F))[p]?=some y/\∃ u,w.cell? ⟨b,o+p,none⟩=some u/\Rep L w none y u:=fun p hp=>by
   have hi:p / k<l.length:=Nat.div_lt_of_lt_mul (by rw [Nat.mul_comm];exact hp);have hj:p%k<k:=Nat.mod_lt _ G8;have hx:l[p / k]?=some l[p / k]:=ahn hi;have hy:(C l[p / k])[p%k]?=some ((C l[p / k])[p%k]'(by rw [hk];exact hj)):=ahn _;have e:p / k*k+p%k=p:=by rw [Nat.mul_comm];exact Nat.div_add_mod p k
   have h1:=O2 hF hk hx hy;obtain⟨u,h2,h3⟩:=h _ _ hx _ _ hy;rw [e] at h1 h2;exact⟨_,h1,u,h2,h3⟩
  rcases aiD l.length with h0|h0
  ·have:l=[]:=List.length_eq_zero_iff.1 h0;subst this;exact .slE nofun
  ·rw [hlen];refine .slS (fun p=>(w.cell? ⟨b,o+p,none⟩).getD undef) (by rw [<- hlen];exact hc) (hL b) ?_ (fun z hz=>by obtain⟨x,_,rfl⟩:=ahY.1 hz;rw [hF,hk]) (fun p hp=>?_) (fun p y hy=>?_)
   ·obtain⟨y,_,u,hu,_⟩:=rN 0 (Nat.mul_pos h0 G8);unfold World.cell? at hu;rcases aia b w.heap.size with h|h
    ·exact h
    ·simp [Array.getElem?_eq_none h] at hu
   ·rw [<- hlen] at hp;obtain⟨y,_,u,hu,_⟩:=rN p hp;rw [hu];rfl
   ·have hp:p<l.length*k:=by
     have:=(aho.1 hy).1
     rwa [bh (c:=k) (fun z hz=>by obtain⟨x,_,rfl⟩:=ahY.1 hz;rw [hF,hk]),ahu] at this
    obtain⟨y',h1,u,hu,hr⟩:=rN p hp;rw [h1] at hy;cases hy;rw [hu];exact hr
end
end FM
namespace Go.Proofs.YtmbbagbhmjaedaaGreatDoor
open Go FM CO Go.Conc Go.ConcN
variable {s:Value}{π:Option (List Nat)}
section
variable {α:Type} {F:α->AV} {C:α->List AV} {k:Nat} {L:Nat->aO} {w:World} {π:Option (List Nat)}
theorem tC(hF:∀ x,(F x).cells=C x)(hk:∀ x,(C x).length=k)(hp:∀ x,∀ y∈C x,y.GZ=true){l:List α}(h:Rep L w π (.sl false k (l.map F)) s):dn (mW w) k (fun x j=>Nt ((C x).getD j .nil)) l s:=by
 rcases tB hF hk h with h|⟨b,o,c,h1,h2,h3⟩
 ·exact .inl h
 ·refine .inr ⟨b,o,c,h1,h2,fun i x hx j hj=>?_⟩;have hy:(C x)[j]?=some ((C x)[j]'(by rw [hk];exact hj)):=ahn _;obtain⟨u,hu,hr⟩:=h3 i x hx j _ hy;have:=Nu (hp x _ (ahB _)) hr;subst this;have e:(C x).getD j .nil=(C x)[j]'(by rw [hk];exact hj):=by simp [ahK,hy]
  show w.cell? _=some (Nt _);rw [e];exact hu
theorem rep_rowM(hF:∀ x,(F x).cells=C x)(hk:∀ x,(C x).length=k)(hp:∀ x,∀ y∈C x,y.GZ=true)(hL:∀ b,L b=.sh)(G8:0<k){m:Addr->Value->Prop}(hm:∀ a u,m a u->w.cell? a=some u){l:List α}(h:dn m k (fun x j=>Nt ((C x).getD j .nil)) l s):Rep L w π (.sl false k (l.map F)) s:=by
 refine xX hF hk hL ?_ G8;rcases h with h|⟨b,o,c,h1,h2,h3⟩
 ·exact .inl h
 ·refine .inr ⟨b,o,c,h1,h2,fun i x hx j y hy=>?_⟩;have hj:j<k:=by have:=(aho.1 hy).1;rwa [hk] at this
  have:=hm _ _ (h3 i x hx j hj);have e:(C x).getD j .nil=y:=by simp [ahK,hy]
  dsimp only at this;rw [e] at this;exact⟨_,this,Nv (hp x y (ahH hy))⟩
end
theorem dn.mono{α:Type}{m m':Addr->Value->Prop}{k:Nat}{f:α->Nat->Value}{l:List α}(h:dn m k f l s)(hm:∀ a u,m a u->m' a u):dn m' k f l s :=
 h.imp id fun⟨b,o,c,h1,h2,h3⟩=>⟨b,o,c,h1,h2,fun i x hx j hj=>hm _ _ (h3 i x hx j hj)⟩
theorem dn.sl{α:Type}{m:Addr->Value->Prop}{f:α->Nat->Value}{l:List α}{s:Value}{cps:List (Value->Prop)}(h:dn m cps.length f l s)(hf:∀ x∈l,∀ (j:Nat) (Q:Value->Prop),cps[j]?=some Q->Q (f x j)):Sl m cps s :=
 h.imp (fun⟨a,c,h,_⟩=>⟨a,c,h⟩) fun⟨b,o,c,h1,_,h3⟩=>⟨b,o,l.length,c,h1,fun i hi j Q hQ=>⟨_,h3 i l[i] (ahn hi) j (aho.1 hQ).1,hf _ (ahB hi) j Q hQ⟩⟩
def cT(x:Int×Int×Int):List AV:=[.int x.1,.int x.2.1]
def cE(x:Int×Int×Int):List AV:=[.int x.2.2]
theorem O3(x:Int×Int×Int)(j:Nat)(hj:j<2):fT x j=Nt ((cT x).getD j .nil):=by
 match j,hj with
 | 0,_=>rfl
 | 1,_=>rfl
theorem O4(x:Int×Int×Int)(j:Nat)(hj:j<1):fE x j=Nt ((cE x).getD j .nil):=by
 match j,hj with
 | 0,_=>rfl
theorem dn.congr{α:Type}{m:Addr->Value->Prop}{k:Nat}{f g:α->Nat->Value}{l:List α}(h:dn m k f l s)(e:∀ x j,j<k->f x j=g x j):dn m k g l s :=
 h.imp id fun⟨b,o,c,h1,h2,h3⟩=>⟨b,o,c,h1,h2,fun i x hx j hj=>by rw [<- e x j hj];exact h3 i x hx j hj⟩
theorem G0{L:Nat->aO}{w:World}{π:Option (List Nat)}{l:List (Int×Int×Int)}{val:Value}(h:Rep L w π (KX l) val):p6 l val w:=by
 cases h with
 | @agg _ _ vs hl hv =>
  match vs,hl with
  | [s1,s2],_ =>
   refine⟨s1,s2,rfl,?_,?_⟩
   ·exact(tC (C:=cT) (fun x=>rfl) (fun x=>rfl) (fun x y hy=>by simp [cT] at hy;rcases hy with rfl|rfl<;>rfl) (hv 0 _ _ rfl rfl)).congr fun x j hj=>(O3 x j hj).symm
   ·exact(tC (C:=cE) (fun x=>rfl) (fun x=>rfl) (fun x y hy=>by simp [cE] at hy;subst hy;rfl) (hv 1 _ _ rfl rfl)).congr fun x j hj=>(O4 x j hj).symm
theorem Kt{L:Nat->aO}{w:World}(hL:∀ b,L b=.sh){m:Addr->Value->Prop}(hm:∀ a u,m a u->w.cell? a=some u){l:List (Int×Int×Int)}(h:dn m 2 fT l s):Rep L w π (.sl false 2 (eT l)) s :=
 rep_rowM (C:=cT) (fun x=>rfl) (fun x=>rfl) (fun x y hy=>by simp [cT] at hy;rcases hy with rfl|rfl<;>rfl) hL af hm (h.congr fun x j hj=>O3 x j hj)
theorem Nw{L:Nat->aO}{w:World}(hL:∀ b,L b=.sh){m:Addr->Value->Prop}(hm:∀ a u,m a u->w.cell? a=some u){l:List (Int×Int×Int)}(h:dn m 1 fE l s):Rep L w π (.sl false 1 (kq l)) s :=
 rep_rowM (C:=cE) (fun x=>rfl) (fun x=>rfl) (fun x y hy=>by simp [cE] at hy;subst hy;rfl) hL af hm (h.congr fun x j hj=>O4 x j hj)
end Go.Proofs.YtmbbagbhmjaedaaGreatDoor
