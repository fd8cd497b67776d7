/- Part of the proof. -/
import Derived.Test.YtmbbagbhmjaedaaGreatDoorCdc
set_option linter.all false
namespace CO
open Go
def Ah(F:Nat->Bool):Value->Bool
 | .bool _|.int _ _|.float _ _|.complex _ _ _|.string _|.pointer none|.slice none _ _|.map none|.chan none|.nilFunc|.nilIface=>true
 | .func (.func f) p q=>F f&&p.isEmpty&&q.isEmpty
 | .agg p=>p.isEmpty
 | .tuple p=>p.isEmpty
 | _=>false
structure CC where
 K:FuncId->Nat->Nat
 idx:TypeId->Nat->Option Nat
 fld:TypeId->Nat->Nat->Option Nat
 ld:TypeId->Nat->Option Nat
 ln:TypeId->Nat->Bool
structure GD where
 g:Nat->Bool
 f:FuncId
 D:CC
 F2:Nat->Bool
def GD.d(G:GD)(t:Nat):Nat:=G.D.K G.f t
def cR(F:Nat->Bool)(G:GD):Operand->Bool
 | .tmp t=>G.d t==0
 | .const v=>Ah F v
 | .global g=>G.g g
 | .func f=>F f
def Ez(F:Nat->Bool)(G:GD):Option Operand->Bool
 | none=>true
 | some x=>cR F G x
structure Env(P:Program) where
 F:Nat->Bool
 G:Nat->Bool
 hz:I3 P
 F2:Nat->Bool
 D:CC
 Dv:Nat->Value->Prop
 m:Addr->Value->Prop
def Env.gd{P:Program}(E:Env P)(f:FuncId):GD:=⟨E.G,f,E.D,E.F2⟩
structure Cx{P:Program}(E:Env P)(ρ:Ren):Prop where
 g:ρ.g=P.globals.size
 F:ρ.F=fun f=>E.F f=true
 gl:∀ g,E.G g=true->ρ g g
 m:ρ.m=E.m
theorem Cx.mono{P:Program}{E:Env P}{ρ aQ:Ren}(h:Cx E ρ)(hl:ρ.le aQ):Cx E aQ:=⟨hl.g.trans h.g,hl.F.trans h.F,fun g hg=>hl.r _ _ (h.gl g hg),hl.m.trans h.m⟩
structure pW{P:Program}(E:Env P)(f:Nat):Prop where
 ok:∃ fn e,P.funcs[f]?=some fn/\(fn.name == "runtime.NumGoroutine")=false/\fn.body=none/\Extern.findNext fn=none/\Extern.find fn=some e/\∀ ρ,Cx E ρ->∀ p p',AR ρ p p'->SR P VV ρ (e p) (e p')
structure Ji{P:Program}(E:Env P)(f:Nat):Prop where
 ok:∃ fn c,P.funcs[f]?=some fn/\(fn.name == "runtime.NumGoroutine")=false/\fn.body=some c
inductive CE(P:Program)(F:Nat->Bool)(ρ:Ren):Next->Next->Prop
 | value {v v':Value}:VR ρ v v'->CE P F ρ (.value v) (.value v')
 | skip:CE P F ρ .skip .skip
 | enter (f:Nat) {fn:Func} {c:Code} {p p':Array Value}:F f=true->P.funcs[f]?=some fn->fn.body=some c->AR ρ p p'->CE P F ρ (.enter f p) (.enter f p')
def Jj(P:Program)(F:Nat->Bool)(G:GD)(c:Call):Bool :=
 c.args.all (cR F G)&&(match c.callee with
  | .value f=>cR F G f
  | .invoke _ _=>false
  | .builtin b=>match b with
   | .append|.cap|.clear|.copy|.len|.max|.min=>true
   | .unsafeString=>c.args.size==2
   | .unsafeSliceData=>c.args.size==1
   | _=>false)
def mO(P:Program)(F:Nat->Bool)(G:GD):Op->Bool
 | .move x|.assign x|.nilCheck x|.unOp _ _ x|.convert _ _ x|.makeInterface _ x|.fieldAddr _ x _|.field _ x _|.extract x _|.panic x|.load _ x|.box _ x=>cR F G x
 | .pick a b c=>cR F G a&&cR F G b&&cR F G c
 | .alloc _=>true
 | .build _ ps=>ps.all fun p=>cR F G p.2
 | .buildSlice _ _ ps=>ps.all fun p=>cR F G p.2
 | .store _ a b|.binOp _ _ a b _|.makeSlice _ a b|.indexAddr _ a b|.index _ a b=>cR F G a&&cR F G b
 | .makeFunc (.func f) p q=>F f&&p.all (cR F G)&&q.all (cR F G)
 | .slice _ x a b c=>cR F G x&&Ez F G a&&Ez F G b&&Ez F G c
 | .range t x=>cR F G x&&(match P.underlying t with|some (.map _ _)=>false|_=>true)
 | .next x s=>cR F G x&&s
 | .call c=>Jj P F G c
 | _=>false
section
variable {P:Program} {ρ:Ren}
theorem Jk{F:Nat->Bool}(hF:ρ.F=fun f=>F f=true):∀ (v:Value),Ah F v=true->VR ρ v v:=by
 intro v h
 cases v with
 | bool b=>exact .bool b
 | int k n=>exact .int k n
 | float k n=>exact .float k n
 | complex k n m=>exact .complex k n m
 | string s=>exact .string s
 | pointer a=>cases a with
  | none=>exact .ptrN
  | some a=>cases h
 | slice a l c=>cases a with
  | none=>exact .sliceN l c
  | some a=>cases h
 | map r=>cases r with
  | none=>exact .mapN
  | some a=>cases h
 | chan r=>cases r with
  | none=>exact .chanN
  | some a=>cases h
 | nilFunc=>exact .nilFunc
 | nilIface=>exact .nilIface
 | func fn p q=>cases fn with
  | func f =>
   simp only [Ah,aht,Array.isEmpty_iff] at h;obtain⟨⟨h1,rfl⟩,rfl⟩:=h;exact .func f (by rw [hF];exact h1) rfl rfl (fun i x y hx _=>by simp at hx) (fun i x y hx _=>by simp at hx)
  | _=>cases h
 | agg p =>
  simp only [Ah,Array.isEmpty_iff] at h;subst h;exact .agg rfl fun i x y hx _=>by simp at hx
 | tuple p =>
  simp only [Ah,Array.isEmpty_iff] at h;subst h;exact .tuple rfl fun i x y hx _=>by simp at hx
 | iface t v=>cases h
theorem dY{F:Nat->Bool}{s s':Sem Value}(h:SR P VV ρ s s'):SR P (CE P F) ρ (do pure (.value (<- s)):Sem Next) (do pure (.value (<- s')):Sem Next):=h.seq fun _ _ _ _ hv=>.pure (.value hv)
theorem ZI{F:Nat->Bool}{s s':Sem Unit}(h:SR P bM ρ s s'):SR P (CE P F) ρ (do s;pure .skip:Sem Next) (do s';pure .skip:Sem Next):=h.seq fun _ _ _ _ _=>.pure .skip
theorem ZJ{s:Sem Value}(h:Dd P s):Dd P (do pure (.value (<- s)):Sem Next):=h.bind
theorem CF{ev Hf:Operand->Value}{F:Nat->Bool}{G:GD}(cn:∀ x,cR F G x=true->VR ρ (ev x) (Hf x))(xs:Array Operand)(h:xs.all (cR F G)=true):AR ρ (xs.map ev) (xs.map Hf):=by
 refine⟨ag,fun i x y hx hy=>?_⟩;simp only [aik,ahs] at hx hy;obtain⟨a,ha,rfl⟩:=hx;obtain⟨b,hb,rfl⟩:=hy;rw [ha] at hb;cases hb;obtain⟨hi,rfl⟩:=ahx.1 ha;exact cn _ (aiN.1 h i hi)
theorem CG{ev Hf:Operand->Value}{F:Nat->Bool}{G:GD}(cn:∀ x,cR F G x=true->VR ρ (ev x) (Hf x)):∀ (l:List (Nat×Operand)),l.all (fun p=>cR F G p.2)=true->PR ρ (l.map fun p=>(p.1,ev p.2)) (l.map fun p=>(p.1,Hf p.2))
 | [],_=>.nil
 | (i,x)::l,h=>by
  simp only [List.all_cons,aht] at h;exact .cons i (cn x h.1) (CG cn l h.2)
theorem CH{ev Hf:Operand->Value}{F:Nat->Bool}{G:GD}(cn:∀ x,cR F G x=true->VR ρ (ev x) (Hf x))(x:Option Operand)(h:Ez F G x=true):OV ρ (x.map ev) (x.map Hf):=by
 cases x with
 | none=>exact .none
 | some x=>exact .some (cn x h)
def cQ{P:Program}(E:Env P):Prop:=∀ f,E.F f=true->pW E f∨Ji E f
theorem Ai{E:Env P}(hc:Cx E ρ)(hK:cQ E)(f:Nat)(hf:E.F f=true){p p':Array Value}(h:AR ρ p p'):SR P (CE P E.F) ρ (callFunc f p) (callFunc f p'):=by
 refine cP ?_;rcases hK f hf with⟨fn,e,h1,h2,h3,h4,h5,h6⟩|⟨fn,c,h1,h2,h3⟩
 ·simp only [h1,h2,h3,Option.isNone_none,ahD,if_false,if_true];refine .ext f ?_;simp only [h4,h5];exact dY (h6 ρ hc p p' h)
 ·simp only [h1,h2,h3,Option.isNone_some,ahD,if_false];exact .pure (.enter f hf h1 h3 h)
theorem Gn{E:Env P}(hc:Cx E ρ)(hK:cQ E){v v':Value}(hv:VR ρ v v'){p p':Array Value}(h:AR ρ p p'):SR P (CE P E.F) ρ (do let d<-Deferred.ofValue v p;invoke d.target d.args) (do let d<-Deferred.ofValue v' p';invoke d.target d.args):=by
 cases hv with
 | nilFunc=>exact .dead (show Dd P (runtimePanic .nilDeref:Sem Next) from aq _)
 | func f hf a1 a2 b1 b2 =>
  have hf:E.F f=true:=by rw [hc.F] at hf;exact hf
  exact Ai hc hK f hf (((AR.mk a1 b1).append h).append ⟨a2,b2⟩)
 | _=>exact .halt
theorem CI{E:Env P}(b:Builtin)(ts:Array TypeId)(t:TypeId)(cs:Array Bool){p p':Array Value}(h:AR ρ p p')
  (hb:(match b with
   | .append|.cap|.clear|.copy|.len|.max|.min=>true
   | .unsafeString=>p.size==2
   | .unsafeSliceData=>p.size==1
   | _=>false)=true):SR P (CE P E.F) ρ (builtin b ts t cs p) (builtin b ts t cs p'):=by
 cases b with
 | append =>
  exact dY (Gi E.hz ts t h)
 | cap=>exact dY (Rt ts t h)
 | clear=>exact dY (Je E.hz ts t h)
 | copy=>exact dY (MQ ts t h)
 | len=>exact dY (Rs ts t h)
 | max=>exact dY (MW ts t h)
 | min=>exact dY (MV ts t h)
 | unsafeString =>
  have e:=h.size;have hn:p.size=2:=by simpa using hb
  obtain⟨l⟩:=p;obtain⟨l'⟩:=p'
  match l,l',e,hn with
  | [x,y],[x',y'],_,_=>exact dY (qo ts t (h.get 0 x x' rfl rfl) (h.get 1 y y' rfl rfl))
 | unsafeSliceData =>
  have e:=h.size;have hn:p.size=1:=by simpa using hb
  obtain⟨l⟩:=p;obtain⟨l'⟩:=p'
  match l,l',e,hn with
  | [x],[x'],_,_=>exact dY (mN ts t (h.get 0 x x' rfl rfl))
 | _=>cases hb
theorem Gp{E:Env P}(hc:Cx E ρ)(hK:cQ E){G:GD}{ev Hf:Operand->Value}(cn:∀ x,cR E.F G x=true->VR ρ (ev x) (Hf x))(o:Oper)(ok:mO P E.F G o.op=true):SR P (CE P E.F) ρ (execOp ev o) (execOp Hf o):=by
 obtain⟨dst,op,ty,pos,aft,gd⟩:=o;unfold execOp
 cases op with
 | move x=>exact .pure (.value (cn x ok))
 | assign x=>exact .pure (.value (cn x ok))
 | pick a b c =>
  simp only [mO,aht] at ok;refine(oY (cn a ok.1.1)).seq fun db hl z _ e=>?_;subst e
  cases z with
  | true=>exact .pure (.value ((cn b ok.1.2).mono hl))
  | false=>exact .pure (.value ((cn c ok.2).mono hl))
 | alloc t=>exact dY (I4 E.hz t)
 | box t x=>exact dY (Rq t (cn x ok))
 | build t ps=>exact dY (Jc E.hz t (by
   simp only [Array.toList_map]
   exact CG cn _ (by simpa [mO] using ok)))
 | buildSlice t n ps=>exact dY (uv E.hz t n (by
   simp only [Array.toList_map]
   exact CG cn _ (by simpa [mO] using ok)))
 | load t x=>exact dY (Gc t (cn x ok))
 | store t a b =>
  simp only [mO,aht] at ok;exact ZI (Ci t (cn a ok.1) (cn b ok.2))
 | nilCheck x =>
  have hx:=cn x ok;dsimp only;generalize ev x=v at hx;generalize Hf x=v' at hx;have K4:=hx
  cases hx with
  | ptrN=>exact .dead (aq _)
  | nilIface=>exact .dead (aq _)
  | nilFunc=>exact .dead (aq _)
  | _=>exact .pure (.value K4)
 | binOp op t x y yt =>
  simp only [mO,aht] at ok;exact dY ((Ct op t x y (cn x ok.1) (cn y ok.2)).seq fun db hl _ _ _=>Jf op t (hl.g.trans hc.g) ((cn x ok.1).mono hl) ((cn y ok.2).mono hl))
 | unOp op t x=>exact dY (I7 op (cn x ok))
 | convert a b x=>exact dY (Cz a b (cn x ok))
 | makeInterface t x=>exact dY (o5 t (cn x ok))
 | makeFunc fn p q =>
  cases fn with
  | func f =>
   simp only [mO,aht] at ok;exact dY (z8 f (by rw [hc.F];exact ok.1.1) (CF cn p ok.1.2) (CF cn q ok.2))
  | _=>cases ok
 | makeSlice t a b =>
  simp only [mO,aht] at ok;exact dY (xx E.hz t (cn a ok.1) (cn b ok.2))
 | slice t x a b c =>
  simp only [mO,aht] at ok;exact dY (Ck t (cn x ok.1.1.1) (CH cn a ok.1.1.2) (CH cn b ok.1.2) (CH cn c ok.2))
 | fieldAddr t x i=>exact dY (Cr t (cn x ok) i)
 | field t x i=>exact dY (I6 t (cn x ok) i)
 | indexAddr t a b =>
  simp only [mO,aht] at ok;exact dY (Cm t (cn a ok.1) (cn b ok.2))
 | index t a b =>
  simp only [mO,aht] at ok;exact dY (I5 t (cn a ok.1) (cn b ok.2))
 | range t x =>
  simp only [mO,aht] at ok;refine dY (Gl t (cn x ok.1) fun k e h=>?_);rw [h] at ok;simp at ok
 | next x s =>
  simp only [mO,aht] at ok;obtain⟨h1,rfl⟩:=ok;exact dY (Jh ty (cn x h1))
 | extract x i=>exact dY (Cj (cn x ok) i)
 | panic x=>exact .dead (ZJ CB)
 | call c =>
  obtain⟨callee,args,Ox⟩:=c;simp only [mO,Jj,aht] at ok;have ha:=CF cn args ok.1
  cases callee with
  | value f=>exact Gn hc hK (cn f ok.2) ha
  | invoke r m=>cases ok.2
  | builtin b=>exact CI b Ox ty _ ha (by have:=ok.2;simp only [Array.size_map];exact this)
 | _=>cases ok
end
variable {p p':Array Value}
section
variable {P:Program} {ρ:Ren}
theorem AR.two(h:AR ρ p p'):(∃ x x' y y',p=#[x,y]/\p'=#[x',y']/\VR ρ x x'/\VR ρ y y')∨((∀ x y,p≠#[x,y])/\∀ x y,p'≠#[x,y]):=by
 have e:=h.size;obtain⟨l⟩:=p;obtain⟨l'⟩:=p';by_cases c:l.length=2
 ·have c':l'.length=2:=by simpa using (e.symm.trans (by simpa using c))
  match l,l',c,c' with
  | [x,y],[x',y'],_,_=>exact .inl ⟨x,x',y,y',rfl,rfl,h.get 0 x x' rfl rfl,h.get 1 y y' rfl rfl⟩
 ·refine .inr ⟨fun x y hh=>c (by cases hh;rfl),fun x y hh=>c ?_⟩;have:l.length=l'.length:=by simpa using e
  cases hh;exact this
theorem AR.single(h:AR ρ p p'):(∃ x x',p=#[x]/\p'=#[x']/\VR ρ x x')∨((∀ x,p≠#[x])/\∀ x,p'≠#[x]):=by
 have e:=h.size;obtain⟨l⟩:=p;obtain⟨l'⟩:=p';by_cases c:l.length=1
 ·have c':l'.length=1:=by simpa using (e.symm.trans (by simpa using c))
  match l,l',c,c' with
  | [x],[x'],_,_=>exact .inl ⟨x,x',rfl,rfl,h.get 0 x x' rfl rfl⟩
 ·refine .inr ⟨fun x hh=>c (by cases hh;rfl),fun x hh=>c ?_⟩;have:l.length=l'.length:=by simpa using e
  cases hh;exact this
theorem mg:∀ (n:Nat) {ρ:Ren} {a a':Addr} (acc:ByteArray),cu ρ a a'->SR P bM ρ (Extern.Bytes.loadBytes a n acc) (Extern.Bytes.loadBytes a' n acc)
 | 0,_,_,_,_,_=>.pure rfl
 | n+1,ρ,a,a',acc,h=>by
  refine(nS h).seq fun db hl v v' hv=>?_
  cases hv with
  | int k i=>cases k<;>first|exact mg n _ ((h.mono hl).add 1)|exact .halt
  | _=>exact .halt
theorem fc{x x':Value}(h:VR ρ x x'):SR P bM ρ (Extern.Bytes.bytesOf x) (Extern.Bytes.bytesOf x'):=by
 cases h with
 | string s=>exact .pure rfl
 | sliceN l c=>exact .pure rfl
 | slice l c ha=>exact mg l _ ha
 | _=>exact .halt
theorem vu{x x':Value}(h:VR ρ x x'):SR P bM ρ (Extern.Bytes.asByte x) (Extern.Bytes.asByte x'):=by
 cases h with
 | int k n=>cases k<;>first|exact .pure rfl|exact .halt
 | _=>exact .halt
theorem MX(h:AR ρ p p'):SR P VV ρ (Extern.AbiNoEscape.same p) (Extern.AbiNoEscape.same p'):=by
 rcases h.single with⟨x,x',rfl,rfl,hx⟩|⟨h1,h2⟩
 ·exact .pure hx
 ·refine .dead ?_;obtain⟨l⟩:=p
  match l with
  | []=>exact .halt trivial
  | [x]=>exact absurd rfl (h1 x)
  | x::y::l=>exact .halt trivial
theorem Jl(h:AR ρ p p'):SR P VV ρ (Extern.BytealgCount.count p) (Extern.BytealgCount.count p'):=by
 rcases h.two with⟨x,x',y,y',rfl,rfl,hx,hy⟩|⟨h1,h2⟩
 ·refine(fc hx).seq fun db hl b _ e=>?_;subst e;exact(vu (hy.mono hl)).seq fun _ _ c _ e=>by subst e;exact .pure (.int _ _)
 ·refine .dead ?_;obtain⟨l⟩:=p
  match l with
  | []=>exact .halt trivial
  | [x]=>exact .halt trivial
  | [x,y]=>exact absurd rfl (h1 x y)
  | x::y::z::l=>exact .halt trivial
theorem xE(h:AR ρ p p'):SR P VV ρ (Extern.BytealgIndexByte.indexByte p) (Extern.BytealgIndexByte.indexByte p'):=by
 rcases h.two with⟨x,x',y,y',rfl,rfl,hx,hy⟩|⟨h1,h2⟩
 ·refine(fc hx).seq fun db hl b _ e=>?_;subst e;refine(vu (hy.mono hl)).seq fun _ _ c _ e=>?_;subst e
  cases (List.range b.size).find? fun i=>b[i]! == c with
  | none=>exact .pure (.int _ _)
  | some i=>exact .pure (.int _ _)
 ·refine .dead ?_;obtain⟨l⟩:=p
  match l with
  | []=>exact .halt trivial
  | [x]=>exact .halt trivial
  | [x,y]=>exact absurd rfl (h1 x y)
  | x::y::z::l=>exact .halt trivial
theorem Gq(hG:∀ g,P.globals.findIdx? (·.name == "internal/bytealg.MaxLen")=some g->ρ g g)(h:AR ρ p p'):SR P VV ρ (Extern.BytealgIndex.index p) (Extern.BytealgIndex.index p'):=by
 rcases h.two with⟨x,x',y,y',rfl,rfl,hx,hy⟩|⟨h1,h2⟩
 ·refine(fc hx).seq fun db dj a _ e=>?_;subst e;refine(fc (hy.mono dj)).seq fun dX bZ b _ e=>?_;subst e;have hl:=dj.trans bZ;have ml:SR P bM dX Extern.BytealgIndex.maxLen Extern.BytealgIndex.maxLen:=by
   unfold Extern.BytealgIndex.maxLen;refine SR.seq (R:=fun ρ x y=>cu ρ x y) (s:=globalAddr _) (s':=globalAddr _) ?_ fun tQ fH u u' hu=>(nS hu).seq fun _ _ v v' hv=>dH hv;refine cP ?_
   cases hg:P.globals.findIdx? (·.name == "internal/bytealg.MaxLen") with
   | none=>exact .halt
   | some g=>exact .pure (.mk 0 none (hl.r _ _ (hG g hg)))
  refine ml.seq fun tQ fH m _ e=>?_;subst e;refine ar_ite (fun _=>.halt) fun _=>ar_ite (fun _=>.halt) fun _=>?_
  cases (List.range (a.size+1-b.size)).find? fun i=>a.extract i (i+b.size)==b with
  | none=>exact .pure (.int _ _)
  | some i=>exact .pure (.int _ _)
 ·refine .dead ?_;obtain⟨l⟩:=p
  match l with
  | []=>exact .halt trivial
  | [x]=>exact .halt trivial
  | [x,y]=>exact absurd rfl (h1 x y)
  | x::y::z::l=>exact .halt trivial
theorem pX:∀ (n t:Nat) (acc:Array Value),(∀ (i:Nat) x,acc[i]?=some x->∃ k n,x=.int k n)->∀ (i:Nat) x,(Extern.BytealgMakeNoZero.digits n t acc)[i]?=some x->∃ k n,x=.int k n
 | 0,_,_,h=>h
 | n+1,t,acc,h=>pX n _ _ (vp h _ _)
theorem uA(ps rs:Array TypeId)(h:AR ρ p p'):SR P VV ρ (Extern.BytealgMakeNoZero.makeNoZero ps rs p) (Extern.BytealgMakeNoZero.makeNoZero ps rs p'):=by
 rcases h.single with⟨x,x',rfl,rfl,hx⟩|⟨h1,h2⟩
 ·cases hx with
  | int k n =>
   cases k with
   | i64 =>
    unfold Extern.BytealgMakeNoZero.makeNoZero
    cases rs[0]? with
    | none=>exact .halt
    | some t =>
     refine SR.cl (az t) fun d=>?_
     cases d with
     | slice el =>
      refine ar_ite (fun _=>.dead (bg (aq _))) fun _=>?_;refine SR.seq (R:=bM) (s:=choose _) (s':=choose _) (.choose fun n=>.pure rfl) fun Cn nf cap _ e2=>?_;subst e2;refine(dw _).seq fun db dj _ _ _=>?_;refine SR.seq (R:=bM) (s:=choose _) (s':=choose _) (.choose fun n=>.pure rfl) fun dX bZ b _ e2=>?_;subst e2;exact(cm el (AR.ints (pX cap b #[] fun i x hx=>by simp at hx))).seq fun _ _ _ _ hb=>.pure (.slice _ _ hb)
     | _=>exact .halt
   | _=>exact .halt
  | _=>exact .halt
 ·refine .dead ?_;obtain⟨l⟩:=p
  match l with
  | []=>exact .halt trivial
  | [x]=>exact absurd rfl (h1 x)
  | x::y::l=>exact .halt trivial
theorem Aj(ps rs:Array TypeId)(h:AR ρ p p'):SR P VV ρ (Extern.SlicesOverlaps.overlaps ps rs p) (Extern.SlicesOverlaps.overlaps ps rs p'):=by
 rcases h.two with⟨x,x',y,y',rfl,rfl,hx,hy⟩|⟨h1,h2⟩
 ·cases hx with
  | sliceN l c =>
   cases hy with
   | sliceN l2 c2 =>
    unfold Extern.SlicesOverlaps.overlaps
    cases ps[0]? with
    | none=>exact .halt
    | some t =>
     refine SR.cl (az t) fun d=>?_;cases d<;>first|exact SR.cl (aZ _) fun n=>.pure (.bool _)|exact .halt
   | slice l2 c2 hb =>
    unfold Extern.SlicesOverlaps.overlaps
    cases ps[0]? with
    | none=>exact .halt
    | some t =>
     refine SR.cl (az t) fun d=>?_;cases d<;>first|exact SR.cl (aZ _) fun n=>.pure (.bool _)|exact .halt
   | _=>exact .halt
  | slice l c ha =>
   cases hy with
   | sliceN l2 c2 =>
    unfold Extern.SlicesOverlaps.overlaps
    cases ps[0]? with
    | none=>exact .halt
    | some t =>
     refine SR.cl (az t) fun d=>?_;cases d<;>first|exact SR.cl (aZ _) fun n=>.pure (.bool _)|exact .halt
   | slice l2 c2 hb =>
    rename_i a a' b b';unfold Extern.SlicesOverlaps.overlaps
    cases ps[0]? with
    | none=>exact .halt
    | some t =>
     refine SR.cl (az t) fun d=>?_
     cases d with
     | slice el =>
      refine SR.cl (aZ el) fun size=>?_;refine ar_ite (fun _=>.pure (.bool _)) fun _=>?_;refine(jy ha).seq fun db dj z z' f1=>?_;refine(jy (hb.mono dj)).seq fun dX bZ q q' f2=>?_;have hl:=dj.trans bZ;have e1:=(ha.beq hb).1;have eo:a.off=a'.off:=by obtain⟨_,_,_⟩:=ha;rfl
      have eo2:b.off=b'.off:=by obtain⟨_,_,_⟩:=hb;rfl
      by_cases c1:(a.block != b.block&&z&&q)=true
      ·rw [if_pos c1];exact .halt
      ·have c1':¬ (a'.block != b'.block&&z'&&q')=true:=fun h=>c1 (by
        unfold bne at h ⊢
        rw [e1]
        have:=f1.1;have:=f2.1
        cases z<;>cases z'<;>cases q<;>cases q'<;>simp_all)
       rw [if_neg c1,if_neg c1'];dsimp only;have jp:∀ {ρ:Ren},SR P VV ρ (pure (.bool (a.block==b.block&&decide (a.off<b.off+l2*size)&&decide (b.off<a.off+l*size))):Sem Value) (pure (.bool (a'.block==b'.block&&decide (a'.off<b'.off+l2*size)&&decide (b'.off<a'.off+l*size))):Sem Value):=by
        intro ρ;rw [e1,eo,eo2];exact .pure (.bool _)
       have e2:(a.block != b.block)=(a'.block != b'.block):=by unfold bne;rw [e1]
       rw [<- e2];refine ar_ite (fun _=>?_) fun _=>jp;refine(jw (ha.mono hl)).seq fun tQ fH _ _ _=>?_;refine(jw (hb.mono (hl.trans fH))).seq fun Co o0 _ _ _=>?_;refine(pT (ha.mono (hl.trans (fH.trans o0))) (hb.mono (hl.trans (fH.trans o0)))).seq fun K2 xA m m' f3=>?_
       cases m with
       | true =>
        cases m' with
        | true=>exact SR.seq (R:=bM) (.choose fun n=>.pure rfl) fun _ _ n _ e=>by subst e;exact .pure (.bool _)
        | false =>
         by_cases he:K2.eq
         ·exact absurd (f3.2 he) ag
         ·refine .chooseL 0 he rfl ?_;show SR P VV K2 (.pure (.bool false)) _;rename_i cr _;have:(a'.block==b'.block)=false:=by
           rw [<- e1];have:=‹(a.block != b.block)=true›;simpa [bne] using this
          rw [if_neg ag,this];exact .pure (.bool _)
       | false =>
        cases m' with
        | true=>exact absurd (f3.1 rfl) ag
        | false=>exact jp
     | _=>exact .halt
   | _=>exact .halt
  | _=>exact .halt
 ·refine .dead ?_;obtain⟨l⟩:=p
  match l with
  | []=>exact .halt trivial
  | [x]=>exact .halt trivial
  | [x,y]=>exact absurd rfl (h1 x y)
  | x::y::z::l=>exact .halt trivial
end
end CO
