/- Part of the proof. -/
import Derived.Test.YtmbbagbhmjaedaaGreatDoorCcj
set_option linter.all false
namespace CO
open Go
variable {a a':Addr}{x x' v':Value}
abbrev bM{α:Type}:Ren->α->α->Prop:=fun _ a b=>a=b
section
variable {P:Program} {ρ:Ren}
theorem SR.ret{α β:Type}{R:Ren->α->β->Prop}{a:α}{b:β}(h:R ρ a b):SR P R ρ (Pure.pure a:Sem α) (Pure.pure b:Sem β):=.pure h
theorem SR.seq{α β γ δ:Type}{R:Ren->α->β->Prop}{Q:Ren->γ->δ->Prop}{s:Sem α}{s':Sem β}{f:α->Sem γ}{g:β->Sem δ}(h:SR P R ρ s s')(k:∀ aQ,ρ.le aQ->∀ a b,R aQ a b->SR P Q aQ (f a) (g b)):SR P Q ρ (s >>= f) (s' >>= g):=h.bind k
inductive Cl(P:Program){α:Type}:Sem α->Prop
 | pure (a:α):Cl P (.pure a)
 | program {k:Program->Sem α}:Cl P (k P)->Cl P (.program k)
 | halt {h:Halt} (hs:sx h:=by trivial):Cl P (.halt h)
theorem SR.halt{α β:Type}{R:Ren->α->β->Prop}{h:Halt}{s:Sem β}(hs:sx h:=by trivial):SR P R ρ (.halt h) s:=.dead (.halt hs)
theorem Cl.ts{α:Type}{s:Sem α}(h:Cl P s):Ts P s:=by
 induction h with
 | pure a=>exact .pure a
 | program _ ih=>exact .program ih
 | halt hs=>exact .halt hs
theorem SR.cl{α γ δ:Type}{Q:Ren->γ->δ->Prop}{s:Sem α}{f:α->Sem γ}{g:α->Sem δ}(h:Cl P s)(k:∀ a,SR P Q ρ (f a) (g a)):SR P Q ρ (s >>= f) (s >>= g):=by
 induction h with
 | pure a=>exact k a
 | program _ ih=>exact .program ih
 | halt hs=>exact .halt hs
theorem aP(t:TypeId):Cl P (typeInfo t):=by
 refine .program ?_;show Cl P (match P.info? t with|some i=>Sem.pure i|none=>Sem.halt _);split
 ·exact .pure _
 ·exact .halt
theorem az(t:TypeId):Cl P (underlying t):=by
 refine .program ?_;show Cl P (match P.underlying t with|some i=>Sem.pure i|none=>Sem.halt _);split
 ·exact .pure _
 ·exact .halt
theorem Cl.bind{α β:Type}{s:Sem α}{f:α->Sem β}(h:Cl P s)(k:∀ a,Cl P (f a)):Cl P (s >>= f):=by
 induction h with
 | pure a=>exact k a
 | program _ ih=>exact .program ih
 | halt hs=>exact .halt hs
theorem aZ(t:TypeId):Cl P (sizeOf t):=(aP t).bind fun a=>.pure _
theorem sF(t:TypeId):Cl P (isAgg t):=(az t).bind fun a=>by split<;>exact .pure _
theorem ie(h:VR ρ x x'):SR P bM ρ (asIntOf x) (asIntOf x'):=by
 cases h<;>first|exact .pure rfl|exact .halt
theorem oY(h:VR ρ x x'):SR P bM ρ (asBool x) (asBool x'):=by
 cases h<;>first|exact .pure rfl|exact .halt
theorem I1(h:VR ρ x x'):SR P AR ρ (asAgg x) (asAgg x'):=by
 cases h<;>first|(rename_i h1 h2;exact .pure ⟨h1,h2⟩)|exact .halt
theorem fC(h:VR ρ x x'):SR P cu ρ (Instr.sureAddr x) (Instr.sureAddr x'):=by
 cases h<;>first|(rename_i h;exact .pure h)|exact .halt
theorem bg{α β:Type}{s:Sem α}{f:α->Sem β}(h:Dd P s):Dd P (s >>= f):=h.bind
theorem bo{α β:Type}{s:Sem α}{f:α->Sem β}(h:Ts P s)(k:∀ a,Dd P (f a)):Dd P (s >>= f):=h.dead k
theorem zX:Ts P program:=.program (.pure _)
theorem cu.add{a a':Addr}(h:cu ρ a a')(n:Nat):cu ρ (a.add n) (a'.add n):=by
 obtain⟨off,spot,hr⟩:=h;unfold Addr.add;split
 ·exact .mk off spot hr
 ·exact .mk (off+n) none hr
theorem nS(h:cu ρ a a'):SR P VR ρ (load a) (load a'):=.load h fun _ _ hv=>.pure hv
theorem I2{v:Value}(h:cu ρ a a')(hv:VR ρ v v'):SR P bM ρ (store a v) (store a' v'):=.store h hv (.pure rfl)
theorem ju:∀ (n:Nat) {ρ:Ren} {a a':Addr} (i:Nat) {p p':Array Value},cu ρ a a'->AR ρ p p'->SR P AR ρ (loadCellsFrom a i n p) (loadCellsFrom a' i n p')
 | 0,_,_,_,_,_,_,_,hp=>.pure hp
 | n+1,ρ,a,a',i,p,p',h,hp=>(nS (h.add i)).seq fun _ hl _ _ hv=>ju n (i+1) (h.mono hl) ((hp.mono hl).push hv)
theorem gC(h:cu ρ a a')(n:Nat):SR P AR ρ (loadCells a n) (loadCells a' n):=ju n 0 h .nil
inductive LR(ρ:Ren):List Value->List Value->Prop
 | nil:LR ρ [] []
 | cons {v v':Value} {l l':List Value}:VR ρ v v'->LR ρ l l'->LR ρ (v::l) (v'::l')
theorem LR.mono{aQ:Ren}(h:ρ.le aQ){l l':List Value}(x:LR ρ l l'):LR aQ l l':=by
 induction x with
 | nil=>exact .nil
 | cons hv _ ih=>exact .cons (hv.mono h) ih
theorem cN:∀ {l l':List Value} {ρ:Ren} {a a':Addr} (i:Nat),cu ρ a a'->LR ρ l l'->SR P bM ρ (storeCells a l i) (storeCells a' l' i)
 | [],l',ρ,a,a',i,h,hl=>by cases hl;exact .pure rfl
 | v::l,l',ρ,a,a',i,h,hl=>by
  cases hl with
  | cons hv hr=>exact(I2 (h.add i) hv).seq fun _ hle _ _ _=>cN (i+1) (h.mono hle) (hr.mono hle)
theorem LR.ofList:∀ {l l':List Value},l.length=l'.length->(∀ (i:Nat) x y,l[i]?=some x->l'[i]?=some y->VR ρ x y)->LR ρ l l'
 | [],[],_,_=>.nil
 | v::l,v'::l',hn,h=>.cons (h 0 v v' rfl rfl) (LR.ofList (by simpa using hn) fun i x y hx hy=>h (i+1) x y (by simpa using hx) (by simpa using hy))
theorem AR.list{p p':Array Value}(h:AR ρ p p'):LR ρ p.toList p'.toList:=LR.ofList (by simpa using h.size) fun i x y hx hy=>h.get i x y (by simpa using hx) (by simpa using hy)
theorem VR.cells{x x':Value}(h:VR ρ x x'):AR ρ x.cells x'.cells:=by
 have one:∀ {v v':Value},VR ρ v v'->AR ρ #[v] #[v']:=fun hv=>(AR.nil).push hv
 cases h with
 | agg h1 h2=>exact⟨h1,h2⟩
 | bool b=>exact one (.bool b)
 | int k n=>exact one (.int k n)
 | float k n=>exact one (.float k n)
 | complex k n m=>exact one (.complex k n m)
 | string s=>exact one (.string s)
 | ptrN=>exact one .ptrN
 | ptr a=>exact one (.ptr a)
 | sliceN l c=>exact one (.sliceN l c)
 | slice l c a=>exact one (.slice l c a)
 | mapN=>exact one .mapN
 | map r=>exact one (.map r)
 | chanN=>exact one .chanN
 | func f a b c d e=>exact one (.func f a b c d e)
 | nilFunc=>exact one .nilFunc
 | iface t v=>exact one (.iface t v)
 | nilIface=>exact one .nilIface
 | tuple a b=>exact one (.tuple a b)
 | junk a=>exact one (.junk a)
theorem sG(t:TypeId)(h:cu ρ a a'):SR P VR ρ (loadVar t a) (loadVar t a') :=
 SR.cl (sF t) fun b=>by
  split
  ·exact SR.cl (aZ t) fun n=>(gC h n).seq fun _ _ _ _ hp=>.pure (.agg hp.size hp.get)
  ·exact nS h
theorem zY(t:TypeId){v:Value}(h:cu ρ a a')(hv:VR ρ v v'):SR P bM ρ (storeVar t a v) (storeVar t a' v') :=
 SR.cl (aZ t) fun n=>by
  have e:=hv.cells.size;by_cases c:v.cells.size≠n
  ·simp only [e▸c,c,ne_eq,not_false_eq_true,if_true];exact .halt
  ·simp only [e▸c,c,if_false];exact cN 0 h hv.cells.list
theorem Gb{o o':Obj}(h:OR ρ o o'):SR P (fun ρ a b=>ρ a b) ρ (newObj o) (newObj o'):=.new h fun _ _ _ _ hr=>.pure hr
theorem cm(e:TypeId){p p':Array Value}(h:AR ρ p p'):SR P cu ρ (newRow e p) (newRow e p'):=(Gb (.cells e (.inl rfl) h)).seq fun _ _ _ _ hr=>.pure (.mk 0 none hr)
theorem vm(t:TypeId){v:Value}(h:VR ρ v v'):SR P cu ρ (newVar t v) (newVar t v'):=cm t h.cells
end
end CO
namespace CO
open Go
variable {v v':Value}
def I3(P:Program):Prop:=∀ (t:TypeId) i z,P.info? t=some i->i.zero=some z->∀ ρ,VR ρ z z
section
variable {P:Program} {ρ:Ren}
abbrev VV:Ren->Value->Value->Prop:=fun ρ a b=>VR ρ a b
theorem bN(hz:I3 P)(t:TypeId):SR P VV ρ (zeroValue t) (zeroValue t):=by
 refine .program ?_;show SR P VV ρ (Sem.bind (match P.info? t with|some i=>Sem.pure i|none=>Sem.halt _) _) (Sem.bind (match P.info? t with|some i=>Sem.pure i|none=>Sem.halt _) _)
 cases hi:P.info? t with
 | none=>exact .halt
 | some i =>
  show SR P VV ρ (match i.zero with|some v=>pure v|none=>_) (match i.zero with|some v=>pure v|none=>_)
  cases hv:i.zero with
  | none=>exact .halt
  | some v=>exact .pure (hz t i v hi hv ρ)
theorem I4(hz:I3 P)(t:TypeId):SR P VV ρ (Instr.alloc t true (.tuple #[])) (Instr.alloc t true (.tuple #[])) :=
 (bN hz t).seq fun _ _ _ _ hv=>(vm t hv).seq fun _ _ _ _ ha=>.pure (.ptr ha)
theorem Rq(t:TypeId)(h:VR ρ v v'):SR P VV ρ (Instr.box t v) (Instr.box t v'):=(vm t h).seq fun _ _ _ _ ha=>.pure (.ptr ha)
theorem Gc(t:TypeId)(h:VR ρ v v'):SR P VV ρ (Instr.loadAt t v) (Instr.loadAt t v'):=(fC h).seq fun _ _ _ _ ha=>sG t ha
theorem Ci(t:TypeId){x x':Value}(h:VR ρ v v')(hx:VR ρ x x'):SR P bM ρ (Instr.storeAt t v x) (Instr.storeAt t v' x'):=(fC h).seq fun _ hl _ _ ha=>zY t ha (hx.mono hl)
theorem Cj{v v':Value}(h:VR ρ v v')(i:Nat):SR P VV ρ (Instr.extract v i) (Instr.extract v' i):=by
 cases h with
 | @tuple p p' h1 h2 =>
  have hA:AR ρ p p':=⟨h1,h2⟩;show SR P VV ρ (match p[i]? with|some v=>pure v|none=>stuck _) (match p'[i]? with|some v=>pure v|none=>stuck _)
  cases hp:p[i]? with
  | none=>exact .halt
  | some x=>obtain⟨y,hy,hR⟩:=hA.some hp;rw [hy];exact .pure hR
 | _=>exact .halt
theorem AR.extract{p p':Array Value}(h:AR ρ p p')(i j:Nat):AR ρ (p.extract i j) (p'.extract i j):=by
 refine⟨by simp [h.size],fun k x y hx hy=>?_⟩;rw [Array.getElem?_extract] at hx hy;rw [<- h.size] at hy;split at hx
 ·rename_i c;rw [if_pos c] at hy;exact h.get _ x y hx hy
 ·cases hx
theorem ft(t:TypeId){p p':Array Value}(h:AR ρ p p')(i:Nat):SR P VV ρ (part t p i) (part t p' i) :=
 SR.cl (sF t) fun b=>by
  split
  ·exact SR.cl (aZ t) fun n=>.pure (.agg (h.extract _ _).size (h.extract _ _).get)
  ·show SR P VV ρ (match p[i]? with|some v=>pure v|none=>stuck _) (match p'[i]? with|some v=>pure v|none=>stuck _)
   cases hp:p[i]? with
   | none=>exact .halt
   | some x=>obtain⟨y,hy,hR⟩:=h.some hp;rw [hy];exact .pure hR
theorem vn(t:TypeId):Ts P (elemOf t):=(az t).ts.bind fun d=>by
 cases d<;>first|exact .pure _|exact .halt trivial
theorem oZ(t:TypeId)(v:Value):Ts P (newVar t v):=(show Ts P (newObj _) from .new fun n=>.pure n).bind fun r=>.pure _
theorem aq{α:Type}(e:RuntimeError):Dd P (runtimePanic e:Sem α):=by
 refine bo (s:=program) zX fun p=>?_
 cases e with
 | typeAssertion i c a m=>exact bo (vn _) fun _=>bo (oZ _ _) fun _=>.halt trivial
 | panicNil=>exact bo (vn _) fun _=>bo (oZ _ _) fun _=>.halt trivial
 | _=>exact .halt trivial
theorem vo(q:Question):Ts P (choose q):=.choose fun n=>.pure n
theorem bS{α:Type}(k:IntKind)(x y:Int)(c:BoundsCode):Dd P (boundsPanic k x y c:Sem α):=by
 unfold boundsPanic;dsimp only;split
 ·exact bo ((vo _).bind fun _=>.pure _) fun _=>aq _
 ·exact bo (.pure _) fun _=>aq _
theorem I5(t:TypeId){x x':Value}(h:VR ρ v v')(hx:VR ρ x x'):SR P VV ρ (Instr.index t v x) (Instr.index t v' x'):=by
 refine(ie hx).seq fun ρ hl ki _ e=>?_;subst e;have h:=h.mono hl;refine SR.cl (az t) fun d=>?_;obtain⟨k,i⟩:=ki
 cases h with
 | agg h1 h2 =>
  cases d with
  | array len elem =>
   show SR P VV ρ (if _ then _ else _) (if _ then _ else _);split
   ·exact SR.cl (aZ elem) fun n=>ft elem ⟨h1,h2⟩ _
   ·exact .dead (bS _ _ _ _)
  | _=>exact .halt
 | string s =>
  cases d with
  | string =>
   show SR P VV ρ (match (if 0<=i then s[i.toNat]? else none) with|some b=>pure (.int .u8 b.toNat)|none=>_) (match (if 0<=i then s[i.toNat]? else none) with|some b=>pure (.int .u8 b.toNat)|none=>_);split
   ·exact .pure (.int _ _)
   ·exact .dead (bS _ _ _ _)
  | _=>exact .halt
 | _=>cases d<;>exact .halt
theorem I6(t:TypeId){v v':Value}(h:VR ρ v v')(i:Nat):SR P VV ρ (Instr.field t v i) (Instr.field t v' i):=by
 refine SR.cl (az t) fun d=>?_
 cases d with
 | struct fields =>
  show SR P VV ρ (match fields[i]? with|some f=>_|none=>stuck _) (match fields[i]? with|some f=>_|none=>stuck _)
  cases fields[i]? with
  | none=>exact .halt
  | some f=>exact(I1 h).seq fun _ _ _ _ hp=>ft f.type hp _
 | _=>exact .halt
end
end CO
namespace CO
open Go
variable {v':Value}
section
variable {P:Program} {ρ:Ren}
theorem pR(o:BinOp)(k:IntKind)(x y:Int):SR P VV ρ (Op.intArith o k x y) (Op.intArith o k x y):=by
 unfold Op.intArith;split<;>first|exact .pure (.int _ _)|exact .halt
theorem Gd(o:BinOp)(k:IntKind)(x y:Int):SR P VV ρ (Op.intDiv o k x y) (Op.intDiv o k x y):=by
 unfold Op.intDiv;split
 ·exact .dead (aq _)
 ·split<;>first|exact .pure (.int _ _)|exact .halt
theorem sH(o:BinOp)(k:IntKind)(x y:Int):SR P VV ρ (Op.intBits o k x y) (Op.intBits o k x y):=by
 unfold Op.intBits;dsimp only;split<;>first|exact .pure (.int _ _)|exact .halt
theorem Ge(o:BinOp)(x y:Int):SR P VV ρ (Op.intCmp o x y) (Op.intCmp o x y):=by
 unfold Op.intCmp;split<;>first|exact .pure (.bool _)|exact .halt
theorem zZ(o:BinOp)(k:IntKind)(x:Int)(yk:IntKind)(y:Int):SR P VV ρ (Op.shift o k x yk y) (Op.shift o k x yk y):=by
 unfold Op.shift;split
 ·exact .dead (aq _)
 ·dsimp only;split<;>first|exact .pure (.int _ _)|exact .halt
theorem lh(o:BinOp)(x y:ByteArray):SR P VV ρ (Op.stringOp o x y) (Op.stringOp o x y):=by
 unfold Op.stringOp;dsimp only;split<;>first|exact .pure (.bool _)|exact .halt|(split<;>first|exact .pure (.string _)|exact .halt)
theorem I7(o:UnOp){x x':Value}(h:VR ρ x x'):SR P VV ρ (Op.unary o x) (Op.unary o x'):=by
 cases h with
 | int k n =>
  cases o with
  | neg=>exact(pR .sub k 0 n:SR P VV ρ _ _)
  | xor=>exact(sH .xor k (if k.signed then -1 else k.max) n:SR P VV ρ _ _)
  | _=>exact .halt
 | _=>cases o<;>first|exact .pure (.bool _)|exact .pure (.float _ _)|exact .pure (.complex _ _ _)|exact .halt
theorem df{v:Value}(h:VR ρ v v')(y:Nat)(c:BoundsCode):SR P bM ρ (Instr.sliceBound v y c) (Instr.sliceBound v' y c):=by
 refine(ie h).seq fun ρ hl ki _ e=>?_;subst e;obtain⟨k,i⟩:=ki;show SR P bM ρ (if _ then _ else _) (if _ then _ else _);split
 ·exact .pure rfl
 ·exact .dead (bS _ _ _ _)
inductive OV(ρ:Ren):Option Value->Option Value->Prop
 | none:OV ρ none none
 | some {v v':Value}:VR ρ v v'->OV ρ (some v) (some v')
theorem du(b:Bool)(len cap:Nat){lo Ow hi ez mx K0:Option Value}(h1:OV ρ lo Ow)(h2:OV ρ hi ez)(h3:OV ρ mx K0):SR P bM ρ (Instr.sliceBounds b len cap lo hi mx) (Instr.sliceBounds b len cap Ow ez K0):=by
 unfold Instr.sliceBounds
 cases h3 with
 | none =>
  cases h2 with
  | none =>
   cases h1 with
   | none=>exact .pure rfl
   | some h=>exact(df h _ _).seq fun _ _ _ _ e=>by subst e;exact .pure rfl
  | some g =>
   refine SR.seq (R:=bM) (SR.ret rfl:SR P bM ρ (pure cap) (pure cap)) fun ρ nf m _ e=>?_;subst e;refine SR.seq (df (g.mono nf) _ _) fun ρ hl a _ e=>?_;subst e
   cases h1 with
   | none=>exact .pure rfl
   | some h=>exact(df (h.mono (nf.trans hl)) _ _).seq fun _ _ _ _ e=>by subst e;exact .pure rfl
 | some f =>
  refine SR.seq (df f _ _) fun ρ hl m _ e=>?_;subst e
  cases h2 with
  | none=>exact .halt
  | some g =>
   refine SR.seq (df (g.mono hl) _ _) fun ρ bZ a _ e=>?_;subst e
   cases h1 with
   | none=>exact .pure rfl
   | some h=>exact(df (h.mono (hl.trans bZ)) _ _).seq fun _ _ _ _ e=>by subst e;exact .pure rfl
theorem I8(t:TypeId){v v':Value}(h:VR ρ v v'){lo Ow hi ez mx K0:Option Value}(h1:OV ρ lo Ow)(h2:OV ρ hi ez)(h3:OV ρ mx K0):SR P VV ρ (Instr.slice t v lo hi mx) (Instr.slice t v' Ow ez K0):=by
 unfold Instr.slice;refine SR.cl (az t) fun d=>?_
 cases h with
 | string s =>
  cases d with
  | string =>
   have e:mx.isSome=K0.isSome:=by cases h3<;>rfl
   show SR P VV ρ (if mx.isSome=true then _ else _) (if K0.isSome=true then _ else _);rw [e];split
   ·exact .halt
   ·exact(du false s.size s.size h1 h2 .none).seq fun _ _ _ _ e=>by subst e;exact .pure (.string _)
  | pointer _=>exact .halt
  | _=>exact .halt
 | sliceN l c =>
  cases d with
  | slice elem=>exact(du true l c h1 h2 h3).seq fun _ _ x _ e=>by subst e;exact SR.cl (aZ elem) fun n=>by obtain⟨a,b,m⟩:=x;simp only [Option.map_none,ite_self];exact .pure (.sliceN _ _)
  | pointer _=>exact .halt
  | _=>exact .halt
 | slice l c ha =>
  cases d with
  | slice elem =>
   refine(du true l c h1 h2 h3).seq fun _ hl x _ e=>?_;subst e;refine SR.cl (aZ elem) fun n=>?_;obtain⟨a,b,m⟩:=x;simp only [ah2];by_cases c:m=a
   ·rw [if_pos c,if_pos c];exact .pure (.slice _ _ (ha.mono hl))
   ·rw [if_neg c,if_neg c];exact .pure (.slice _ _ ((ha.mono hl).add _))
  | pointer _=>exact .halt
  | _=>exact .halt
 | ptrN =>
  cases d with
  | pointer arr=>exact .dead (bg (s:=asAddr (.pointer none)) (aq (α:=Addr) .nilDeref))
  | _=>exact .halt
 | ptr ha =>
  cases d with
  | pointer arr =>
   show SR P VV ρ (underlying arr >>= _) (underlying arr >>= _);refine SR.cl (az arr) fun d2=>?_
   cases d2 with
   | array n elem =>
    refine(du false n n h1 h2 h3).seq fun _ hl x _ e=>?_;subst e;refine SR.cl (aZ elem) fun z=>?_;obtain⟨a,b,m⟩:=x;by_cases c:m=a
    ·simp only [if_pos c];exact .pure (.slice _ _ (ha.mono hl))
    ·simp only [if_neg c];exact .pure (.slice _ _ ((ha.mono hl).add _))
   | _=>exact .halt
  | _=>exact .halt
 | _=>cases d<;>exact .halt
theorem Ck(t:TypeId){v:Value}(h:VR ρ v v'){lo Ow hi ez mx K0:Option Value}(h1:OV ρ lo Ow)(h2:OV ρ hi ez)(h3:OV ρ mx K0):SR P VV ρ (Instr.sliceAt t v lo hi mx) (Instr.sliceAt t v' Ow ez K0):=by
 unfold Instr.sliceAt;have up:∀ {ρ aQ:Ren} {o o':Option Value},ρ.le aQ->OV ρ o o'->OV aQ o o':=fun hl h=>by cases h with|none=>exact .none|some hv=>exact .some (hv.mono hl)
 refine SR.cl (az t) fun d=>?_
 cases d with
 | array n elem =>
  refine(fC h).seq fun ρ hl a a' ha=>?_;refine(du false n n (up hl h1) (up hl h2) (up hl h3)).seq fun _ bZ x _ e=>?_;subst e;refine SR.cl (aZ elem) fun z=>?_;obtain⟨p,b,m⟩:=x;by_cases c:m=p
  ·simp only [if_pos c];exact .pure (.slice _ _ (ha.mono bZ))
  ·simp only [if_neg c];exact .pure (.slice _ _ ((ha.mono bZ).add _))
 | _=>exact I8 t h h1 h2 h3
theorem Cm(t:TypeId){v x x':Value}(h:VR ρ v v')(hx:VR ρ x x'):SR P VV ρ (Instr.indexAt t v x) (Instr.indexAt t v' x'):=by
 unfold Instr.indexAt;refine(ie hx).seq fun db hl ki _ e=>?_;subst e;obtain⟨k,i⟩:=ki;have h:=h.mono hl
 have fin:∀ {ρ:Ren} {a a':Option Addr} (len:Nat) (elem:TypeId),(a=none/\a'=none∨∃ b b',a=some b/\a'=some b'/\cu ρ b b')->SR P VV ρ (do
   let Rr:=len<=1&&(match<-underlying t with|.array ..=>true|_=>false)
   match a with
   | some a =>
    if 0<=i/\i<len then pure (.pointer (some (a.add (i.toNat*(<- sizeOf elem)))))
    else if Rr then unsupported (.noEntry "op/indexAddr.an index out of range at an array of length 0 or 1 (ledger 616)")
    else boundsPanic k i len .index
   | none=>boundsPanic k i 0 .index) (do
   let Rr:=len<=1&&(match<-underlying t with|.array ..=>true|_=>false)
   match a' with
   | some a =>
    if 0<=i/\i<len then pure (.pointer (some (a.add (i.toNat*(<- sizeOf elem)))))
    else if Rr then unsupported (.noEntry "op/indexAddr.an index out of range at an array of length 0 or 1 (ledger 616)")
    else boundsPanic k i len .index
   | none=>boundsPanic k i 0 .index):=by
  intro ρ a a' len elem ha;refine SR.cl (az t) fun d=>?_;rcases ha with⟨rfl,rfl⟩|⟨b,b',rfl,rfl,hb⟩
  ·exact .dead (bS _ _ _ _)
  ·dsimp only;by_cases c:0<=i/\i<(len:Int)
   ·simp only [if_pos c];exact SR.cl (aZ elem) fun n=>.pure (.ptr (hb.add _))
   ·simp only [if_neg c];repeat' split
    all_goals first|exact .halt|exact .dead (bS _ _ _ _)
 refine SR.cl (az t) fun d=>?_
 cases d with
 | array len elem=>exact(fC h).seq fun _ _ a a' ha=>fin len elem (.inr ⟨a,a',rfl,rfl,ha⟩)
 | slice elem =>
  cases h with
  | sliceN l c=>exact fin l elem (.inl ⟨rfl,rfl⟩)
  | slice l c ha=>exact fin l elem (.inr ⟨_,_,rfl,rfl,ha⟩)
  | _=>exact .halt
 | _=>exact .halt
end
end CO
namespace CO
open Go
section
variable {P:Program} {ρ:Ren}
theorem AR.set{p p':Array Value}(h:AR ρ p p')(i:Nat){v v':Value}(hv:VR ρ v v'):AR ρ (p.setIfInBounds i v) (p'.setIfInBounds i v'):=by
 refine⟨by simp [h.size],fun j x y hx hy=>?_⟩;rw [aif] at hx hy;rw [<- h.size] at hy;split at hx
 ·rename_i hi;rw [if_pos hi] at hy;split at hx
  ·rename_i KZ;rw [if_pos KZ] at hy;cases hx;cases hy;exact hv
  ·cases hx
 ·rename_i hi;rw [if_neg hi] at hy;exact h.get j x y hx hy
inductive PR(ρ:Ren):List (Nat×Value)->List (Nat×Value)->Prop
 | nil:PR ρ [] []
 | cons (i:Nat) {v v':Value} {l l':List (Nat×Value)}:VR ρ v v'->PR ρ l l'->PR ρ ((i,v)::l) ((i,v')::l')
inductive sI(ρ:Ren):List (Value×Nat)->List (Value×Nat)->Prop
 | nil:sI ρ [] []
 | cons (i:Nat) {v v':Value} {l l':List (Value×Nat)}:VR ρ v v'->sI ρ l l'->sI ρ ((v,i)::l) ((v',i)::l')
theorem I9{l l':List Value}(h:LR ρ l l'):∀ n,sI ρ (l.zipIdx n) (l'.zipIdx n):=by
 induction h with
 | nil=>exact fun _=>.nil
 | cons hv _ ih=>exact fun n=>.cons n hv (ih (n+1))
theorem Gg{l l':List (Value×Nat)}(h:sI ρ l l')(off:Nat):∀ {cs cs':Array Value},AR ρ cs cs'->AR ρ (l.foldl (fun cs p=>cs.setIfInBounds (off+p.2) p.1) cs) (l'.foldl (fun cs p=>cs.setIfInBounds (off+p.2) p.1) cs'):=by
 induction h with
 | nil=>exact fun h=>h
 | cons i hv _ ih=>exact fun h=>ih (h.set _ hv)
theorem ig(place:Nat->Option (Nat×Nat)):∀ {l l':List (Nat×Value)} {cs cs':Array Value},PR ρ l l'->AR ρ cs cs'->(Instr.fill place cs l=none/\Instr.fill place cs' l'=none)∨∃ a a',Instr.fill place cs l=some a/\Instr.fill place cs' l'=some a'/\AR ρ a a'
 | [],_,cs,cs',.nil,h=>.inr ⟨cs,cs',rfl,rfl,h⟩
 | (i,v)::l,_,cs,cs',.cons _ (v':=v') (l':=l') hv hl,h=>by
  unfold Instr.fill
  cases place i with
  | none=>exact .inl ⟨rfl,rfl⟩
  | some os =>
   obtain⟨off,size⟩:=os;dsimp only;have e1:=hv.cells.size;have e2:=h.size;rw [<- e1,<-e2];split
   ·exact .inl ⟨rfl,rfl⟩
   ·refine ig place hl ?_;have e:∀ (c z:Array Value),c.zipIdx.foldl (fun cs (p:Value×Nat)=>cs.setIfInBounds (off+p.2) p.1) z=(c.toList.zipIdx 0).foldl (fun cs p=>cs.setIfInBounds (off+p.2) p.1) z:=fun c z=>by rw [<- Array.foldl_toList,Array.toList_zipIdx]
    have:=Gg (I9 hv.cells.list 0) off h;rw [<- e,<-e] at this;exact this
theorem Ja{α β:Type}{f:α->Sem β}(h:∀ a,Cl P (f a))(xs:Array α):Cl P (xs.mapM f):=by
 rw [Array.mapM_eq_foldlM];rw [<- Array.foldlM_toList];have key:∀ (l:List α) (z:Array β),Cl P (l.foldlM (fun bs a=>do let b<-f a;pure (bs.push b)) z):=by
  intro l
  induction l with
  | nil=>exact fun z=>.pure z
  | cons a l ih=>exact fun z=>by rw [List.foldlM_cons];exact((h a).bind fun b=>.pure _).bind fun c=>ih c
 exact key _ _
theorem Jc(hz:I3 P)(t:TypeId){ps Vs:Array (Nat×Value)}(h:PR ρ ps.toList Vs.toList):SR P VV ρ (Instr.build t ps) (Instr.build t Vs):=by
 unfold Instr.build;have up:∀ {ρ aQ:Ren} {l l':List (Nat×Value)},ρ.le aQ->PR ρ l l'->PR aQ l l':=fun hl h=>by
  induction h with
  | nil=>exact .nil
  | cons i hv _ ih=>exact .cons i (hv.mono hl) ih
 refine(bN hz t).seq fun db hl z z' ur=>?_;have h:=up hl h;refine SR.cl (az t) fun d=>?_
 cases d with
 | struct fields =>
  refine SR.cl (Ja (fun f=>(aZ _).bind fun n=>.pure _) fields) fun places=>?_;rcases ig (fun x=>places[x]?) h ur.cells with⟨h1,h2⟩|⟨a,a',h1,h2,ha⟩
  ·simp only [h1,h2];exact .halt
  ·simp only [h1,h2];exact .pure (.agg ha.size ha.get)
 | array n elem =>
  refine SR.cl (aZ elem) fun size=>?_;rcases ig (fun i=>some (i*size,size)) h ur.cells with⟨h1,h2⟩|⟨a,a',h1,h2,ha⟩
  ·simp only [h1,h2];exact .halt
  ·simp only [h1,h2];exact .pure (.agg ha.size ha.get)
 | _=>exact .halt
theorem AR.rep{z z':Array Value}(h:AR ρ z z')(n:Nat)(hp:0<n->0<z.size):AR ρ ((Array.range n).map fun i=>z[i%z.size]!) ((Array.range n).map fun i=>z'[i%z'.size]!):=by
 refine⟨ag,fun i x y hx hy=>?_⟩;simp only [aik,ahs] at hx hy;obtain⟨a,ha,rfl⟩:=hx;obtain⟨b,hb,rfl⟩:=hy;rw [ha] at hb;cases hb;have hn:0<n:=by
  have:=(ahx.1 ha).1;simp at this;omega
 have hs:=hp hn;have h1:a%z.size<z.size:=Nat.mod_lt _ hs;have h2:a%z'.size<z'.size:=by rw [<- h.size];exact h1
 rw [getElem!_pos z _ h1,getElem!_pos z' _ h2];refine h.get (a%z.size) _ _ (by simp [h1]) ?_;have e:a%z'.size=a%z.size:=by rw [h.size]
 simp only [e];exact ahO (by rw [<- h.size];exact h1)
theorem AR.Jd{z z':Array Value}(h:AR ρ z z')(n:Nat):AR ρ ((Array.range n).map fun i=>z[i%z.size]!) ((Array.range n).map fun i=>z'[i%z'.size]!):=by
 by_cases c:0<z.size
 ·exact h.rep n fun _=>c
 ·have e1:z=#[]:=by apply Array.eq_empty_of_size_eq_zero;omega
  have e2:z'=#[]:=by apply Array.eq_empty_of_size_eq_zero;rw [<- h.size];omega
  subst e1;subst e2;refine⟨ag,fun i x y hx hy=>?_⟩;rw [hx] at hy;cases hy;simp only [aik,ahs] at hx;obtain⟨a,_,rfl⟩:=hx;exact .bool _
end
section
variable {P:Program} {ρ:Ren}
theorem PR.mono{aQ:Ren}{l l':List (Nat×Value)}(hl:ρ.le aQ)(h:PR ρ l l'):PR aQ l l':=by
 induction h with
 | nil=>exact .nil
 | cons i hv _ ih=>exact .cons i (hv.mono hl) ih
theorem uv(hz:I3 P)(t:TypeId)(len:Nat){ps Vs:Array (Nat×Value)}(h:PR ρ ps.toList Vs.toList):SR P VV ρ (Instr.buildSlice t len ps) (Instr.buildSlice t len Vs):=by
 unfold Instr.buildSlice;refine SR.cl (az t) fun d=>?_
 cases d with
 | slice elem =>
  refine SR.cl (aZ elem) fun size=>?_;by_cases c:len*size>2 ^ 24
  ·simp only [if_pos c];exact .halt
  ·simp only [if_neg c];by_cases c0:len*size=0
   ·simp only [if_pos c0];refine SR.seq (R:=AR) (SR.ret AR.nil:SR P AR ρ (pure #[]) (pure #[])) fun db hl z z' hA=>?_;rcases ig (fun i=>some (i*size,size)) (h.mono hl) (hA.Jd (len*size)) with⟨h1,h2⟩|⟨a,a',h1,h2,ha⟩
    ·simp only [h1,h2];exact .halt
    ·simp only [h1,h2];exact(cm elem ha).seq fun _ _ _ _ hb=>.pure (.slice _ _ hb)
   ·simp only [if_neg c0];refine(bN hz elem).seq fun Cn nf v v' hv=>?_;refine SR.seq (R:=AR) (SR.ret hv.cells:SR P AR Cn (pure v.cells) (pure v'.cells)) fun db hl z z' hA=>?_;rcases ig (fun i=>some (i*size,size)) (h.mono (nf.trans hl)) (hA.Jd (len*size)) with⟨h1,h2⟩|⟨a,a',h1,h2,ha⟩
    ·simp only [h1,h2];exact .halt
    ·simp only [h1,h2];exact(cm elem ha).seq fun _ _ _ _ hb=>.pure (.slice _ _ hb)
 | _=>exact .halt
theorem dH{x x':Value}(h:VR ρ x x'):SR P bM ρ (asInt x) (asInt x'):=(ie h).seq fun _ _ a b e=>by subst e;exact .pure rfl
theorem dw(n:Nat):SR P bM ρ (askRoom n) (askRoom n):=by
 unfold askRoom;split
 ·exact .room (.pure rfl)
 ·exact .pure rfl
theorem xx(hz:I3 P)(t:TypeId){x x' y y':Value}(h:VR ρ x x')(g:VR ρ y y'):SR P VV ρ (Instr.makeSlice t x y) (Instr.makeSlice t x' y'):=by
 unfold Instr.makeSlice;refine SR.cl (az t) fun d=>?_
 cases d with
 | slice elem =>
  refine(dH h).seq fun db hl len _ e=>?_;subst e;refine(dH (g.mono hl)).seq fun dX bZ cap _ e=>?_;subst e;refine SR.cl (aP elem) fun ti=>?_;dsimp only;split
  ·split
   ·exact .dead (bg (aq _))
   ·split
    ·exact .dead (bg (aq _))
    ·first|exact .dead (bo (oZ _ _) fun _=>bg (aq _))|exact .dead (bo (.pure _) fun _=>bg (aq _))|exact .dead (bo ((vo _).bind fun _=>.pure _) fun _=>bg (aq _))
  ·refine(dw _).seq fun tQ fH _ _ _=>?_;refine SR.cl (aZ elem) fun size=>?_;split
   ·refine SR.seq (R:=AR) (SR.ret AR.nil:SR P AR tQ (pure #[]) (pure #[])) fun Co o0 z z' hA=>?_;exact(cm elem (hA.Jd _)).seq fun _ _ _ _ hb=>.pure (.slice _ _ hb)
   ·refine(bN hz elem).seq fun Cn nf v v' hv=>?_;refine SR.seq (R:=AR) (SR.ret hv.cells:SR P AR Cn (pure v.cells) (pure v'.cells)) fun Co o0 z z' hA=>?_;exact(cm elem (hA.Jd _)).seq fun _ _ _ _ hb=>.pure (.slice _ _ hb)
 | _=>exact .halt
theorem o5(t:TypeId){x x':Value}(h:VR ρ x x'):SR P VV ρ (Instr.makeInterface t x) (Instr.makeInterface t x'):=by
 refine SR.cl (az t) fun d=>?_
 cases d with
 | interface _=>exact .halt
 | _=>exact .pure (.iface t h)
theorem z8(f:FuncId)(hf:ρ.F f){p p' q q':Array Value}(h:AR ρ p p')(g:AR ρ q q'):SR P VV ρ (Instr.makeFunc (.func f) p q) (Instr.makeFunc (.func f) p' q')   := .pure (.func f hf h.size g.size h.get g.get)
theorem lj{x x':Value}(h:VR ρ x x'):SR P bM ρ (Builtin.lenOf x) (Builtin.lenOf x'):=by
 cases h<;>first|exact .pure rfl|exact .halt
theorem bl(size n:Nat){x x':Value}(h:VR ρ x x'):SR P AR ρ (Builtin.firstCells size n x) (Builtin.firstCells size n x'):=by
 cases h with
 | slice l c ha=>exact gC ha _
 | sliceN l c=>exact .pure .nil
 | string s=>exact .pure ⟨rfl,fun i a b ha hb=>by
   rw [ha] at hb;cases hb
   simp only [aik,ahs] at ha
   obtain⟨c,_,rfl⟩:=ha
   exact .int _ _⟩
 | _=>exact .halt
theorem AR.append{p p' q q':Array Value}(h:AR ρ p p')(g:AR ρ q q'):AR ρ (p++q) (p'++q'):=by
 refine⟨by simp [h.size,g.size],fun i x y hx hy=>?_⟩;rw [Array.getElem?_append] at hx hy;rw [<- h.size] at hy;split at hx
 ·rename_i c;rw [if_pos c] at hy;exact h.get i x y hx hy
 ·rename_i c;rw [if_neg c] at hy;exact g.get _ x y hx hy
end
section
variable {P:Program} {ρ:Ren}
theorem sJ{p p':Array Value}(h:AR ρ p p')(i:Nat):(p[i]?=none/\p'[i]?=none)∨∃ x y,p[i]?=some x/\p'[i]?=some y/\VR ρ x y:=by
 cases c:p[i]? with
 | none=>exact .inl ⟨rfl,h.none c⟩
 | some x=>obtain⟨y,h1,h2⟩:=h.some c;exact .inr ⟨x,y,rfl,h1,h2⟩
theorem MQ(ts:Array TypeId)(t:TypeId){p p':Array Value}(h:AR ρ p p'):SR P VV ρ (Builtin.copy_ ts t p) (Builtin.copy_ ts t p'):=by
 unfold Builtin.copy_
 cases ts[0]? with
 | none=>exact .halt
 | some dt =>
  rcases sJ h 0 with⟨h1,h2⟩|⟨x,y,h1,h2,hx⟩
  ·rw [h1,h2];exact .halt
  rcases sJ h 1 with⟨h3,h4⟩|⟨u,v,h3,h4,hu⟩
  ·rw [h1,h2,h3,h4];exact .halt
  rw [h1,h2,h3,h4];refine SR.cl (az dt) fun d=>?_
  cases d with
  | slice elem =>
   have tail:∀ {a a':Option Addr} (l:Nat),(a=none/\a'=none∨∃ b b',a=some b/\a'=some b'/\cu ρ b b')->SR P VV ρ (do
     let n:=Nat.min (<- Builtin.lenOf u) l
     let cells<-Builtin.firstCells (<- sizeOf elem) n u
     if let some a:=a then storeCells a cells.toList
     pure (goInt n)) (do
     let n:=Nat.min (<- Builtin.lenOf v) l
     let cells<-Builtin.firstCells (<- sizeOf elem) n v
     if let some a:=a' then storeCells a cells.toList
     pure (goInt n)):=by
    intro a a' l ha;refine(lj hu).seq fun db hl n _ e=>?_;subst e;refine SR.cl (aZ elem) fun size=>?_;refine(bl size (Nat.min n l) (hu.mono hl)).seq fun dX bZ c c' hc=>?_;rcases ha with⟨rfl,rfl⟩|⟨b,b',rfl,rfl,hb⟩
    ·exact .pure (.int _ _)
    ·exact(cN 0 (hb.mono (hl.trans bZ)) hc.list).seq fun _ _ _ _ _=>.pure (.int _ _)
   cases hx with
   | sliceN l c=>exact tail l (.inl ⟨rfl,rfl⟩)
   | slice l c ha=>exact tail l (.inr ⟨_,_,rfl,rfl,ha⟩)
   | _=>exact .halt
  | _=>exact .halt
theorem Rs(ts:Array TypeId)(t:TypeId){p p':Array Value}(h:AR ρ p p'):SR P VV ρ (Builtin.len_ ts t p) (Builtin.len_ ts t p'):=by
 unfold Builtin.len_
 cases ts[0]? with
 | none=>exact .halt
 | some dt =>
  rcases sJ h 0 with⟨h1,h2⟩|⟨x,y,h1,h2,hx⟩
  ·rw [h1,h2];exact .halt
  rw [h1,h2];refine SR.cl (az dt) fun d=>?_
  cases d with
  | array n e=>exact .pure (.int _ _)
  | pointer arr =>
   refine SR.cl (az arr) fun d2=>?_;cases d2<;>first|exact .pure (.int _ _)|exact .halt
  | string=>cases hx<;>first|exact .pure (.int _ _)|exact .halt
  | slice e=>cases hx<;>first|exact .pure (.int _ _)|exact .halt
  | chan _ _=>cases hx<;>first|exact .pure (.int _ _)|exact .halt
  | map k e =>
   cases hx with
   | mapN=>exact .pure (.int _ _)
   | map hr =>
    refine .getObj hr fun o o' ho=>?_
    cases ho with
    | map k he =>
     show SR P VV _ (Sem.pure (goInt _)) (Sem.pure (goInt _));rw [he.size];exact .pure (.int _ _)
    | _=>exact .halt
   | _=>exact .halt
  | _=>exact .halt
theorem Rt(ts:Array TypeId)(t:TypeId){p p':Array Value}(h:AR ρ p p'):SR P VV ρ (Builtin.cap_ ts t p) (Builtin.cap_ ts t p'):=by
 unfold Builtin.cap_
 cases ts[0]? with
 | none=>exact .halt
 | some dt =>
  rcases sJ h 0 with⟨h1,h2⟩|⟨x,y,h1,h2,hx⟩
  ·rw [h1,h2];exact .halt
  rw [h1,h2];refine SR.cl (az dt) fun d=>?_
  cases d with
  | array n e=>exact .pure (.int _ _)
  | pointer arr =>
   refine SR.cl (az arr) fun d2=>?_;cases d2<;>first|exact .pure (.int _ _)|exact .halt
  | slice e=>cases hx<;>first|exact .pure (.int _ _)|exact .halt
  | chan _ _=>cases hx<;>first|exact .pure (.int _ _)|exact .halt
  | _=>exact .halt
end
end CO
