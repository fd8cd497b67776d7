/- Part of the proof. -/
import Derived.Test.YtmbbagbhmjaedaaGreatDoorCab
import Derived.Deep.Quiet
set_option linter.all false
namespace FM
open Go Go.RowKit
variable {d b N:Nat}{L L0:Nat->aO}{w w0:World}{tmps:Array Value}
inductive TK where
 | plain|slice (e:Nat)|struct (fs:List (Nat×Nat))|arr (n e:Nat)|str|int (k:IntKind)
structure TI where
 k:TK
 size:Nat
 bytes:Nat
 zero:List AV
def AV.toV:AV->Value
 | .int n=>.int .i64 n
 | .bool b=>.bool b
 | .str s=>.string ⟨s.toArray⟩
 | .val v=>v
 | .nil=>.slice none 0 0
 | _=>undef
def AV.aR:AV->Bool
 | .int _|.bool _|.str _|.val _|.nil=>true
 | _=>false
def TK.isAgg:TK->Bool
 | .struct _|.arr _ _=>true
 | _=>false
def TK.er:TK->TypeDesc->Prop
 | .plain,d=>(match d with|.struct _|.array _ _=>False|_=>True)
 | .slice e,d=>d=.slice e
 | .struct fs,d=>∃ fields:Array Field,d=.struct fields/\fields.toList.map (fun f=>(f.offset,f.type))=fs
 | .arr n e,d=>d=.array n e
 | .str,d=>d=.string
 | .int k,d=>d=.int k
structure tT(P:Program)(t:Nat)(i:TI):Prop where
 desc:∃ d,P.underlying t=some d/\i.k.er d
 info:∃ f z,P.info? t=some f/\f.size=i.size/\f.bytes=i.bytes/\f.zero=some z/\z.cells.toList=i.zero.map AV.toV/\i.zero.all AV.aR=true/\z.cells.size=i.size
structure Sys where
 P:Program
 T:Nat->Option TI
 ok:∀ t i,T t=some i->tT P t i
 mixed:P.follows .mixedOrders=true
 M:Nat->Bool
 v0:Nat->Value
 D:List Deferred:=[]
 X:List PanicEntry->List (Nat×AV)->Prop:=fun _ _=>False
structure oC(S:Sys)(N d:Nat):Prop where
 lt:d<N
 ge:S.M d=false
theorem oC.ne{S:Sys}{i:Nat}(h:oC S N d)(hi:S.M i=true):d≠i:=fun e=>by subst e;rw [h.ge] at hi;cases hi
inductive TV where
 | none
 | av (x:AV)
 | ref (s:Nat)
 | rref (s i:Nat) (y:AV)
 | ptr (s i c:Nat) (y:AV)
 | fpt (s o:Nat) (y:AV)
 | rptr (s i j:Nat) (y:AV)
 | dptr (x:AV)
 | bdp (s:Nat) (x:AV)
 | bor (s:Nat) (x:AV)
 | clo (f:Nat) (caps:List Nat)
inductive St where
 | nil
 | put (n:Nat) (tv:TV) (σ:St)
 | upd (deep:Bool) (n:Nat) (tv:TV) (σ:St)
def TV.dep(n:Nat):TV->Bool
 | .ref s|.rref s _ _|.ptr s _ _ _|.fpt s _ _|.rptr s _ _ _|.bor s _|.bdp s _=>Nat.beq s n
 | .clo _ caps=>caps.any fun s=>Nat.beq s n
 | _=>false
def TV.bk(deep:Bool)(n:Nat):TV->TV
 | .bor s x=>bif Nat.beq s n then .none else .bor s x
 | .bdp s x=>bif Nat.beq s n then .none else .bdp s x
 | .rref s i y=>bif Nat.beq s n then(bif deep then .rref s i .dead else .none) else .rref s i y
 | .rptr s i j y=>bif Nat.beq s n then(bif deep then .rptr s i j .dead else .none) else .rptr s i j y
 | .ptr s i c y=>bif Nat.beq s n then .ptr s i c .dead else .ptr s i c y
 | .fpt s o y=>bif Nat.beq s n then .fpt s o .dead else .fpt s o y
 | tv=>tv
def TV.kill(n:Nat):TV->TV
 | .none=>.none
 | .av x=>.av x
 | .ref s=>bif Nat.beq s n then .none else .ref s
 | .rref s i y=>bif Nat.beq s n then .none else .rref s i y
 | .ptr s i c y=>bif Nat.beq s n then .none else .ptr s i c y
 | .fpt s o y=>bif Nat.beq s n then .none else .fpt s o y
 | .rptr s i j y=>bif Nat.beq s n then .none else .rptr s i j y
 | .dptr x=>.dptr x
 | .bdp s x=>bif Nat.beq s n then .none else .bdp s x
 | .bor s x=>bif Nat.beq s n then .none else .bor s x
 | .clo f caps=>bif caps.any fun s=>Nat.beq s n then .none else .clo f caps
theorem aY(n:Nat)(tv:TV):tv.kill n=bif tv.dep n then .none else tv:=by cases tv<;>rfl
def get:St->Nat->TV
 | .nil,_=>.none
 | .put n tv σ,m=>bif Nat.beq n m then tv else(get σ m).kill n
 | .upd d n tv σ,m=>bif Nat.beq n m then tv else(get σ m).bk d n
def AV.aW:AV->Bool
 | .sl true _ _|.pt true _|.tup _|.mp true _|.ms true _=>true
 | _=>false
def TV.plain:TV->Bool
 | .none|.ref _=>false
 | .av x=>!x.aW
 | _=>true
def AV.ofV:Value->AV
 | .int .i64 n=>.int n
 | .bool b=>.bool b
 | .string s=>.str s.data.toList
 | .slice none 0 0=>.nil
 | v=>.val v
def ov(σ:St):Operand->TV
 | .tmp t=>get σ t
 | .const v=>.av (AV.ofV v)
 | .func f=>.av (.val (.func (.func f) #[] #[]))
 | .global _=>.none
def aO.bm(s:Nat):aO->aO
 | .my (t::q)=>bif Nat.beq t s then .sh else .my (t::q)
 | l=>l
def Hold(L:Nat->aO)(w:World)(tmps:Array Value)(n:Nat):TV->Value->Prop
 | .none,_=>True
 | .av x,v=>Rep L w (some [n]) x v
 | .ref s,v=>v=tmps.getD s undef
 | .rref s i y,v=>∃ b,L b=.my [s]/\w.cell? ⟨b,i,none⟩=some v/\(y≠.dead->Rep L w (some [s,i]) y v)
 | .ptr s i c y,v=>∃ b,L b=.my [s]/\v=.pointer (some ⟨b,i*c,none⟩)/\(y≠.dead->∀ j z,y.cells[j]?=some z->∃ u,w.cell? ⟨b,i*c+j,none⟩=some u/\Rep L w (some [s,i*c+j]) z u)
 | .fpt s o y,v=>∃ b,L b=.my [s]/\v=.pointer (some ⟨b,o,none⟩)/\(y≠.dead->∀ j z,y.cells[j]?=some z->∃ u,w.cell? ⟨b,o+j,none⟩=some u/\Rep L w (some [s,o+j]) z u)
 | .rptr s i j y,v=>∃ b,L b=.my [s,i]/\v=.pointer (some ⟨b,j,none⟩)/\(y≠.dead->∃ u,w.cell? ⟨b,j,none⟩=some u/\Rep L w (some [s,i,j]) y u)
 | .dptr x,v=>∃ b off,v=.pointer (some ⟨b,off,none⟩)/\L b=.sh/\b<w.heap.size/\∀ j y,x.cells[j]?=some y->∃ u,w.cell? ⟨b,off+j,none⟩=some u/\Rep L w none y u
 | .bdp s x,v=>∃ b off,v=.pointer (some ⟨b,off,none⟩)/\(L b).bm s=.sh/\b<w.heap.size/\∀ j y,x.cells[j]?=some y->∃ u,w.cell? ⟨b,off+j,none⟩=some u/\Rep (fun b=>(L b).bm s) w none y u
 | .bor s x,v=>Rep (fun b=>(L b).bm s) w none x v
 | .clo f caps,v=>v=.func (.func f) #[] (caps.map fun s=>tmps.getD s undef).toArray
structure gf(L0:Nat->aO)(w0 w:World):Prop where
 os:w.os=w0.os
 tape:w.tape=w0.tape
 output:w.output=w0.output
 size:w0.heap.size<=w.heap.size
 block:∀ b,b<w0.heap.size->(∀ p,L0 b≠.my p)->w.heap[b]?=w0.heap[b]?
structure tU(L0:Nat->aO)(w0:World)(L:Nat->aO)(w:World):Prop where
 lt:∀ b p,L b=.my p->b<w.heap.size
 inj:∀ b b' p,L b=.my p->L b'=.my p->b=b'
 head:∀ b p,L b=.my p->p≠[]
 old:∀ b p,b<w0.heap.size->L b=.my p->∃ q,L0 b=.my q
 fo:∀ b,b<w0.heap.size->(L b=.fo↔L0 b=.fo)
 new:∀ b,w0.heap.size<=b->L b≠.fo
structure RelL(S:Sys)(w0:World)(L0:Nat->aO)(N:Nat)(σ:St)(a:Act)(w:World)(L:Nat->aO):Prop where
 defers:a.defers=S.D
 size:a.tmps.size=N
 keep:gf L0 w0 w
 lok:tU L0 w0 L w
 hold:∀ n,n<N->Hold L w a.tmps n (get σ n) (a.tmps.getD n undef)
 out:∀ n,N<=n->get σ n=.none
 fix:∀ i,S.M i=true->a.tmps.getD i undef=S.v0 i
 glob:kg L0 w0
theorem RelL.gh{S:Sys}{σ:St}{a:Act}(h:RelL S w0 L0 N σ a w L):kg L w :=
 h.glob.move h.keep.size fun b hb kx=>⟨(by
  cases hL:L b with
  | sh=>rfl
  | fo=>have:=(h.lok.fo b hb).1 hL;rw [kx] at this;cases this
  | my p=>obtain⟨q,hq⟩:=h.lok.old b p hb hL;rw [kx] at hq;cases hq),h.keep.block b hb (fun p hp=>by rw [kx] at hp;cases hp)⟩
def Rel(S:Sys)(w0:World)(L0:Nat->aO)(N:Nat)(σ:St)(a:Act)(w:World):Prop:=∃ L,RelL S w0 L0 N σ a w L
def Pf(S:Sys)(w0:World)(L0:Nat->aO)(ch:List PanicEntry)(w:World):Prop :=
 ∃ L ps,S.X ch ps/\gf L0 w0 w/\tU L0 w0 L w/\∀ p∈ps,Rep L w (some [p.1]) p.2 (S.v0 p.1)
structure mw(S:Sys)(N:Nat)(w0:World)(L0:Nat->aO)(ch:List PanicEntry)(a:Act)(w:World):Prop where
 defers:a.defers=S.D
 size:a.tmps.size=N
 fix:∀ i,S.M i=true->a.tmps.getD i undef=S.v0 i
 dies:Pf S w0 L0 ch w
structure OutJ(S:Sys)(N:Nat)(w0:World)(L0:Nat->aO)(K:St->Prop)(Q:Exit->Act->World->Prop):Prop where
 nrm:∀ (bx:St) (a':Act) (w':World),K bx->Rel S w0 L0 N bx a' w'->Q .normal a' w'
 die:∀ (ch:List PanicEntry) (a':Act) (w':World),mw S N w0 L0 ch a' w'->Q (.panic ch) a' w'
instance {S : Sys} {N : Nat} {w0 : World} {L0 : Nat -> aO} {K : St -> Prop} {Q : Exit -> Act -> World -> Prop} : CoeFun (OutJ S N w0 L0 K Q) fun _ => ∀ (bx : St) (a' : Act) (w' : World), K bx -> Rel S w0 L0 N bx a' w' -> Q .normal a' w' := ⟨OutJ.nrm⟩
structure OutC(S:Sys)(N:Nat)(w0:World)(L0:Nat->aO)(Q:Exit->St->Prop)(Q':Exit->Act->World->Prop):Prop where
 nrm:∀ (e:Exit) (bx:St) (a':Act) (w':World),Q e bx->Rel S w0 L0 N bx a' w'->Q' e a' w'
 die:∀ (ch:List PanicEntry) (a':Act) (w':World),mw S N w0 L0 ch a' w'->Q' (.panic ch) a' w'
instance {S : Sys} {N : Nat} {w0 : World} {L0 : Nat -> aO} {Q : Exit -> St -> Prop} {Q' : Exit -> Act -> World -> Prop} : CoeFun (OutC S N w0 L0 Q Q') fun _ => ∀ (e : Exit) (bx : St) (a' : Act) (w' : World), Q e bx -> Rel S w0 L0 N bx a' w' -> Q' e a' w' := ⟨OutC.nrm⟩
def Ext(w w':World):Prop:=Below w.heap.size w w'
theorem Ext.refl(w:World):Ext w w:=Below.refl _ _
theorem Ext.trans{a b c:World}(h:Ext a b)(k:Ext b c):Ext a c:=Below.trans h (Below.mono k h.size)
theorem gf.ext{L0:Nat->aO}{w0 w w':World}(h:gf L0 w0 w)(e:Ext w w'):gf L0 w0 w' :=
 ⟨e.os.trans h.os,e.tape.trans h.tape,e.output.trans h.output,ahZ h.size e.size,fun b hb hn=>(e.block b (ahv hb h.size)).trans (h.block b hb hn)⟩
theorem Rep.ext{L:Nat->aO}{w w':World}(hl:∀ b p,L b=.my p->b<w.heap.size)(e:Ext w w'){π:Option (List Nat)}{x:AV}{v:Value}(h:Rep L w π x v):Rep L w' π x v :=
 h.frame e.size e.os e.tape e.output (fun b h1 h2=>⟨h1,e.block b h2⟩) π fun p hp=>⟨p,hp,fun b _ hb=>⟨hb,e.block b (hl b _ hb)⟩⟩
theorem gM{s:Nat}{l:aO}{p:List Nat}(h:l.bm s=.my p):l=.my p:=by
 cases l with
 | my q =>
  cases q with
  | nil=>exact h
  | cons t q=>simp only [aO.bm] at h;cases hb:Nat.beq t s<;>simp_all
 | _=>exact h
theorem gN{s:Nat}{l:aO}(h:l=.sh):l.bm s=.sh:=by subst h;rfl
theorem Hold.ext{L:Nat->aO}{w w':World}(hl:∀ b p,L b=.my p->b<w.heap.size)(e:Ext w w'){tmps:Array Value}{n:Nat}:∀ {tv:TV} {v:Value},Hold L w tmps n tv v->Hold L w' tmps n tv v
 | .none,_,_=>trivial
 | .av _,_,h=>Rep.ext hl e h
 | .ref _,_,h=>h
 | .rref _ _ _,_,⟨b,h1,h2,h3⟩=>⟨b,h1,by rw [cell_of_heap (e.block b (hl b _ h1))];exact h2,fun hy=>Rep.ext hl e (h3 hy)⟩
 | .ptr _ _ _ _,_,⟨b,h1,h2,h3⟩=>⟨b,h1,h2,fun hy j z hz=>by
   obtain⟨u,hu,hr⟩:=h3 hy j z hz
   exact⟨u,by rw [cell_of_heap (e.block b (hl b _ h1))];exact hu,Rep.ext hl e hr⟩⟩
 | .fpt _ _ _,_,⟨b,h1,h2,h3⟩=>⟨b,h1,h2,fun hy j z hz=>by
   obtain⟨u,hu,hr⟩:=h3 hy j z hz
   exact⟨u,by rw [cell_of_heap (e.block b (hl b _ h1))];exact hu,Rep.ext hl e hr⟩⟩
 | .rptr _ _ _ _,_,⟨b,h1,h2,h3⟩=>⟨b,h1,h2,fun hy=>by
   obtain⟨u,hu,hr⟩:=h3 hy
   exact⟨u,by rw [cell_of_heap (e.block b (hl b _ h1))];exact hu,Rep.ext hl e hr⟩⟩
 | .dptr _,_,⟨b,off,h1,h2,h3,h4⟩=>⟨b,off,h1,h2,ahv h3 e.size,fun j y hy=>by
   obtain⟨u,hu,hr⟩:=h4 j y hy
   exact⟨u,by rw [cell_of_heap (e.block b h3)];exact hu,Rep.ext hl e hr⟩⟩
 | .bdp _ _,_,⟨b,off,h1,h2,h3,h4⟩=>⟨b,off,h1,h2,ahv h3 e.size,fun j y hy=>by
   obtain⟨u,hu,hr⟩:=h4 j y hy
   exact⟨u,by rw [cell_of_heap (e.block b h3)];exact hu,Rep.ext (fun b p hb=>hl b p (gM hb)) e hr⟩⟩
 | .bor _ _,_,h=>Rep.ext (fun b p hb=>hl b p (gM hb)) e h
 | .clo _ _,_,h=>h
theorem tU.ext{L0 L:Nat->aO}{w0 w w':World}(h:tU L0 w0 L w)(e:Ext w w'):tU L0 w0 L w' :=
 ⟨fun b p hb=>ahv (h.lt b p hb) e.size,h.inj,h.head,h.old,h.fo,h.new⟩
theorem RelL.ext{S:Sys}{w0:World}{L0:Nat->aO}{N:Nat}{σ:St}{a:Act}{w w':World}{L:Nat->aO}(h:RelL S w0 L0 N σ a w L)(e:Ext w w'):RelL S w0 L0 N σ a w' L :=
 ⟨h.defers,h.size,h.keep.ext e,h.lok.ext e,fun n hn=>Hold.ext h.lok.lt e (h.hold n hn),h.out,h.fix,h.glob⟩
theorem Rel.ext{S:Sys}{w0:World}{L0:Nat->aO}{N:Nat}{σ:St}{a:Act}{w w':World}(h:Rel S w0 L0 N σ a w)(e:Ext w w'):Rel S w0 L0 N σ a w' :=
 let ⟨L,h⟩:=h;⟨L,h.ext e⟩
def clear(d:Nat)(L:Nat->aO):Nat->aO:=fun b=>(L b).bm d
theorem gO{p:List Nat}(h:clear d L b=.my p):L b=.my p/\p.head?≠some d:=by
 unfold clear at h;have h1:=gM h;refine⟨h1,fun hp=>?_⟩;rw [h1] at h
 cases p with
 | nil=>cases hp
 | cons t q =>
  simp only [List.head?_cons,ahp] at hp;subst hp;simp [aO.bm,ahy] at h
theorem mz{t:Nat}{q:List Nat}(h:L b=.my (t::q))(ht:t≠d):clear d L b=.my (t::q):=by
 unfold clear;rw [h];have:Nat.beq t d=false:=by rw [<- Bool.not_eq_true];exact fun e=>ht (ahz e)
 simp [aO.bm,this]
theorem kB(h:L b=.sh):clear d L b=.sh:=gN h
theorem yn{d:Nat}{L:Nat->aO}{b:Nat}:clear d L b=.fo↔L b=.fo:=by
 unfold clear
 cases h:L b with
 | my p =>
  cases p with
  | nil=>simp [aO.bm]
  | cons t q=>simp only [aO.bm];cases Nat.beq t d<;>simp
 | _=>simp [aO.bm]
theorem tU.clear{L0 L:Nat->aO}{w0 w:World}(h:tU L0 w0 L w)(d:Nat):tU L0 w0 (clear d L) w :=
  ⟨fun b p hb=>h.lt b p (gO hb).1,fun b b' p hb bI=>h.inj b b' p (gO hb).1 (gO bI).1,fun b p hb=>h.head b p (gO hb).1,
   fun b p aA hb=>h.old b p aA (gO hb).1,fun b hb=>yn.trans (h.fo b hb),fun b hb hf=>h.new b hb (yn.1 hf)⟩
theorem au{a:Nat}(h:a≠b):Nat.beq a b=false:=by rw [<- Bool.not_eq_true];exact fun e=>h (ahz e)
theorem aC{a:Nat}(h:Nat.beq a b=false):a≠b:=fun e=>by subst e;rw [ahy] at h;cases h
theorem ay{m:Nat}{v:Value}(h:d≠m):(tmps.setIfInBounds d v).getD m undef=tmps.getD m undef:=by
 simp [ahA,ahw h]
theorem mw.put{S:Sys}{N:Nat}{w0:World}{L0:Nat->aO}{ch:List PanicEntry}{a:Act}{w:World}{d:Option Nat}{v:Value}(hd:∀ t:Nat,d=some t->oC S N t)(h:mw S N w0 L0 ch (a.put d v) w):mw S N w0 L0 ch a w:=by
 cases d with
 | none=>exact h
 | some t=>exact⟨h.defers,by have:=h.size;simpa [Act.put] using this,fun i hi=>(ay ((hd t rfl).ne hi)).symm.trans (h.fix i hi),h.dies⟩
theorem bJ{v:Value}(h:d<tmps.size):(tmps.setIfInBounds d v).getD d undef=v:=by
 simp [ahA,h]
theorem Hold.cG{L' L:Nat->aO}{w':World}{NH tmps:Array Value}{good:Nat->Prop}(hs:w.heap.size<=w'.heap.size)(ho:w'.os=w.os)(ht:w'.tape=w.tape)(hu:w'.output=w.output)
  (kx:∀ b,L b=.sh->b<w.heap.size->L' b=.sh/\w'.heap[b]?=w.heap[b]?)
  (hk:∀ b t q,L b=.my (t::q)->good t->L' b=.my (t::q)/\w'.heap[b]?=w.heap[b]?)
  (KH:∀ s,good s->NH.getD s undef=tmps.getD s undef) {n:Nat} (hn:good n) :
  ∀ {tv:TV} {v:Value},(∀ s,tv.dep s=true->good s)->Hold L w tmps n tv v->Hold L' w' NH n tv v:=by
 have rep:∀ {p:List Nat} {t:Nat} {q:List Nat} {x:AV} {v:Value},p=t::q->good t->Rep L w (some p) x v->Rep L' w' (some p) x v:=fun{p t q x v} hp hg h =>
  h.frame hs ho ht hu kx (some p) fun p' vU=>⟨p',vU,fun b q' hb=>by cases vU;subst hp;exact hk b t (q++q') (by simpa using hb) hg⟩
 have Tn:∀ {s:Nat} {x:AV} {v:Value},good s->Rep (fun b=>(L b).bm s) w none x v->Rep (fun b=>(L' b).bm s) w' none x v:=fun{s x v} hg h=>by
  refine h.frame hs ho ht hu (fun b h1 h2=>?_) none (fun p hp=>by cases hp)
  cases hb:L b with
  | sh=>obtain⟨h3,h4⟩:=kx b hb h2;exact⟨gN h3,h4⟩
  | fo=>rw [hb] at h1;simp [aO.bm] at h1
  | my p =>
   rw [hb] at h1
   cases p with
   | nil=>simp [aO.bm] at h1
   | cons t q =>
    simp only [aO.bm] at h1
    cases Lg:Nat.beq t s with
    | false=>rw [Lg] at h1;cases h1
    | true =>
     have:=ahz Lg;subst this;obtain⟨h3,h4⟩:=hk b t q hb hg;exact⟨by rw [h3];simp [aO.bm,ahy],h4⟩
 intro tv v hg h
 cases tv with
 | none=>trivial
 | av x=>exact rep rfl hn h
 | ref s=>simp only [Hold] at h ⊢;rw [KH s (hg s (ahy s))];exact h
 | rref s i y =>
  have gs:=hg s (ahy s);obtain⟨b,h1,h2,h3⟩:=h;obtain⟨h4,h5⟩:=hk b s [] h1 gs;exact⟨b,h4,by rw [cell_of_heap h5];exact h2,fun hy=>rep rfl gs (h3 hy)⟩
 | ptr s i c y =>
  have gs:=hg s (ahy s);obtain⟨b,h1,h2,h3⟩:=h;obtain⟨h4,h5⟩:=hk b s [] h1 gs
  exact⟨b,h4,h2,fun hy j z hz=>by
   obtain⟨u,hu,hr⟩:=h3 hy j z hz
   exact⟨u,by rw [cell_of_heap h5];exact hu,rep rfl gs hr⟩⟩
 | fpt s o y =>
  have gs:=hg s (ahy s);obtain⟨b,h1,h2,h3⟩:=h;obtain⟨h4,h5⟩:=hk b s [] h1 gs
  exact⟨b,h4,h2,fun hy j z hz=>by
   obtain⟨u,hu,hr⟩:=h3 hy j z hz
   exact⟨u,by rw [cell_of_heap h5];exact hu,rep rfl gs hr⟩⟩
 | rptr s i j y =>
  have gs:=hg s (ahy s);obtain⟨b,h1,h2,h3⟩:=h;obtain⟨h4,h5⟩:=hk b s [i] h1 gs
  exact⟨b,h4,h2,fun hy=>by
   obtain⟨u,hu,hr⟩:=h3 hy
   exact⟨u,by rw [cell_of_heap h5];exact hu,rep rfl gs hr⟩⟩
 | dptr x =>
  obtain⟨b,off,h1,h2,h3,h4⟩:=h;obtain⟨h5,h6⟩:=kx b h2 h3
  exact⟨b,off,h1,h5,ahv h3 hs,fun j y hy=>by
   obtain⟨u,qO,hr⟩:=h4 j y hy
   exact⟨u,by rw [cell_of_heap h6];exact qO,hr.frame hs ho ht hu kx none (fun p hp=>by cases hp)⟩⟩
 | bdp s x =>
  have gs:=hg s (ahy s);obtain⟨b,off,h1,h2,h3,h4⟩:=h;have h56:(L' b).bm s=.sh/\w'.heap[b]?=w.heap[b]?:=by
   cases hb:L b with
   | sh=>obtain⟨h5,h6⟩:=kx b hb h3;exact⟨gN h5,h6⟩
   | fo=>rw [hb] at h2;simp [aO.bm] at h2
   | my p =>
    rw [hb] at h2
    cases p with
    | nil=>simp [aO.bm] at h2
    | cons t q =>
     simp only [aO.bm] at h2
     cases Lg:Nat.beq t s with
     | false=>rw [Lg] at h2;cases h2
     | true =>
      have:=ahz Lg;subst this;obtain⟨h5,h6⟩:=hk b t q hb gs;exact⟨by rw [h5];simp [aO.bm,ahy],h6⟩
  exact⟨b,off,h1,h56.1,ahv h3 hs,fun j y hy=>by
   obtain⟨u,hu,hr⟩:=h4 j y hy
   exact⟨u,by rw [cell_of_heap h56.2];exact hu,Tn gs hr⟩⟩
 | bor s x=>exact Tn (hg s (ahy s)) h
 | clo f caps =>
  simp only [Hold] at h ⊢;rw [h];congr 2
  refine List.map_congr_left fun s hs=>?_;exact(KH s (hg s (by simp only [TV.dep,List.any_eq_true];exact⟨s,hs,ahy s⟩))).symm
theorem Hold.clear{L:Nat->aO}{w:World}{tmps:Array Value}{n d:Nat}{u:Value}(gP:n≠d){tv:TV}{v:Value}(hd:tv.dep d=false)(h:Hold L w tmps n tv v):Hold (FM.clear d L) w (tmps.setIfInBounds d u) n tv v :=
 Hold.cG (good:=fun t=>t≠d) (ahr _) rfl rfl rfl (fun b h1 _=>⟨kB h1,rfl⟩) (fun b t q h1 h2=>⟨mz h1 h2,rfl⟩)
  (fun s hs=>ay (fun e=>hs e.symm)) gP (fun s hs e=>by subst e;rw [hd] at hs;cases hs) h
theorem RelL.put{S:Sys}{w0:World}{L0:Nat->aO}{N:Nat}{σ:St}{a:Act}{w:World}{L:Nat->aO}(h:RelL S w0 L0 N σ a w L){d:Nat}(hd:oC S N d){tv:TV}{v:Value}
  (hv:Hold (clear d L) w (a.tmps.setIfInBounds d v) d tv v):RelL S w0 L0 N (σ.put d tv) (a.put (some d) v) w (clear d L):=by
 refine⟨h.defers,by simp [Act.put,h.size],h.keep,h.lok.clear d,fun n hn=>?_,fun n hn=>?_,fun i hi=>(ay (hd.ne hi)).trans (h.fix i hi),h.glob⟩
 ·simp only [get,aY,Act.put];by_cases gP:d=n
  ·subst gP;rw [ahy,cond_true,bJ (by rw [h.size];exact hd.lt)];exact hv
  ·rw [au gP,cond_false,ay gP]
   cases b6:(get σ n).dep d with
   | true=>trivial
   | false=>exact Hold.clear (fun e=>gP e.symm) b6 (h.hold n hn)
 ·simp only [get,aY];rw [au (by have:=hd.lt;omega),cond_false]
  cases b6:(get σ n).dep d with
  | true=>rfl
  | false=>exact h.out n hn
def Step(S:Sys)(o:Oper)(σ bx:St):Prop :=
 ∀ (w0:World) (L0:Nat->aO) (N:Nat) (a:Act) (w:World),(∀ d:Nat,o.dst=some d->oC S N d)->Rel S w0 L0 N σ a w ->
  ∃ v,(∀ w',Ext w w'->(execOp a.eval o).run S.P w'=.ok (.value v) w')/\Rel S w0 L0 N bx (a.put o.dst v) w
theorem aM{S:Sys}{w0:World}{L0:Nat->aO}{N:Nat}{σ:St}{a:Act}{w:World}{L:Nat->aO}(h:RelL S w0 L0 N σ a w L){x:Operand}{tv:TV}(hx:ov σ x=tv)(cr:tv≠.none):∃ n,Hold L w a.tmps n tv (a.eval x)/\(∀ t,x=.tmp t->n=t/\t<N):=by
 cases x with
 | tmp t =>
  simp only [ov] at hx;have ht:t<N:=by
   rcases aia t N with h'|h'
   ·exact h'
   ·rw [h.out t h'] at hx;exact absurd hx.symm cr
  exact⟨t,by have:=h.hold t ht;rw [hx] at this;exact this,fun t' e=>by cases e;exact⟨rfl,ht⟩⟩
 | const v =>
  simp only [ov] at hx;subst hx;refine⟨0,?_,fun t e=>by cases e⟩;simp only [Hold,Act.eval];unfold AV.ofV;split
  ·exact .int
  ·exact .bool
  ·rename_i s;have:=@Rep.str L w (some [0]) s.data.toList;simpa using this
  ·exact .nil
  ·exact .val
 | func f =>
  simp only [ov] at hx;subst hx;exact⟨0,.val,fun t e=>by cases e⟩
 | global g=>simp only [ov] at hx;exact absurd hx.symm cr
theorem Rep.replace{L:Nat->aO}{w:World}{π mv:Option (List Nat)}{x:AV}{v:Value}(h:Rep L w π x v)(hx:x.aW=false):Rep L w mv x v:=by
 cases h with
 | int=>exact .int
 | bool=>exact .bool
 | str=>exact .str
 | val=>exact .val
 | agg hl h=>exact .agg hl h
 | tup hl h=>simp [AV.aW] at hx
 | nil=>exact .nil
 | dead=>exact .dead
 | slE h=>exact .slE h
 | slS u h0 h1 h2 h3 h4 h5=>exact .slS u h0 h1 h2 h3 h4 h5
 | slO=>simp [AV.aW] at hx
 | ptS u h1 h2 h3 h4=>exact .ptS u h1 h2 h3 h4
 | ptO=>simp [AV.aW] at hx
 | fn h1 h2 h3 h4 h5 h6=>exact .fn h1 h2 h3 h4 h5 h6
 | mpS h1 h2 h3=>exact .mpS h1 h2 h3
 | mpO=>simp [AV.aW] at hx
 | msS h1 h2 h3=>exact .msS h1 h2 h3
 | msO=>simp [AV.aW] at hx
theorem Hold.move{L:Nat->aO}{w:World}{tmps:Array Value}{n d:Nat}{v:Value}:∀ {tv:TV},tv.plain=true->Hold L w tmps n tv v->Hold L w tmps d tv v
 | .none,h,_=>by cases h
 | .av x,hp,h=>Rep.replace h (by simpa [TV.plain] using hp)
 | .ref _,hp,_=>by cases hp
 | .rref _ _ _,_,h=>h
 | .ptr _ _ _ _,_,h=>h
 | .fpt _ _ _,_,h=>h
 | .rptr _ _ _ _,_,h=>h
 | .dptr _,_,h=>h
 | .bdp _ _,_,h=>h
 | .bor _ _,_,h=>h
 | .clo _ _,_,h=>h
theorem Hold.E7{L:Nat->aO}{w:World}{tmps:Array Value}{d:Nat}{v u:Value}:∀ {tv:TV},tv.plain=true->tv.dep d=false->Hold L w tmps d tv v->Hold (FM.clear d L) w (tmps.setIfInBounds d u) d tv v
 | tv,hp,hd,h=>by
  have h1:Hold (FM.clear d L) w (tmps.setIfInBounds d u) (d+1) tv v:=Hold.clear ae hd (Hold.move hp h);exact Hold.move hp h1
theorem Rel.aT{S:Sys}{σ:St}{a:Act}(h:RelL S w0 L0 N σ a w L){n:Nat}(hd:oC S N d){tv:TV}{v:Value}(hp:tv.plain=true)(b6:tv.dep d=false)
  (hv:Hold L w a.tmps n tv v):Rel S w0 L0 N (σ.put d tv) (a.put (some d) v) w :=
 ⟨_,h.put hd (Hold.E7 hp b6 (Hold.move hp hv))⟩
theorem ni{tv:TV}(h:tv.plain=true):tv≠.none:=fun e=>by subst e;cases h
section
variable {S:Sys} {σ:St} {d:Nat} {ty:Nat} {pos:String} {aft:Array Edge} {g:Option (Nat×Bool)}
theorem To{x:Operand}{tv:TV}(hx:ov σ x=tv)(hp:tv.plain=true)(hd:tv.dep d=false):Step S ⟨some d,.move x,ty,pos,aft,g⟩ σ (σ.put d tv):=by
 intro w0 L0 N a w hN ⟨L,h⟩;obtain⟨n,hn,_⟩:=aM h hx (ni hp);exact⟨a.eval x,fun w' _=>by simp [execOp],Rel.aT h (hN d rfl) hp hd hn⟩
theorem Tq{x:Operand}{tv:TV}(hx:ov σ x=tv)(hp:tv.plain=true)(hd:tv.dep d=false):Step S ⟨some d,.assign x,ty,pos,aft,g⟩ σ (σ.put d tv):=by
 intro w0 L0 N a w hN ⟨L,h⟩;obtain⟨n,hn,_⟩:=aM h hx (ni hp);exact⟨a.eval x,fun w' _=>by simp [execOp],Rel.aT h (hN d rfl) hp hd hn⟩
theorem aJ{a:Act}(h:RelL S w0 L0 N σ a w L){t:Nat}{tv:TV}(hx:get σ t=tv)(cr:tv≠.none):t<N:=by
 rcases aia t N with h'|h'
 ·exact h'
 ·rw [h.out t h'] at hx;exact absurd hx.symm cr
theorem Pg{t:Nat}{x:AV}(_hx:get σ t=.av x)(E8:Nat.beq t d=false):Step S ⟨some d,.move (.tmp t),ty,pos,aft,g⟩ σ (σ.put d (.ref t)):=by
 intro w0 L0 N a w hN ⟨L,h⟩;refine⟨a.eval (.tmp t),fun w' _=>by simp [execOp],_,h.put (hN d rfl) ?_⟩;simp only [Hold,Act.eval];rw [ay (fun e=>aC E8 e.symm)]
end
end FM
