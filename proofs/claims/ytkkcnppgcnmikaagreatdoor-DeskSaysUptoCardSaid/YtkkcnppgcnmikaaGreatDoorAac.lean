/- An abstract machine over the kit's rules, part 2: what a frame's slots hold; the operations that only compute or read. -/
import Derived.Test.YtkkcnppgcnmikaaGreatDoorAab
import Derived.IntWalk
import Derived.Deep.Quiet
namespace FM
open Go Go.RowKit
/-! ### types -/
inductive TK where
 | plain|slice (e:Nat)|struct (fs:List (Nat×Nat))|arr (n e:Nat)|str|int (k:IntKind)
structure TI where
 k:TK
 size:Nat
 bytes:Nat
 zero:List AV
def AV.toV:AV→Value
 | .int n=>.int .i64 n
 | .bool b=>.bool b
 | .str s=>.string ⟨s.toArray⟩
 | .val v=>v
 | .nil=>.slice none 0 0
 | _=>undef
def AV.flatPlain:AV→Bool
 | .int _|.bool _|.str _|.val _|.nil=>true
 | _=>false
def TK.isAgg:TK→Bool
 | .struct _|.arr _ _=>true
 | _=>false
def TK.ofDesc:TK→TypeDesc→Prop
 | .plain,d=>(match d with|.struct _|.array _ _=>False|_=>True)
 | .slice e,d=>d=.slice e
 | .struct fs,d=>∃ fields:Array Field,d=.struct fields∧fields.toList.map (fun f=>(f.offset,f.type))=fs
 | .arr n e,d=>d=.array n e
 | .str,d=>d=.string
 | .int k,d=>d=.int k
structure TOk(P:Program)(t:Nat)(i:TI):Prop where
 desc:∃ d,P.underlying t=some d∧i.k.ofDesc d
 info:∃ f z,P.info? t=some f∧f.size=i.size∧f.bytes=i.bytes∧f.zero=some z∧z.cells.toList=i.zero.map AV.toV∧i.zero.all AV.flatPlain=true∧z.cells.size=i.size
structure Sys where
 P:Program
 T:Nat→Option TI
 ok:∀ t i,T t=some i→TOk P t i
 mixed:P.follows .mixedOrders=true
 M:Nat→Bool
 v0:Nat→Value
 D:List Deferred:=[]
 X:List PanicEntry→List (Nat×AV)→Prop:=fun _ _=>False
structure DOk(S:Sys)(N d:Nat):Prop where
 lt:d<N
 ge:S.M d=false
theorem DOk.ne{S:Sys}{N d i:Nat}(h:DOk S N d)(hi:S.M i=true):d≠i:=fun e=>by subst e;rw [h.ge] at hi;cases hi
/-! ### frames -/
inductive TV where
 | none
 | av (x:AV)
 | ref (s:Nat)
 | rref (s i:Nat) (y:AV)
 | ptr (s i c:Nat) (y:AV)
 | fpt (s o:Nat) (y:AV)
 | rptr (s i j:Nat) (y:AV)
 | dptr (x:AV)
 | bdp (s:Nat) (x:AV)
 | bor (s:Nat) (x:AV)
 | clo (f:Nat) (caps:List Nat)
inductive St where
 | nil
 | put (n:Nat) (tv:TV) (σ:St)
 | upd (deep:Bool) (n:Nat) (tv:TV) (σ:St)
def TV.dep(n:Nat):TV→Bool
 | .ref s|.rref s _ _|.ptr s _ _ _|.fpt s _ _|.rptr s _ _ _|.bor s _|.bdp s _=>Nat.beq s n
 | .clo _ caps=>caps.any fun s=>Nat.beq s n
 | _=>false
def TV.stale(deep:Bool)(n:Nat):TV→TV
 | .bor s x=>bif Nat.beq s n then .none else .bor s x
 | .bdp s x=>bif Nat.beq s n then .none else .bdp s x
 | .rref s i y=>bif Nat.beq s n then(bif deep then .rref s i .dead else .none) else .rref s i y
 | .rptr s i j y=>bif Nat.beq s n then(bif deep then .rptr s i j .dead else .none) else .rptr s i j y
 | .ptr s i c y=>bif Nat.beq s n then .ptr s i c .dead else .ptr s i c y
 | .fpt s o y=>bif Nat.beq s n then .fpt s o .dead else .fpt s o y
 | tv=>tv
def TV.kill(n:Nat):TV→TV
 | .none=>.none
 | .av x=>.av x
 | .ref s=>bif Nat.beq s n then .none else .ref s
 | .rref s i y=>bif Nat.beq s n then .none else .rref s i y
 | .ptr s i c y=>bif Nat.beq s n then .none else .ptr s i c y
 | .fpt s o y=>bif Nat.beq s n then .none else .fpt s o y
 | .rptr s i j y=>bif Nat.beq s n then .none else .rptr s i j y
 | .dptr x=>.dptr x
 | .bdp s x=>bif Nat.beq s n then .none else .bdp s x
 | .bor s x=>bif Nat.beq s n then .none else .bor s x
 | .clo f caps=>bif caps.any fun s=>Nat.beq s n then .none else .clo f caps
theorem kill_eq(n:Nat)(tv:TV):tv.kill n=bif tv.dep n then .none else tv:=by cases tv<;>rfl
def get:St→Nat→TV
 | .nil,_=>.none
 | .put n tv σ,m=>bif Nat.beq n m then tv else(get σ m).kill n
 | .upd d n tv σ,m=>bif Nat.beq n m then tv else(get σ m).stale d n
def AV.isOwn:AV→Bool
 | .sl true _ _|.pt true _|.tup _|.mp true _|.ms true _=>true
 | _=>false
def TV.plain:TV→Bool
 | .none|.ref _=>false
 | .av x=>!x.isOwn
 | _=>true
def AV.ofV:Value→AV
 | .int .i64 n=>.int n
 | .bool b=>.bool b
 | .string s=>.str s.data.toList
 | .slice none 0 0=>.nil
 | v=>.val v
def ov(σ:St):Operand→TV
 | .tmp t=>get σ t
 | .const v=>.av (AV.ofV v)
 | .func f=>.av (.val (.func (.func f) #[] #[]))
 | .global _=>.none
def Lab.without(s:Nat):Lab→Lab
 | .my (t::q)=>bif Nat.beq t s then .sh else .my (t::q)
 | l=>l
def Hold(L:Nat→Lab)(w:World)(tmps:Array Value)(n:Nat):TV→Value→Prop
 | .none,_=>True
 | .av x,v=>Rep L w (some [n]) x v
 | .ref s,v=>v=tmps.getD s undef
 | .rref s i y,v=>∃ b,L b=.my [s]∧w.cell? ⟨b,i,none⟩=some v∧(y≠.dead→Rep L w (some [s,i]) y v)
 | .ptr s i c y,v=>∃ b,L b=.my [s]∧v=.pointer (some ⟨b,i*c,none⟩)∧(y≠.dead→∀ j z,y.cells[j]?=some z→∃ u,w.cell? ⟨b,i*c+j,none⟩=some u∧Rep L w (some [s,i*c+j]) z u)
 | .fpt s o y,v=>∃ b,L b=.my [s]∧v=.pointer (some ⟨b,o,none⟩)∧(y≠.dead→∀ j z,y.cells[j]?=some z→∃ u,w.cell? ⟨b,o+j,none⟩=some u∧Rep L w (some [s,o+j]) z u)
 | .rptr s i j y,v=>∃ b,L b=.my [s,i]∧v=.pointer (some ⟨b,j,none⟩)∧(y≠.dead→∃ u,w.cell? ⟨b,j,none⟩=some u∧Rep L w (some [s,i,j]) y u)
 | .dptr x,v=>∃ b off,v=.pointer (some ⟨b,off,none⟩)∧L b=.sh∧b<w.heap.size∧∀ j y,x.cells[j]?=some y→∃ u,w.cell? ⟨b,off+j,none⟩=some u∧Rep L w none y u
 | .bdp s x,v=>∃ b off,v=.pointer (some ⟨b,off,none⟩)∧(L b).without s=.sh∧b<w.heap.size∧∀ j y,x.cells[j]?=some y→∃ u,w.cell? ⟨b,off+j,none⟩=some u∧Rep (fun b=>(L b).without s) w none y u
 | .bor s x,v=>Rep (fun b=>(L b).without s) w none x v
 | .clo f caps,v=>v=.func (.func f) #[] (caps.map fun s=>tmps.getD s undef).toArray
structure Keep(L0:Nat→Lab)(w0 w:World):Prop where
 os:w.os=w0.os
 tape:w.tape=w0.tape
 output:w.output=w0.output
 size:w0.heap.size≤w.heap.size
 block:∀ b,b<w0.heap.size→(∀ p,L0 b≠.my p)→w.heap[b]?=w0.heap[b]?
structure LOk(L0:Nat→Lab)(w0:World)(L:Nat→Lab)(w:World):Prop where
 lt:∀ b p,L b=.my p→b<w.heap.size
 inj:∀ b b' p,L b=.my p→L b'=.my p→b=b'
 head:∀ b p,L b=.my p→p≠[]
 old:∀ b p,b<w0.heap.size→L b=.my p→∃ q,L0 b=.my q
 fo:∀ b,b<w0.heap.size→(L b=.fo↔L0 b=.fo)
 new:∀ b,w0.heap.size≤b→L b≠.fo
structure RelL(S:Sys)(w0:World)(L0:Nat→Lab)(N:Nat)(σ:St)(a:Act)(w:World)(L:Nat→Lab):Prop where
 defers:a.defers=S.D
 size:a.tmps.size=N
 keep:Keep L0 w0 w
 lok:LOk L0 w0 L w
 hold:∀ n,n<N→Hold L w a.tmps n (get σ n) (a.tmps.getD n undef)
 out:∀ n,N≤n→get σ n=.none
 fix:∀ i,S.M i=true→a.tmps.getD i undef=S.v0 i
 glob:Glob L0 w0
theorem RelL.globNow{S:Sys}{w0:World}{L0:Nat→Lab}{N:Nat}{σ:St}{a:Act}{w:World}{L:Nat→Lab}(h:RelL S w0 L0 N σ a w L):Glob L w :=
 h.glob.move h.keep.size fun b hb hsh=>⟨(by
  cases hL:L b with
  | sh=>rfl
  | fo=>have:=(h.lok.fo b hb).1 hL;rw [hsh] at this;cases this
  | my p=>obtain⟨q,hq⟩:=h.lok.old b p hb hL;rw [hsh] at hq;cases hq),h.keep.block b hb (fun p hp=>by rw [hsh] at hp;cases hp)⟩
def Rel(S:Sys)(w0:World)(L0:Nat→Lab)(N:Nat)(σ:St)(a:Act)(w:World):Prop:=∃ L,RelL S w0 L0 N σ a w L
def Dies(S:Sys)(w0:World)(L0:Nat→Lab)(ch:List PanicEntry)(w:World):Prop :=
 ∃ L ps,S.X ch ps∧Keep L0 w0 w∧LOk L0 w0 L w∧∀ p∈ps,Rep L w (some [p.1]) p.2 (S.v0 p.1)
structure DiesAt(S:Sys)(N:Nat)(w0:World)(L0:Nat→Lab)(ch:List PanicEntry)(a:Act)(w:World):Prop where
 defers:a.defers=S.D
 size:a.tmps.size=N
 fix:∀ i,S.M i=true→a.tmps.getD i undef=S.v0 i
 dies:Dies S w0 L0 ch w
structure OutJ(S:Sys)(N:Nat)(w0:World)(L0:Nat→Lab)(K:St→Prop)(Q:Exit→Act→World→Prop):Prop where
 nrm:∀ (σ':St) (a':Act) (w':World),K σ'→Rel S w0 L0 N σ' a' w'→Q .normal a' w'
 die:∀ (ch:List PanicEntry) (a':Act) (w':World),DiesAt S N w0 L0 ch a' w'→Q (.panic ch) a' w'
instance {S : Sys} {N : Nat} {w0 : World} {L0 : Nat → Lab} {K : St → Prop} {Q : Exit → Act → World → Prop} : CoeFun (OutJ S N w0 L0 K Q) fun _ => ∀ (σ' : St) (a' : Act) (w' : World), K σ' → Rel S w0 L0 N σ' a' w' → Q .normal a' w' := ⟨OutJ.nrm⟩
structure OutC(S:Sys)(N:Nat)(w0:World)(L0:Nat→Lab)(Q:Exit→St→Prop)(Q':Exit→Act→World→Prop):Prop where
 nrm:∀ (e:Exit) (σ':St) (a':Act) (w':World),Q e σ'→Rel S w0 L0 N σ' a' w'→Q' e a' w'
 die:∀ (ch:List PanicEntry) (a':Act) (w':World),DiesAt S N w0 L0 ch a' w'→Q' (.panic ch) a' w'
instance {S : Sys} {N : Nat} {w0 : World} {L0 : Nat → Lab} {Q : Exit → St → Prop} {Q' : Exit → Act → World → Prop} : CoeFun (OutC S N w0 L0 Q Q') fun _ => ∀ (e : Exit) (σ' : St) (a' : Act) (w' : World), Q e σ' → Rel S w0 L0 N σ' a' w' → Q' e a' w' := ⟨OutC.nrm⟩
def Ext(w w':World):Prop:=Below w.heap.size w w'
theorem Ext.refl(w:World):Ext w w:=Below.refl _ _
theorem Ext.trans{a b c:World}(h:Ext a b)(k:Ext b c):Ext a c:=Below.trans h (Below.mono k h.size)
theorem Keep.ext{L0:Nat→Lab}{w0 w w':World}(h:Keep L0 w0 w)(e:Ext w w'):Keep L0 w0 w' :=
 ⟨e.os.trans h.os,e.tape.trans h.tape,e.output.trans h.output,Nat.le_trans h.size e.size,fun b hb hn=>(e.block b (Nat.lt_of_lt_of_le hb h.size)).trans (h.block b hb hn)⟩
theorem Rep.ext{L:Nat→Lab}{w w':World}(hl:∀ b p,L b=.my p→b<w.heap.size)(e:Ext w w'){π:Option (List Nat)}{x:AV}{v:Value}(h:Rep L w π x v):Rep L w' π x v :=
 h.frame e.size e.os e.tape e.output (fun b h1 h2=>⟨h1,e.block b h2⟩) π fun p hp=>⟨p,hp,fun b _ hb=>⟨hb,e.block b (hl b _ hb)⟩⟩
theorem without_my{s:Nat}{l:Lab}{p:List Nat}(h:l.without s=.my p):l=.my p:=by
 cases l with
 | my q =>
  cases q with
  | nil=>exact h
  | cons t q=>simp only [Lab.without] at h;cases hb:Nat.beq t s<;>simp_all
 | _=>exact h
theorem without_sh{s:Nat}{l:Lab}(h:l=.sh):l.without s=.sh:=by subst h;rfl
theorem Hold.ext{L:Nat→Lab}{w w':World}(hl:∀ b p,L b=.my p→b<w.heap.size)(e:Ext w w'){tmps:Array Value}{n:Nat}:∀ {tv:TV} {v:Value},Hold L w tmps n tv v→Hold L w' tmps n tv v
 | .none,_,_=>trivial
 | .av _,_,h=>Rep.ext hl e h
 | .ref _,_,h=>h
 | .rref _ _ _,_,⟨b,h1,h2,h3⟩=>⟨b,h1,by rw [cell_of_heap (e.block b (hl b _ h1))];exact h2,fun hy=>Rep.ext hl e (h3 hy)⟩
 | .ptr _ _ _ _,_,⟨b,h1,h2,h3⟩=>⟨b,h1,h2,fun hy j z hz=>by
   obtain⟨u,hu,hr⟩:=h3 hy j z hz
   exact⟨u,by rw [cell_of_heap (e.block b (hl b _ h1))];exact hu,Rep.ext hl e hr⟩⟩
 | .fpt _ _ _,_,⟨b,h1,h2,h3⟩=>⟨b,h1,h2,fun hy j z hz=>by
   obtain⟨u,hu,hr⟩:=h3 hy j z hz
   exact⟨u,by rw [cell_of_heap (e.block b (hl b _ h1))];exact hu,Rep.ext hl e hr⟩⟩
 | .rptr _ _ _ _,_,⟨b,h1,h2,h3⟩=>⟨b,h1,h2,fun hy=>by
   obtain⟨u,hu,hr⟩:=h3 hy
   exact⟨u,by rw [cell_of_heap (e.block b (hl b _ h1))];exact hu,Rep.ext hl e hr⟩⟩
 | .dptr _,_,⟨b,off,h1,h2,h3,h4⟩=>⟨b,off,h1,h2,Nat.lt_of_lt_of_le h3 e.size,fun j y hy=>by
   obtain⟨u,hu,hr⟩:=h4 j y hy
   exact⟨u,by rw [cell_of_heap (e.block b h3)];exact hu,Rep.ext hl e hr⟩⟩
 | .bdp _ _,_,⟨b,off,h1,h2,h3,h4⟩=>⟨b,off,h1,h2,Nat.lt_of_lt_of_le h3 e.size,fun j y hy=>by
   obtain⟨u,hu,hr⟩:=h4 j y hy
   exact⟨u,by rw [cell_of_heap (e.block b h3)];exact hu,Rep.ext (fun b p hb=>hl b p (without_my hb)) e hr⟩⟩
 | .bor _ _,_,h=>Rep.ext (fun b p hb=>hl b p (without_my hb)) e h
 | .clo _ _,_,h=>h
theorem LOk.ext{L0 L:Nat→Lab}{w0 w w':World}(h:LOk L0 w0 L w)(e:Ext w w'):LOk L0 w0 L w' :=
 ⟨fun b p hb=>Nat.lt_of_lt_of_le (h.lt b p hb) e.size,h.inj,h.head,h.old,h.fo,h.new⟩
theorem RelL.ext{S:Sys}{w0:World}{L0:Nat→Lab}{N:Nat}{σ:St}{a:Act}{w w':World}{L:Nat→Lab}(h:RelL S w0 L0 N σ a w L)(e:Ext w w'):RelL S w0 L0 N σ a w' L :=
 ⟨h.defers,h.size,h.keep.ext e,h.lok.ext e,fun n hn=>Hold.ext h.lok.lt e (h.hold n hn),h.out,h.fix,h.glob⟩
theorem Rel.ext{S:Sys}{w0:World}{L0:Nat→Lab}{N:Nat}{σ:St}{a:Act}{w w':World}(h:Rel S w0 L0 N σ a w)(e:Ext w w'):Rel S w0 L0 N σ a w' :=
 let ⟨L,h⟩:=h;⟨L,h.ext e⟩
/-! ### putting a value into a slot -/
def clear(d:Nat)(L:Nat→Lab):Nat→Lab:=fun b=>(L b).without d
theorem clear_my{d:Nat}{L:Nat→Lab}{b:Nat}{p:List Nat}(h:clear d L b=.my p):L b=.my p∧p.head?≠some d:=by
 unfold clear at h
 have h1:=without_my h
 refine⟨h1,fun hp=>?_⟩
 rw [h1] at h
 cases p with
 | nil=>cases hp
 | cons t q =>
  simp only [List.head?_cons,Option.some.injEq] at hp
  subst hp
  simp [Lab.without,Nat.beq_refl] at h
theorem clear_keep{d:Nat}{L:Nat→Lab}{b t:Nat}{q:List Nat}(h:L b=.my (t::q))(ht:t≠d):clear d L b=.my (t::q):=by
 unfold clear
 rw [h]
 have:Nat.beq t d=false:=by rw [← Bool.not_eq_true];exact fun e=>ht (Nat.eq_of_beq_eq_true e)
 simp [Lab.without,this]
theorem clear_sh{d:Nat}{L:Nat→Lab}{b:Nat}(h:L b=.sh):clear d L b=.sh:=without_sh h
theorem clear_fo{d:Nat}{L:Nat→Lab}{b:Nat}:clear d L b=.fo↔L b=.fo:=by
 unfold clear
 cases h:L b with
 | my p =>
  cases p with
  | nil=>simp [Lab.without]
  | cons t q=>simp only [Lab.without];cases Nat.beq t d<;>simp
 | _=>simp [Lab.without]
theorem LOk.clear{L0 L:Nat→Lab}{w0 w:World}(h:LOk L0 w0 L w)(d:Nat):LOk L0 w0 (clear d L) w :=
  ⟨fun b p hb=>h.lt b p (clear_my hb).1,fun b b' p hb hb'=>h.inj b b' p (clear_my hb).1 (clear_my hb').1,fun b p hb=>h.head b p (clear_my hb).1,
   fun b p hlt hb=>h.old b p hlt (clear_my hb).1,fun b hb=>clear_fo.trans (h.fo b hb),fun b hb hf=>h.new b hb (clear_fo.1 hf)⟩
theorem not_beq{a b:Nat}(h:a≠b):Nat.beq a b=false:=by rw [← Bool.not_eq_true];exact fun e=>h (Nat.eq_of_beq_eq_true e)
theorem of_not_beq{a b:Nat}(h:Nat.beq a b=false):a≠b:=fun e=>by subst e;rw [Nat.beq_refl] at h;cases h
theorem getD_set_other{tmps:Array Value}{d m:Nat}{v:Value}(h:d≠m):(tmps.setIfInBounds d v).getD m undef=tmps.getD m undef:=by
 simp [Array.getD_eq_getD_getElem?,Array.getElem?_setIfInBounds_ne h]
theorem DiesAt.put{S:Sys}{N:Nat}{w0:World}{L0:Nat→Lab}{ch:List PanicEntry}{a:Act}{w:World}{d:Option Nat}{v:Value}(hd:∀ t:Nat,d=some t→DOk S N t)(h:DiesAt S N w0 L0 ch (a.put d v) w):DiesAt S N w0 L0 ch a w:=by
 cases d with
 | none=>exact h
 | some t=>exact⟨h.defers,by have:=h.size;simpa [Act.put] using this,fun i hi=>(getD_set_other ((hd t rfl).ne hi)).symm.trans (h.fix i hi),h.dies⟩
theorem getD_set_same{tmps:Array Value}{d:Nat}{v:Value}(h:d<tmps.size):(tmps.setIfInBounds d v).getD d undef=v:=by
 simp [Array.getD_eq_getD_getElem?,h]
theorem Hold.relab{L L':Nat→Lab}{w w':World}{tmps tmps':Array Value}{good:Nat→Prop}(hs:w.heap.size≤w'.heap.size)(ho:w'.os=w.os)(ht:w'.tape=w.tape)(hu:w'.output=w.output)
  (hsh:∀ b,L b=.sh→b<w.heap.size→L' b=.sh∧w'.heap[b]?=w.heap[b]?)
  (hk:∀ b t q,L b=.my (t::q)→good t→L' b=.my (t::q)∧w'.heap[b]?=w.heap[b]?)
  (htm:∀ s,good s→tmps'.getD s undef=tmps.getD s undef) {n:Nat} (hn:good n) :
  ∀ {tv:TV} {v:Value},(∀ s,tv.dep s=true→good s)→Hold L w tmps n tv v→Hold L' w' tmps' n tv v:=by
 have rep:∀ {p:List Nat} {t:Nat} {q:List Nat} {x:AV} {v:Value},p=t::q→good t→Rep L w (some p) x v→Rep L' w' (some p) x v:=fun{p t q x v} hp hg h =>
  h.frame hs ho ht hu hsh (some p) fun p' hp'=>⟨p',hp',fun b q' hb=>by cases hp';subst hp;exact hk b t (q++q') (by simpa using hb) hg⟩
 have repB:∀ {s:Nat} {x:AV} {v:Value},good s→Rep (fun b=>(L b).without s) w none x v→Rep (fun b=>(L' b).without s) w' none x v:=fun{s x v} hg h=>by
  refine h.frame hs ho ht hu (fun b h1 h2=>?_) none (fun p hp=>by cases hp)
  cases hb:L b with
  | sh=>obtain⟨h3,h4⟩:=hsh b hb h2;exact⟨without_sh h3,h4⟩
  | fo=>rw [hb] at h1;simp [Lab.without] at h1
  | my p =>
   rw [hb] at h1
   cases p with
   | nil=>simp [Lab.without] at h1
   | cons t q =>
    simp only [Lab.without] at h1
    cases hts:Nat.beq t s with
    | false=>rw [hts] at h1;cases h1
    | true =>
     have:=Nat.eq_of_beq_eq_true hts
     subst this
     obtain⟨h3,h4⟩:=hk b t q hb hg
     exact⟨by rw [h3];simp [Lab.without,Nat.beq_refl],h4⟩
 intro tv v hg h
 cases tv with
 | none=>trivial
 | av x=>exact rep rfl hn h
 | ref s=>simp only [Hold] at h ⊢;rw [htm s (hg s (Nat.beq_refl s))];exact h
 | rref s i y =>
  have gs:=hg s (Nat.beq_refl s)
  obtain⟨b,h1,h2,h3⟩:=h
  obtain⟨h4,h5⟩:=hk b s [] h1 gs
  exact⟨b,h4,by rw [cell_of_heap h5];exact h2,fun hy=>rep rfl gs (h3 hy)⟩
 | ptr s i c y =>
  have gs:=hg s (Nat.beq_refl s)
  obtain⟨b,h1,h2,h3⟩:=h
  obtain⟨h4,h5⟩:=hk b s [] h1 gs
  exact⟨b,h4,h2,fun hy j z hz=>by
   obtain⟨u,hu,hr⟩:=h3 hy j z hz
   exact⟨u,by rw [cell_of_heap h5];exact hu,rep rfl gs hr⟩⟩
 | fpt s o y =>
  have gs:=hg s (Nat.beq_refl s)
  obtain⟨b,h1,h2,h3⟩:=h
  obtain⟨h4,h5⟩:=hk b s [] h1 gs
  exact⟨b,h4,h2,fun hy j z hz=>by
   obtain⟨u,hu,hr⟩:=h3 hy j z hz
   exact⟨u,by rw [cell_of_heap h5];exact hu,rep rfl gs hr⟩⟩
 | rptr s i j y =>
  have gs:=hg s (Nat.beq_refl s)
  obtain⟨b,h1,h2,h3⟩:=h
  obtain⟨h4,h5⟩:=hk b s [i] h1 gs
  exact⟨b,h4,h2,fun hy=>by
   obtain⟨u,hu,hr⟩:=h3 hy
   exact⟨u,by rw [cell_of_heap h5];exact hu,rep rfl gs hr⟩⟩
 | dptr x =>
  obtain⟨b,off,h1,h2,h3,h4⟩:=h
  obtain⟨h5,h6⟩:=hsh b h2 h3
  exact⟨b,off,h1,h5,Nat.lt_of_lt_of_le h3 hs,fun j y hy=>by
   obtain⟨u,hu',hr⟩:=h4 j y hy
   exact⟨u,by rw [cell_of_heap h6];exact hu',hr.frame hs ho ht hu hsh none (fun p hp=>by cases hp)⟩⟩
 | bdp s x =>
  have gs:=hg s (Nat.beq_refl s)
  obtain⟨b,off,h1,h2,h3,h4⟩:=h
  have h56:(L' b).without s=.sh∧w'.heap[b]?=w.heap[b]?:=by
   cases hb:L b with
   | sh=>obtain⟨h5,h6⟩:=hsh b hb h3;exact⟨without_sh h5,h6⟩
   | fo=>rw [hb] at h2;simp [Lab.without] at h2
   | my p =>
    rw [hb] at h2
    cases p with
    | nil=>simp [Lab.without] at h2
    | cons t q =>
     simp only [Lab.without] at h2
     cases hts:Nat.beq t s with
     | false=>rw [hts] at h2;cases h2
     | true =>
      have:=Nat.eq_of_beq_eq_true hts
      subst this
      obtain⟨h5,h6⟩:=hk b t q hb gs
      exact⟨by rw [h5];simp [Lab.without,Nat.beq_refl],h6⟩
  exact⟨b,off,h1,h56.1,Nat.lt_of_lt_of_le h3 hs,fun j y hy=>by
   obtain⟨u,hu,hr⟩:=h4 j y hy
   exact⟨u,by rw [cell_of_heap h56.2];exact hu,repB gs hr⟩⟩
 | bor s x=>exact repB (hg s (Nat.beq_refl s)) h
 | clo f caps =>
  simp only [Hold] at h ⊢
  rw [h]
  congr 2
  refine List.map_congr_left fun s hs=>?_
  exact(htm s (hg s (by simp only [TV.dep,List.any_eq_true];exact⟨s,hs,Nat.beq_refl s⟩))).symm
theorem Hold.clear{L:Nat→Lab}{w:World}{tmps:Array Value}{n d:Nat}{u:Value}(hnd:n≠d){tv:TV}{v:Value}(hd:tv.dep d=false)(h:Hold L w tmps n tv v):Hold (FM.clear d L) w (tmps.setIfInBounds d u) n tv v :=
 Hold.relab (good:=fun t=>t≠d) (Nat.le_refl _) rfl rfl rfl (fun b h1 _=>⟨clear_sh h1,rfl⟩) (fun b t q h1 h2=>⟨clear_keep h1 h2,rfl⟩)
  (fun s hs=>getD_set_other (fun e=>hs e.symm)) hnd (fun s hs e=>by subst e;rw [hd] at hs;cases hs) h
theorem RelL.put{S:Sys}{w0:World}{L0:Nat→Lab}{N:Nat}{σ:St}{a:Act}{w:World}{L:Nat→Lab}(h:RelL S w0 L0 N σ a w L){d:Nat}(hd:DOk S N d){tv:TV}{v:Value}
  (hv:Hold (clear d L) w (a.tmps.setIfInBounds d v) d tv v):RelL S w0 L0 N (σ.put d tv) (a.put (some d) v) w (clear d L):=by
 refine⟨h.defers,by simp [Act.put,h.size],h.keep,h.lok.clear d,fun n hn=>?_,fun n hn=>?_,fun i hi=>(getD_set_other (hd.ne hi)).trans (h.fix i hi),h.glob⟩
 ·simp only [get,kill_eq,Act.put]
  by_cases hnd:d=n
  ·subst hnd
   rw [Nat.beq_refl,cond_true,getD_set_same (by rw [h.size];exact hd.lt)]
   exact hv
  ·rw [not_beq hnd,cond_false,getD_set_other hnd]
   cases hdep:(get σ n).dep d with
   | true=>trivial
   | false=>exact Hold.clear (fun e=>hnd e.symm) hdep (h.hold n hn)
 ·simp only [get,kill_eq]
  rw [not_beq (by have:=hd.lt;omega),cond_false]
  cases hdep:(get σ n).dep d with
  | true=>rfl
  | false=>exact h.out n hn
/-! ### one operation that computes or reads -/
def Step(S:Sys)(o:Oper)(σ σ':St):Prop :=
 ∀ (w0:World) (L0:Nat→Lab) (N:Nat) (a:Act) (w:World),(∀ d:Nat,o.dst=some d→DOk S N d)→Rel S w0 L0 N σ a w →
  ∃ v,(∀ w',Ext w w'→(execOp a.eval o).run S.P w'=.ok (.value v) w')∧Rel S w0 L0 N σ' (a.put o.dst v) w
theorem hold_plain{S:Sys}{w0:World}{L0:Nat→Lab}{N:Nat}{σ:St}{a:Act}{w:World}{L:Nat→Lab}(h:RelL S w0 L0 N σ a w L){x:Operand}{tv:TV}(hx:ov σ x=tv)(hne:tv≠.none):∃ n,Hold L w a.tmps n tv (a.eval x)∧(∀ t,x=.tmp t→n=t∧t<N):=by
 cases x with
 | tmp t =>
  simp only [ov] at hx
  have ht:t<N:=by
   rcases Nat.lt_or_ge t N with h'|h'
   ·exact h'
   ·rw [h.out t h'] at hx;exact absurd hx.symm hne
  exact⟨t,by have:=h.hold t ht;rw [hx] at this;exact this,fun t' e=>by cases e;exact⟨rfl,ht⟩⟩
 | const v =>
  simp only [ov] at hx
  subst hx
  refine⟨0,?_,fun t e=>by cases e⟩
  simp only [Hold,Act.eval]
  unfold AV.ofV
  split
  ·exact .int
  ·exact .bool
  ·rename_i s
   have:=@Rep.str L w (some [0]) s.data.toList
   simpa using this
  ·exact .nil
  ·exact .val
 | func f =>
  simp only [ov] at hx
  subst hx
  exact⟨0,.val,fun t e=>by cases e⟩
 | global g=>simp only [ov] at hx;exact absurd hx.symm hne
theorem Rep.replace{L:Nat→Lab}{w:World}{π π':Option (List Nat)}{x:AV}{v:Value}(h:Rep L w π x v)(hx:x.isOwn=false):Rep L w π' x v:=by
 cases h with
 | int=>exact .int
 | bool=>exact .bool
 | str=>exact .str
 | val=>exact .val
 | agg hl h=>exact .agg hl h
 | tup hl h=>simp [AV.isOwn] at hx
 | nil=>exact .nil
 | dead=>exact .dead
 | slE h=>exact .slE h
 | slS u h0 h1 h2 h3 h4 h5=>exact .slS u h0 h1 h2 h3 h4 h5
 | slO=>simp [AV.isOwn] at hx
 | ptS u h1 h2 h3 h4=>exact .ptS u h1 h2 h3 h4
 | ptO=>simp [AV.isOwn] at hx
 | fn h1 h2 h3 h4 h5 h6=>exact .fn h1 h2 h3 h4 h5 h6
 | mpS h1 h2 h3=>exact .mpS h1 h2 h3
 | mpO=>simp [AV.isOwn] at hx
 | msS h1 h2 h3=>exact .msS h1 h2 h3
 | msO=>simp [AV.isOwn] at hx
theorem Hold.move{L:Nat→Lab}{w:World}{tmps:Array Value}{n d:Nat}{v:Value}:∀ {tv:TV},tv.plain=true→Hold L w tmps n tv v→Hold L w tmps d tv v
 | .none,h,_=>by cases h
 | .av x,hp,h=>Rep.replace h (by simpa [TV.plain] using hp)
 | .ref _,hp,_=>by cases hp
 | .rref _ _ _,_,h=>h
 | .ptr _ _ _ _,_,h=>h
 | .fpt _ _ _,_,h=>h
 | .rptr _ _ _ _,_,h=>h
 | .dptr _,_,h=>h
 | .bdp _ _,_,h=>h
 | .bor _ _,_,h=>h
 | .clo _ _,_,h=>h
theorem Hold.clearSelf{L:Nat→Lab}{w:World}{tmps:Array Value}{d:Nat}{v u:Value}:∀ {tv:TV},tv.plain=true→tv.dep d=false→Hold L w tmps d tv v→Hold (FM.clear d L) w (tmps.setIfInBounds d u) d tv v
 | tv,hp,hd,h=>by
  have h1:Hold (FM.clear d L) w (tmps.setIfInBounds d u) (d+1) tv v:=Hold.clear (by omega) hd (Hold.move hp h)
  exact Hold.move hp h1
theorem Rel.putPlain{S:Sys}{w0:World}{L0:Nat→Lab}{N:Nat}{σ:St}{a:Act}{w:World}{L:Nat→Lab}(h:RelL S w0 L0 N σ a w L){d n:Nat}(hd:DOk S N d){tv:TV}{v:Value}(hp:tv.plain=true)(hdep:tv.dep d=false)
  (hv:Hold L w a.tmps n tv v):Rel S w0 L0 N (σ.put d tv) (a.put (some d) v) w :=
 ⟨_,h.put hd (Hold.clearSelf hp hdep (Hold.move hp hv))⟩
theorem plain_ne{tv:TV}(h:tv.plain=true):tv≠.none:=fun e=>by subst e;cases h
section
variable {S:Sys} {σ:St} {d:Nat} {ty:Nat} {pos:String} {aft:Array Edge} {g:Option (Nat×Bool)}
theorem s_mov{x:Operand}{tv:TV}(hx:ov σ x=tv)(hp:tv.plain=true)(hd:tv.dep d=false):Step S ⟨some d,.move x,ty,pos,aft,g⟩ σ (σ.put d tv):=by
 intro w0 L0 N a w hN ⟨L,h⟩
 obtain⟨n,hn,_⟩:=hold_plain h hx (plain_ne hp)
 exact⟨a.eval x,fun w' _=>by simp [execOp],Rel.putPlain h (hN d rfl) hp hd hn⟩
theorem s_asg{x:Operand}{tv:TV}(hx:ov σ x=tv)(hp:tv.plain=true)(hd:tv.dep d=false):Step S ⟨some d,.assign x,ty,pos,aft,g⟩ σ (σ.put d tv):=by
 intro w0 L0 N a w hN ⟨L,h⟩
 obtain⟨n,hn,_⟩:=hold_plain h hx (plain_ne hp)
 exact⟨a.eval x,fun w' _=>by simp [execOp],Rel.putPlain h (hN d rfl) hp hd hn⟩
theorem own_lt{S:Sys}{w0:World}{L0:Nat→Lab}{N:Nat}{σ:St}{a:Act}{w:World}{L:Nat→Lab}(h:RelL S w0 L0 N σ a w L){t:Nat}{tv:TV}(hx:get σ t=tv)(hne:tv≠.none):t<N:=by
 rcases Nat.lt_or_ge t N with h'|h'
 ·exact h'
 ·rw [h.out t h'] at hx;exact absurd hx.symm hne
theorem s_movO{t:Nat}{x:AV}(_hx:get σ t=.av x)(htd:Nat.beq t d=false):Step S ⟨some d,.move (.tmp t),ty,pos,aft,g⟩ σ (σ.put d (.ref t)):=by
 intro w0 L0 N a w hN ⟨L,h⟩
 refine⟨a.eval (.tmp t),fun w' _=>by simp [execOp],_,h.put (hN d rfl) ?_⟩
 simp only [Hold,Act.eval]
 rw [getD_set_other (fun e=>of_not_beq htd e.symm)]
end
end FM
