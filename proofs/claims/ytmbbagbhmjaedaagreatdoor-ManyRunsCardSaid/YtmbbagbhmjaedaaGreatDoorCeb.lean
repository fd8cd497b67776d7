/- Part of the proof. -/
import Derived.Test.YtmbbagbhmjaedaaGreatDoorCea
import Derived.Conc.WgGenN3
set_option linter.all false
set_option maxRecDepth 100000
set_option maxHeartbeats 8000000
namespace CO
open Go Go.Conc Go.ConcN Go.RowKit
variable {v:Value}{x:Operand}{g:Goroutine}
def Wk(P:Program)(main:Bool)(R:World->World->Prop)(D:World->World->Array Event->Prop)(K:World->Prop)(T:Goroutine->World->Prop)(g:Goroutine):Prop:=∃ m,∀ w,K w->Goes P main R D T m g w
def Lets(D:World->World->Array Event->Prop)(E:Event->Prop):Prop:=∀ w es,(∀ e∈es,E e)->D w w es
def tl(R:World->World->Prop)(K:World->Prop):Prop:=∀ w ai,K w->R w ai->K ai
def xQ(P:Program)(a:Act)(o:Oper)(E:Event->Prop)(w:World)(v:Value):Prop:=(execOp a.eval o).run P w=.ok (.value v) w/\∀ e∈(execOp a.eval o).events P w #[],E e
section
variable {P:Program} {main:Bool} {R:World->World->Prop} {D:World->World->Array Event->Prop} {K:World->Prop} {T:Goroutine->World->Prop} {E:Event->Prop}
theorem Wk.stop(hK:tl R K)(h:∀ w,K w->T g w):Wk P main R D K T g:=⟨0,fun w hk ai hr=>h ai (hK _ _ hk hr)⟩
theorem Wk.stepW{g':Goroutine}{K':World->Prop}(hK:tl R K)(hr:g.status=.running)(h:∀ w,K w->∃ w' es,stepG P main g w=.go g' w' es/\D w w' es/\K' w')(n:Wk P main R D K' T g'):Wk P main R D K T g:=by
 obtain⟨m,hm⟩:=n;refine⟨m+1,fun w hk=>Goes.step hr fun ai dO=>?_⟩;obtain⟨w',es,h1,h2,h3⟩:=h ai (hK _ _ hk dO);rw [h1,goes_go];exact⟨h2,hm w' h3⟩
theorem Wk.ctl{g':Goroutine}(hK:tl R K)(hD:Lets D E)(hr:g.status=.running)(h:∀ w,stepG P main g w=.go g' w #[])(n:Wk P main R D K T g'):Wk P main R D K T g :=
 .stepW hK hr (fun w hk=>⟨w,#[],h w,hD w #[] ag,hk⟩) n
section
variable {b:Frame} {a:Act} {k:List Item} {cs:List Frame} {ops:Array Oper} {i:Nat} {rest:List Nat} {o:Oper} {v:Value}
theorem Wk.op(hK:tl R K)(hD:Lets D E)(hb:b.kind≠.early)(ho:ops[i]?=some o)(hg:o.guard=none)(h:∀ w,K w->xQ P a o E w v)(n:Wk P main R D K T (Go.Conc.G (b.at (a.put o.dst v) (.inRegion ops rest::k)) cs)):Wk P main R D K T (Go.Conc.G (b.at a (.inRegion ops (i::rest)::k)) cs):=by
 refine .stepW hK rfl (fun w hk=>?_) n;obtain⟨h1,h2⟩:=h w hk;refine⟨w,_,stepG_value ho (by unfold Region.wanted;rw [hg]) hb h1,hD _ _ fun e he=>h2 e (mem_listed he),hk⟩
theorem Wk.seq{x y:Code}(hK:tl R K)(hD:Lets D E)(n:Wk P main R D K T (Go.Conc.G (b.at a (.code x::.code y::k)) cs)):Wk P main R D K T (Go.Conc.G (b.at a (.code (.seq x y)::k)) cs):=.ctl hK hD rfl (fun w=>stepG_seq) n
theorem Wk.reg{id:Nat}(hK:tl R K)(hD:Lets D E){l:List Nat}(hl:List.range ops.size=l)(n:Wk P main R D K T (Go.Conc.G (b.at a (.inRegion ops l::k)) cs)):Wk P main R D K T (Go.Conc.G (b.at a (.code (.region id ops false)::k)) cs):=.ctl hK hD rfl (fun w=>by rw [stepG_region,hl]) n
theorem Wk.tn(hK:tl R K)(hD:Lets D E)(n:Wk P main R D K T (Go.Conc.G (b.at a k) cs)):Wk P main R D K T (Go.Conc.G (b.at a (.inRegion ops []::k)) cs):=.ctl hK hD rfl (fun w=>stepG_region_end) n
theorem Wk.block{id:Nat}{c:Code}(hK:tl R K)(hD:Lets D E)(n:Wk P main R D K T (Go.Conc.G (b.at a (.code c::.inBlock id::k)) cs)):Wk P main R D K T (Go.Conc.G (b.at a (.code (.block id c)::k)) cs):=.ctl hK hD rfl (fun w=>stepG_block) n
theorem Wk.inBlock{id:Nat}(hK:tl R K)(hD:Lets D E)(n:Wk P main R D K T (Go.Conc.G (b.at a k) cs)):Wk P main R D K T (Go.Conc.G (b.at a (.inBlock id::k)) cs):=.ctl hK hD rfl (fun w=>stepG_inBlock) n
theorem Wk.loop{c:Code}(hK:tl R K)(hD:Lets D E)(n:Wk P main R D K T (Go.Conc.G (b.at a (.code c::.inLoop c::k)) cs)):Wk P main R D K T (Go.Conc.G (b.at a (.code (.loop c)::k)) cs):=.ctl hK hD rfl (fun w=>stepG_loop) n
theorem Wk.inLoop{c:Code}(hK:tl R K)(hD:Lets D E)(n:Wk P main R D K T (Go.Conc.G (b.at a (.code c::.inLoop c::k)) cs)):Wk P main R D K T (Go.Conc.G (b.at a (.inLoop c::k)) cs):=.ctl hK hD rfl (fun w=>stepG_inLoop) n
theorem Wk.cond{c:Operand}{x y:Code}{t:Bool}(hK:tl R K)(hD:Lets D E)(ht:a.eval c=.bool t)(n:Wk P main R D K T (Go.Conc.G (b.at a (.code (if t then x else y)::k)) cs)):Wk P main R D K T (Go.Conc.G (b.at a (.code (.cond c x y)::k)) cs):=.ctl hK hD rfl (fun w=>stepG_cond ht) n
theorem Wk.skip(hK:tl R K)(hD:Lets D E)(n:Wk P main R D K T (Go.Conc.G (b.at a k) cs)):Wk P main R D K T (Go.Conc.G (b.at a (.code .skip::k)) cs):=.ctl hK hD rfl (fun w=>stepG_skip) n
theorem Wk.exit{id:Nat}{k':List Item}(hK:tl R K)(hD:Lets D E)(he:exitTo id k=some k')(n:Wk P main R D K T (Go.Conc.G (b.at a k') cs)):Wk P main R D K T (Go.Conc.G (b.at a (.code (.exit id)::k)) cs):=.ctl hK hD rfl (fun w=>stepG_exit he) n
theorem Wk.draw{id:Nat}(hK:tl R K)(hKd:∀ w,K w->K { w with drawn:=w.drawn+1 })(hDd:∀ w,D w { w with drawn:=w.drawn+1 } #[])(hm:P.follows .mixedOrders=true)(m:Nat)(n:∀ l,tg .any ops (Array.replicate ops.size false) l->∀ w,K w->Goes P main R D T m (Go.Conc.G (b.at a (.inRegion ops l::k)) cs) w):Wk P main R D K T (Go.Conc.G (b.at a (.code (.region id ops true)::k)) cs):=by
 refine⟨m+1,fun w hk=>Goes.step rfl fun ai dO=>?_⟩;rw [stepG_region_draw,goes_go];refine⟨hDd _,n _ ?_ _ (hKd _ (hK _ _ hk dO))⟩;rw [hm];exact uF _
theorem Wk.call{f:FuncId}{fn:Func}{c:Code}{args:Array Operand}{Ox:Array TypeId}(hK:tl R K)(hD:Lets D E)(hb:b.kind≠.early)(ho:ops[i]?=some o)(hg:o.guard=none)(bU:o.op=.call { callee:=.value (.func f),args,argTypes:=Ox })
  (hf:P.funcs[f]?=some fn) (j3:(fn.name == "runtime.NumGoroutine")=false) (RY:fn.body=some c) (n:Wk P main R D K T (Go.Conc.G (Frame.enter P f (args.map a.eval) .normal) (b.at a (.inRegion ops (i::rest)::k)::cs))):Wk P main R D K T (Go.Conc.G (b.at a (.inRegion ops (i::rest)::k)) cs):=by
 obtain⟨m,hm⟩:=n;refine⟨m+1,fun w hk=>Goes.step rfl fun ai dO=>?_⟩;refine goes_call ho (by unfold Region.wanted;rw [hg]) hb bU hf j3 RY ⟨hD _ _ ag,?_⟩;rw [<- enter_at _ hf RY];exact hm _ (hK _ _ hk dO)
end
end
section
variable {P:Program} {a:Act} {E:Event->Prop} {w:World} {d:Option Nat} {ty:Nat} {pos:String} {aft:Array Edge} {g:Option (Nat×Bool)}
theorem La{o:Oper}{es:Array Event}(h:(execOp a.eval o).runT P w #[]=(.ok (.value v) w,es))(he:∀ e∈es,E e):xQ P a o E w v:=by
 rw [Sem.runT_eq] at h;injection h with h1 h2
 exact⟨h1,by rw [h2];exact he⟩
theorem bY(hx:a.eval x=v):xQ P a ⟨d,.move x,ty,pos,aft,g⟩ E w v:=La (es:=#[]) (by subst hx;rfl) ag
theorem bH(hx:a.eval x=v):xQ P a ⟨d,.assign x,ty,pos,aft,g⟩ E w v:=La (es:=#[]) (by subst hx;rfl) ag
theorem dP{i:Nat}{vs:Array Value}(hx:a.eval x=.tuple vs)(hv:vs[i]?=some v):xQ P a ⟨d,.extract x i,ty,pos,aft,g⟩ E w v:=by
 refine La (es:=#[]) ?_ ag;show((Instr.extract (a.eval x) i).bind fun v=>(Sem.pure (Next.value v):Sem Next)).runT P w #[]=_;rw [hx];have h3:(Instr.extract (.tuple vs) i).runT P w #[]=(.ok v w,#[]):=by
  unfold Instr.extract;simp only [hv];rfl
 rw [Sem.runT_bind',h3];rfl
theorem eI{t:TypeId}{td:TypeDesc}{ad:Addr}(hu:P.underlying t=some td)(hd:(match td with|.struct _|.array _ _=>true|_=>false)=false)(hx:a.eval x=.pointer (some ad))(hc:w.cell? ad=some v)(hE:E ⟨.cell ad,false,false⟩):xQ P a ⟨d,.load t x,ty,pos,aft,g⟩ E w v:=by
 refine La (es:=#[⟨.cell ad,false,false⟩]) ?_ (by simpa using hE);show((Instr.loadAt t (a.eval x)).bind fun v=>(Sem.pure (Next.value v):Sem Next)).runT P w #[]=_;rw [hx];show((loadVar t ad).bind fun v=>(Sem.pure (Next.value v):Sem Next)).runT P w #[]=_;have h1:(isAgg t).runT P w #[]=(.ok false w,#[]):=by
  show((underlying t).bind _).runT P w #[]=_;have:(underlying t).runT P w #[]=(.ok td w,#[]):=by
   show(Sem.program fun p=>(match p.underlying t with|some d=>pure d|none=>stuck "no such type" : Sem TypeDesc)).runT P w #[]=_;simp only [Sem.runT,hu];rfl
  rw [Sem.runT_bind',this];cases td<;>first|rfl|cases hd
 have h2:(loadVar t ad).runT P w #[]=(.ok v w,#[⟨.cell ad,false,false⟩]):=by
  show((isAgg t).bind _).runT P w #[]=_;rw [Sem.runT_bind',h1];show(Sem.load .plain ad fun v=>.pure v).runT P w #[]=_;simp only [Sem.runT,hc];rfl
 rw [Sem.runT_bind',h2];rfl
theorem JZ{t e:TypeId}{y:Operand}{b o l c n:Nat}{i:Nat}(hu:P.underlying t=some (.slice e))(hs:(P.info? e).map (·.size)=some n)(hx:a.eval x=.slice (some ⟨b,o,none⟩) l c)(hy:a.eval y=.int .i64 i)(hi:i<l):xQ P a ⟨d,.indexAddr t x y,ty,pos,aft,g⟩ E w (.pointer (some ⟨b,o+i*n,none⟩)):=by
 refine La (es:=#[]) ?_ ag;show((Instr.indexAt t (a.eval x) (a.eval y)).bind fun v=>(Sem.pure (Next.value v):Sem Next)).runT P w #[]=_;rw [hx,hy];obtain⟨inf,h1,rfl⟩:=ahs.1 hs;have VY:∀ es,(underlying t).runT P w es=(.ok (.slice e) w,es):=fun es=>by
  show(Sem.program fun p=>(match p.underlying t with|some d=>pure d|none=>stuck "no such type" : Sem TypeDesc)).runT P w es=_;simp only [Sem.runT,hu];rfl
 have bc:∀ es,(Go.sizeOf e).runT P w es=(.ok inf.size w,es):=fun es=>by
  show((Sem.program fun p=>(match p.info? e with|some d=>pure d|none=>stuck "no such type" : Sem TypeInfo)).bind fun i=>.pure i.size).runT P w es=_;rw [Sem.runT_bind'];simp only [Sem.runT,h1];rfl
 have h3:(Instr.indexAt t (.slice (some ⟨b,o,none⟩) l c) (.int .i64 i)).runT P w #[]=(.ok (.pointer (some ⟨b,o+i*inf.size,none⟩)) w,#[]):=by
  show((underlying t).bind _).runT P w #[]=_;rw [Sem.runT_bind',VY];dsimp only;show((underlying t).bind _).runT P w #[]=_;rw [Sem.runT_bind',VY];dsimp only;rw [if_pos ⟨Int.natCast_nonneg i,ae⟩];show((Go.sizeOf e).bind _).runT P w #[]=_;rw [Sem.runT_bind',bc];dsimp only;rw [iS,ahN];rfl
 rw [Sem.runT_bind',h3];rfl
end
end CO
namespace CO
open Go
def Zr(v:Value):Prop:=∀ ρ:Ren,VR ρ v v
def Th:Nat->Value->Bool
 | 0,_=>false
 | n+1,v=>match v with
  | .bool _|.int _ _|.float _ _|.complex _ _ _|.string _|.pointer none|.slice none _ _|.map none|.chan none|.nilFunc|.nilIface=>true
  | .agg p=>p.toList.all (Th n)
  | .tuple p=>p.toList.all (Th n)
  | _=>false
theorem xR{ρ:Ren}{p:Array Value}(h:∀ x∈p.toList,VR ρ x x):AR ρ p p:=⟨rfl,fun i x y hx hy=>by
 rw [hx] at hy;cases hy
 exact h x (Array.mem_toList_iff.2 (aih hx))⟩
theorem CX:∀ (n:Nat) (v:Value),Th n v=true->Zr v
 | 0,v,h=>by cases h
 | n+1,v,h=>by
  intro ρ
  cases v with
  | bool b=>exact .bool b
  | int k n=>exact .int k n
  | float k n=>exact .float k n
  | complex k n m=>exact .complex k n m
  | string s=>exact .string s
  | pointer a=>cases a with
   | none=>exact .ptrN
   | some a=>cases h
  | slice a l c=>cases a with
   | none=>exact .sliceN l c
   | some a=>cases h
  | map r=>cases r with
   | none=>exact .mapN
   | some a=>cases h
  | chan r=>cases r with
   | none=>exact .chanN
   | some a=>cases h
  | nilFunc=>exact .nilFunc
  | nilIface=>exact .nilIface
  | agg p =>
   simp only [Th,ahM] at h;have:=xR (ρ:=ρ) fun x hx=>CX n x (h x hx) ρ;exact .agg this.size this.get
  | tuple p =>
   simp only [Th,ahM] at h;have:=xR (ρ:=ρ) fun x hx=>CX n x (h x hx) ρ;exact .tuple this.size this.get
  | _=>cases h
theorem vH{α β:Type}(I:β->Prop){f:α->β->Option (ForInStep β)}(hs:∀ a b s,I b->f a b=some s->I (match s with|.done x=>x|.yield x=>x)):∀ (l:List α) (b r:β),I b->forIn l b f=some r->I r
 | [],b,r,h0,h=>by
  simp only [List.forIn_nil,pure,ahp] at h;subst h;exact h0
 | a::l,b,r,h0,h=>by
  rw [List.forIn_cons] at h;simp only [bind,ail] at h;obtain⟨s,h1,h2⟩:=h;have:=hs a b s h0 h1
  cases s with
  | done x=>simp only [pure,ahp] at h2;subst h2;exact this
  | yield x=>exact vH I hs l x r this h2
theorem Zr.ar{z:Value}(h:Zr z)(ρ:Ren):AR ρ z.cells z.cells:=VR.cells (h ρ)
theorem ou{info:TypeId->Option TypeInfo}(hi:∀ t i z,info t=some i->i.zero=some z->Zr z){fs:Array Field}{i:TypeInfo}{z:Value}(h:Made.reckonStruct info fs=some i)(hz:i.zero=some z):Zr z:=by
 unfold Made.reckonStruct at h;simp only [bind,ail,pure] at h;obtain⟨a,ha,h⟩:=h;have hI:=vH (I:=fun s:Array Field×Nat×Nat×Nat×Nat×Bool×Bool×Option (Array Value)×String=>∀ za,s.2.2.2.2.2.2.2.1=some za->∀ ρ:Ren,AR ρ za za) ?_ fs.toList _ a ?_ (by rw [<- Array.forIn_toList] at ha;exact ha)
 ·have key:i.zero=a.2.2.2.2.2.2.2.1.map .agg:=by
   split at h<;>(cases h;rfl)
  rw [key,ahs] at hz;obtain⟨za,h1,rfl⟩:=hz;exact fun ρ=>.agg (hI za h1 ρ).size (hI za h1 ρ).get
 ·intro f b s hb hs za Nh ρ;simp only [ail] at hs;obtain⟨ii,h1,hs⟩:=hs;have fin:(b.2.2.2.2.2.2.2.1.bind fun x=>ii.zero.bind fun y=>some (x++y.cells))=some za->AR ρ za za:=by
   intro hh
   ·simp only [ail,ahp] at hh;obtain⟨x,hx,y,hy,rfl⟩:=hh;exact(hb x hx ρ).append ((hi _ _ _ h1 hy).ar ρ)
  repeat' first
   | (split at hs)
   | (simp only [Option.bind_none,ail,reduceCtorEq,false_and,exists_false] at hs;done)
   | (simp only [ail] at hs;obtain⟨_,_,hs⟩:=hs)
  all_goals first
   | (cases hs;done)
   | (cases hs;exact fin Nh)
   | (cases hs;cases Nh;done)
 ·intro za h ρ;cases h;exact .nil
theorem AG{info:TypeId->Option TypeInfo}(hi:∀ t i z,info t=some i->i.zero=some z->Zr z){d:TypeDesc}{i:TypeInfo}{z:Value}(h:Made.reckon info d=some i)(hz:i.zero=some z):Zr z:=by
 unfold Made.reckon at h;split at h
 case h_6 =>
  simp only [bind,ail,pure] at h;obtain⟨j,hj,s,_,h⟩:=h;cases h;dsimp only at hz;split at hz
  ·cases hz
  ·split at hz
   ·cases hz;exact fun ρ=>.agg rfl fun i x y hx _=>by simp at hx
   ·rw [ahs] at hz;obtain⟨y,hy,rfl⟩:=hz;have qx:=hi _ _ _ hj hy;intro ρ;have this:∀ n:Nat,AR ρ (Array.replicate n y.cells).flatten (Array.replicate n y.cells).flatten:=fun n=>xR (ρ:=ρ) fun x hx=>by
     simp only [Array.mem_toList_iff,Array.mem_flatten,Array.mem_replicate] at hx;obtain⟨l,⟨_,rfl⟩,hx⟩:=hx;obtain⟨k,hk,rfl⟩:=Array.mem_iff_getElem.1 hx;exact(qx.ar ρ).get k _ _ (by simp [hk]) (by simp [hk])
    exact .agg rfl (this _).get
 case h_7=>exact ou hi h hz
 all_goals try simp only [bind,ail,pure] at h
 all_goals repeat' first
  | (obtain⟨_,_,h⟩:=h)
  | (split at h)
 all_goals first
  | (cases h;done)
  | (cases h;cases hz;first|exact fun ρ=>.ptrN|exact fun ρ=>.sliceN _ _|exact fun ρ=>.mapN|exact fun ρ=>.chanN|exact fun ρ=>.nilFunc)
  | (simp only [ail] at h;obtain⟨_,_,h⟩:=h;cases h;cases hz;first|exact fun ρ=>.ptrN)
  | skip
 all_goals first
  | (simp only [Made.word,ahp] at hz;subst hz;first|exact fun ρ=>.ptrN|exact fun ρ=>.sliceN _ _|exact fun ρ=>.mapN|exact fun ρ=>.chanN|exact fun ρ=>.nilFunc)
  | skip
theorem zOk{P:Program}(h:(P.types.toList.all fun i:TypeInfo=>match i.zero with|some z=>Th 20 z|none=>true)=true):I3 P:=by
 have h0:∀ (t:Nat) (i:TypeInfo) (z:Value),P.types[t]?=some i->i.zero=some z->Zr z:=fun t i z hi hz=>by
  have:=ahM.1 h i (Array.mem_toList_iff.2 (aih hi));simp only [hz] at this;exact CX _ _ this
 have key:∀ (n t:Nat) (i:TypeInfo) (z:Value),Made.infoAt P.toTables n t=some i->i.zero=some z->Zr z:=by
  intro n
  induction n with
  | zero=>intro t i z h;cases h
  | succ n ih =>
   intro t i z h hz;unfold Made.infoAt at h;split at h
   ·exact h0 t i z h hz
   ·simp only [ail] at h;obtain⟨d,_,h⟩:=h;exact AG (fun t i z h hz=>ih t i z h hz) h hz
 intro t i z hi hz;unfold Tables.info? at hi;split at hi
 ·exact h0 t i z hi hz
 ·exact key _ t i z hi hz
end CO
namespace CO
open Go Go.Conc Go.ConcN Go.RowKit
variable {i:Nat}
theorem iT(T:Array Value)(i j:Nat)(v:Value)(hj:j<T.size):(T.setIfInBounds i v).getD j undef=if i=j then v else T.getD j undef:=by
 simp only [ahA,aif];by_cases e:i=j
 ·subst e;simp [hj]
 ·simp [e]
theorem cj(T:Array Value){j:Nat}(v:Value)(h:i≠j):(T.setIfInBounds i v).getD j undef=T.getD j undef:=by
 simp only [ahA,aif,if_neg h]
theorem cM(T:Array Value)(v:Value)(h:i<T.size):(T.setIfInBounds i v).getD i undef=v:=by rw [iT T i i v h,if_pos rfl]
theorem eU(T:Array Bool){j:Nat}{d:Bool}(h:i≠j):(T.setIfInBounds i true).getD j d=T.getD j d:=by
 simp only [ahA,aif,if_neg h]
theorem J0(T:Array Bool){d:Bool}(h:i<T.size):(T.setIfInBounds i true).getD i d=true:=by
 simp [ahA,aif,h]
theorem tq{md:Region.Mode}{ops:Array Oper}(ht:∀ (i:Nat) (o:Oper),ops[i]?=some o->∀ e∈o.after,e.on<i){listed:Array Bool}(bc:listed.size=ops.size){i:Nat}(hi:listed.getD i true=false):Region.ready md ops listed≠[]:=by
 induction i using Nat.strongRecOn with
 | _ i ih =>
  by_cases h:∃ j,j<i/\listed.getD j true=false
  ·obtain⟨j,h1,h2⟩:=h;exact ih j h1 h2
  ·have aA:i<ops.size:=by
    rw [<- bc];rcases aia i listed.size with h|h
    ·exact h
    ·rw [ahA,Array.getElem?_eq_none h] at hi;cases hi
   intro xP;have:i∈Region.ready md ops listed:=JY (o:=ops[i]) (by simp [aA]) hi fun e he _=>by
    have RP:=ht i ops[i] (by simp [aA]) e he;have:listed.getD e.on true=true:=by
     cases hh:listed.getD e.on true with
     | true=>rfl
     | false=>exact absurd ⟨_,RP,hh⟩ h
    have hl:e.on<listed.size:=ae;simp only [ahA,ahO hl,ah8] at this ⊢;exact this
   rw [xP] at this;cases this
theorem GH{md:Region.Mode}{ops:Array Oper}{listed:Array Bool}{l:List Nat}(h:tg md ops listed l)(hd:∀ i,i<ops.size->listed.getD i true=true):l=[]:=by
 cases h with
 | nil _=>rfl
 | cons hi _ =>
  have h1:=th hi;obtain⟨_,o,ho,_⟩:=mem_ready.1 hi;rw [hd _ (ahx.1 ho).1] at h1;cases h1
section
variable {P:Program} {a:Act} {w:World} {d:Option Nat} {ty:Nat} {pos:String} {aft:Array Edge} {g:Option (Nat×Bool)}
theorem CY{t:TypeId}{x y:Operand}{b o:Nat}{v0 v1:Value}{cur:Array Value}{e:TypeId}(hs:(P.info? t).map (·.size)=some 2)(hx:a.eval x=.pointer (some ⟨b,o,none⟩))(hy:a.eval y=.agg #[v0,v1])(h0:v0.oneCell'=true)(h1:v1.oneCell'=true)(hg:w.heap[b]?=some (.cells cur e (0,0)))(hl:o+2<=cur.size):
  (execOp a.eval ⟨d,.store t x y,ty,pos,aft,g⟩).run P w=.ok .skip ((w.setRow b (cur.setIfInBounds o v0)).setRow b ((cur.setIfInBounds o v0).setIfInBounds (o+1) v1)) /\
   (execOp a.eval ⟨d,.store t x y,ty,pos,aft,g⟩).events P w #[]=#[⟨.cell ⟨b,o,none⟩,true,false⟩,⟨.cell ⟨b,o+1,none⟩,true,false⟩]:=by
 obtain⟨inf,hi,bc⟩:=ahs.1 hs;have Hd:w.cell? ⟨b,o,none⟩=some cur[o]:=by simp [World.cell?,hg]
 have VZ:w.frozen? ⟨b,o,none⟩=false:=by simp [World.frozen?,hg]
 have J1:(store ((⟨b,o,none⟩:Addr).add 0) v0).run P w=.ok () (w.setRow b (cur.setIfInBounds o v0)):=by
  rw [iS,run_store P w _ v0 _ h0,aib,Hd];simp [VZ,setCell_eq_setRow w b o cur e (0,0) v0 hg]
 have RZ:∀ es,(store ((⟨b,o,none⟩:Addr).add 0) v0).events P w es=es.push ⟨.cell ⟨b,o,none⟩,true,false⟩:=fun es=>by
  rw [iS,events_store P w es _ v0 _ h0,aib,Hd];simp only [VZ,ahD,if_false];rfl
 have S3:=setRow_heap w b cur (cur.setIfInBounds o v0) e _ hg;have PM:(w.setRow b (cur.setIfInBounds o v0)).cell? ⟨b,o+1,none⟩=some ((cur.setIfInBounds o v0)[o+1]'(by simp;omega)):=by
  have aA:o+1<cur.size:=ae;simp [World.cell?,S3,aA]
 have lC:(w.setRow b (cur.setIfInBounds o v0)).frozen? ⟨b,o+1,none⟩=false:=by simp [World.frozen?,S3]
 have V0:(store ((⟨b,o,none⟩:Addr).add 1) v1).run P (w.setRow b (cur.setIfInBounds o v0))=.ok () ((w.setRow b (cur.setIfInBounds o v0)).setRow b ((cur.setIfInBounds o v0).setIfInBounds (o+1) v1)):=by
  rw [iS,run_store P _ _ v1 _ h1,PM];simp [lC,setCell_eq_setRow _ b (o+1) _ e (0,0) v1 S3]
 have V1:∀ es,(store ((⟨b,o,none⟩:Addr).add 1) v1).events P (w.setRow b (cur.setIfInBounds o v0)) es=es.push ⟨.cell ⟨b,o+1,none⟩,true,false⟩:=fun es=>by
  rw [iS,events_store P _ es _ v1 _ h1,PM];simp only [lC,ahD,if_false];rfl
 have jh:(Go.sizeOf t).run P w=.ok 2 w:=by simp [Go.sizeOf,typeInfo,hi,bc]
 have R1:∀ es,(Go.sizeOf t).events P w es=es:=fun es=>by simp [Go.sizeOf,typeInfo,hi]
 have BH:(Value.agg #[v0,v1]).cells=#[v0,v1]:=rfl;constructor
 ·simp only [execOp,Instr.storeAt,hx,hy,Instr.sureAddr,storeVar];simp [jh,BH,storeCells,J1,V0]
 ·simp only [execOp,Instr.storeAt,hx,hy,Instr.sureAddr,storeVar];simp [jh,R1,BH,storeCells,J1,V0,RZ,V1]
end
end CO
namespace CO
open Go Go.Conc Go.ConcN Go.RowKit
variable {g:Goroutine}
section
variable {P:Program} {main:Bool} {R:World->World->Prop} {D:World->World->Array Event->Prop} {K:World->Prop} {T:Goroutine->World->Prop} {E:Event->Prop}
variable {b:Frame} {a:Act} {k:List Item} {cs:List Frame} {ops:Array Oper} {i:Nat} {rest:List Nat} {o:Oper} {v:Value}
theorem eK(hK:tl R K)(hD:Lets D E)(hb:b.kind≠.early)(ho:ops[i]?=some o)(hg:o.guard=none)(h:∀ w,K w->xQ P a o E w v){m:Nat}(n:∀ w,K w->Goes P main R D T m (Go.Conc.G (b.at (a.put o.dst v) (.inRegion ops rest::k)) cs) w)(w:World)(hk:K w):
  Goes P main R D T (m+1) (Go.Conc.G (b.at a (.inRegion ops (i::rest)::k)) cs) w:=by
 refine Goes.step rfl fun ai dO=>?_;have hk:=hK _ _ hk dO;obtain⟨h1,h2⟩:=h ai hk;rw [stepG_value ho (by unfold Region.wanted;rw [hg]) hb h1,goes_go];exact⟨hD _ _ fun e he=>h2 e (mem_listed he),n _ hk⟩
theorem CZ{f:FuncId}{fn:Func}{c:Code}{args:Array Operand}{Ox:Array TypeId}(hK:tl R K)(hD:Lets D E)(hb:b.kind≠.early)(ho:ops[i]?=some o)(hg:o.guard=none)(bU:o.op=.call { callee:=.value (.func f),args,argTypes:=Ox })
  (hf:P.funcs[f]?=some fn) (j3:(fn.name == "runtime.NumGoroutine")=false) (RY:fn.body=some c) {m:Nat} (n:∀ w,K w->Goes P main R D T m (Go.Conc.G (Frame.enter P f (args.map a.eval) .normal) (b.at a (.inRegion ops (i::rest)::k)::cs)) w) (w:World) (hk:K w) :
  Goes P main R D T (m+1) (Go.Conc.G (b.at a (.inRegion ops (i::rest)::k)) cs) w:=by
 refine Goes.step rfl fun ai dO=>?_;refine goes_call ho (by unfold Region.wanted;rw [hg]) hb bU hf j3 RY ⟨hD _ _ ag,?_⟩;rw [<- enter_at _ hf RY];exact n _ (hK _ _ hk dO)
theorem jC{g':Goroutine}(hK:tl R K)(hD:Lets D E)(hr:g.status=.running)(h:∀ w,stepG P main g w=.go g' w #[]){m:Nat}(n:∀ w,K w->Goes P main R D T m g' w)(w:World)(hk:K w):Goes P main R D T (m+1) g w:=by
 refine Goes.step hr fun ai dO=>?_;rw [h ai,goes_go];exact⟨hD _ _ ag,n _ (hK _ _ hk dO)⟩
theorem Wk.of{m:Nat}(h:∀ w,K w->Goes P main R D T m g w):Wk P main R D K T g:=⟨m,h⟩
theorem Wk.at (h:Wk P main R D K T g)(w:World)(hk:K w):∃ m,Goes P main R D T m g w:=let ⟨m,hm⟩:=h;⟨m,hm w hk⟩
end
end CO
namespace CO
open Go Go.Conc Go.ConcN Go.RowKit Go.Conc.Lib Go.ConcR.Gen Go.ConcN.Gen
open Go.ConcR (KK wgBlock WgAt stA smA rd wr mk Payload Aside2 DC0)
variable {w:World}{g:Goroutine}
variable [Payload]
structure EL(G:cz)(C:Nat):Prop where
 lo:C<G.Lo
 wg:C≠G.Wg
 ch:C≠G.Ch
 o:C≠G.O
 sh:¬ G.Sh C
theorem p5{G:cz}{ty:TypeId}{q:Option Nat}{C n:Nat}(hC:EL G C){ai:World}(h:RB G ty q w ai):RW ty G.Wg C n 0 0 w ai:=by
 have hb:=h.low.low C hC.lo hC.wg hC.ch hC.o;refine⟨fun b hb=>absurd hb (ait _),h.live,fun⟨cs,h1,h2⟩=>⟨cs,hb.trans h1,h2⟩,?_⟩;unfold World.cell?;simp only [hb]
theorem dh{P:Program}{main:Bool}{R R':World->World->Prop}{D D':World->World->Array Event->Prop}{T T':Goroutine->World->Prop}(hR:∀ a b,R' a b->R a b)(hD:∀ a b e,D a b e->D' a b e)(hT:∀ g w,T g w->T' g w):
  ∀ {m:Nat} {g:Goroutine} {w:World},Goes P main R D T m g w->Goes P main R' D' T' m g w:=by
 intro m
 induction m with
 | zero=>exact fun h ai dO=>hT _ _ (h ai (hR _ _ dO))
 | succ m ih =>
  intro g w h;rcases h with h|⟨aD,h⟩
  ·exact .inl fun ai dO=>hT _ _ (h ai (hR _ _ dO))
  ·refine .inr ⟨aD,fun ai dO=>?_⟩;have:=h ai (hR _ _ dO)
   cases hs:stepG P main g ai with
   | go g' w' es =>
    rw [hs,goes_go] at this;rw [goes_go];exact⟨hD _ _ _ this.1,ih this.2⟩
   | _=>rw [hs] at this;exact this.elim
section
variable {P:Program} {ty:TypeId} {Wg C n k:Nat} {R:World->World->Prop} (hR:∀ a b,R a b->RW ty Wg C n 0 (k-1) a b)
include hR
theorem toD3(h:AtD3 P ty Wg C n 0 k g w):RH P ty Wg R g w :=
 ⟨h.1,fun hw=>by obtain⟨g',h1,m,h2⟩:=h.2 hw;exact⟨g',h1,m,dh hR (fun _ _ _ h=>h) (fun _ _ h=>h) h2⟩⟩
theorem toD2(h:AtD2 P ty Wg C n 0 k g w):RI P ty Wg R g w :=
 ⟨h.1,fun hw=>by obtain⟨g',h1,m,h2⟩:=h.2 hw;exact⟨g',h1,m,dh hR (fun _ _ _ h=>h) (fun _ _ h=>toD3 hR h) h2⟩⟩
theorem toD1(h:AtD1 P ty Wg C n 0 k g w):RJ P ty Wg R g w :=
 ⟨h.1,fun v wt h1 h2 hw=>by
  obtain⟨g',h3,h4,h5⟩:=h.2 v wt h1 h2 hw
  exact⟨g',h3,fun h=>by obtain⟨m,h6⟩:=h4 h;exact⟨m,dh hR (fun _ _ _ h=>h) (fun _ _ h=>toD2 hR h) h6⟩,h5⟩⟩
theorem toK1(h:AtK1 P ty Wg C n 0 k g w):RL P ty Wg R g w :=
 ⟨h.1,by obtain⟨g',h1,m,h2⟩:=h.2;exact⟨g',h1,m,dh hR (fun _ _ _ h=>h) (fun _ _ h=>toD1 hR h) h2⟩⟩
theorem toR0{v:Value}(h:AtR0 P ty Wg C n 0 k v g w):Jv P ty Wg R g w :=
 ⟨h.1,by obtain⟨_,g',h1,m,h2⟩:=h.2;exact⟨g',h1,m,dh hR (fun _ _ _ h=>h) (fun _ _ h=>toK1 hR h) h2⟩⟩
end
theorem J2{P:Program}{G:cz}{ty:TypeId}{q:Option Nat}{GI J3 n:Nat}(h1:EL G GI)(h2:EL G J3)(cr:GI≠J3){cg aal:Value}:
  ∀ {m:Nat} {g:Goroutine} {w:World},Goes P false (RW ty G.Wg GI n 0 (1-1)) (DWs G.Wg (fun _ _=>False) (fun _ _=>False) GI n 1) (AtR0 P ty G.Wg GI n 0 1 cg) m g w->Goes P false (RW ty G.Wg J3 n 0 (1-1)) (DWs G.Wg (fun _ _=>False) (fun _ _=>False) J3 n 1) (AtR0 P ty G.Wg J3 n 0 1 aal) m g w ->
   Goes P false (RB G ty q) (DR G) (Jv P ty G.Wg (RB G ty q)) m g w:=by
 intro m
 induction m with
 | zero=>exact fun a _ ai hw=>toR0 (fun _ _ h=>p5 h1 h) (a ai (p5 h1 hw))
 | succ m ih =>
  intro g w a b;rcases a with a|⟨aD,a⟩
  ·exact .inl fun ai hw=>toR0 (fun _ _ h=>p5 h1 h) (a ai (p5 h1 hw))
  ·rcases b with b|⟨_,b⟩
   ·exact .inl fun ai hw=>toR0 (fun _ _ h=>p5 h2 h) (b ai (p5 h2 hw))
   ·refine .inr ⟨aD,fun ai hw=>?_⟩;have x:=a ai (p5 h1 hw);have y:=b ai (p5 h2 hw)
    cases hs:stepG P false g ai with
    | go g' w' es =>
     rw [hs,goes_go] at x y;rw [goes_go];refine⟨⟨⟨?_,x.1.1.os,x.1.1.output⟩,fun e he=>.inr (x.1.2 e he)⟩,ih x.2 y.2⟩;apply Array.ext_getElem?;intro c;by_cases e:c=GI
     ·exact y.1.1.block c (by rw [e];exact cr)
     ·exact x.1.1.block c e
    | _=>rw [hs] at x;exact x.elim
end CO
namespace CO
open Go Go.Conc Go.ConcN
section
variable {P:Program} {main:Bool} {R:World->World->Prop} {D:World->World->Array Event->Prop} {T:Goroutine->World->Prop}
theorem GJ:∀ {m:Nat} {g:Goroutine} {w:World} (k:Nat),Goes P main R D T m g w->Goes P main R D T (m+k) g w:=by
 intro m
 induction m with
 | zero =>
  intro g w k h
  cases k with
  | zero=>exact h
  | succ k=>rw [ahR];exact .inl h
 | succ m ih =>
  intro g w k h;rw [Nat.succ_add];rcases h with h|⟨aD,h⟩
  ·exact .inl h
  ·refine .inr ⟨aD,fun ai dO=>?_⟩;have:=h ai dO
   cases hs:stepG P main g ai with
   | go g' w' es =>
    rw [hs,goes_go] at this;rw [goes_go];exact⟨this.1,ih k this.2⟩
   | _=>rw [hs] at this;exact this.elim
end
end CO
namespace CO
open Go Go.Conc Go.ConcN Go.RowKit Go.Conc.Lib Go.ConcR.Gen Go.ConcN.Gen
open Go.ConcR (KK wgBlock WgAt stA smA rd wr mk Payload Aside2 DC0)
variable {L:WgLink}
section
variable {G:cz} {F:World->Prop} {R:World->World->Prop} {Child Next:Goroutine->World->Prop} {b₀:Frame} {a₀:Act} {ops₀:Array Oper} {i₀:Nat} {rest₀:List Nat} {k₀:List Item} {cs:List Frame} {mT:Nat}
theorem addPos{P:Program}(H:WgLib P L)(aw:∀ {w ai:World},F w/\WgLive L.tWg G.Wg w->R w ai->F ai/\WgLive L.tWg G.Wg ai)(Ha:∀ {w ai:World},F w->Aside G.Wg w ai->WgLive L.tWg G.Wg ai->F ai)
  (hT:∀ w,F w->WgLive L.tWg G.Wg w->Goes P true R (DS G) (Xp P Child Next) mT (Go.Conc.G (b₀.at (a₀.put ((ops₀[i₀]?).bind (·.dst)) (.tuple #[])) (.inRegion ops₀ rest₀::k₀)) cs) w)
  (w:World) (hF:F w/\WgLive L.tWg G.Wg w) :
  Goes P true R (DS G) (Jw P L.tWg G.Wg R (DS G) Child Next) 12 (Go.Conc.G ((base L.add).at ⟨#[.pointer (some ⟨G.Wg,0,none⟩),.int .i64 1,undef,undef,undef,undef,undef,undef,undef,undef,undef,undef,undef,undef,undef,undef,undef,undef,undef,undef,undef,undef,undef,undef,undef,undef,undef,undef,undef,undef,undef,undef,undef,undef,undef,undef,undef,undef,undef,undef,undef,undef,undef,undef,undef,undef,undef,undef,undef,undef,undef,undef,undef,undef,undef,undef,undef,undef,undef,undef,undef,undef,undef,undef,undef,undef,undef,undef,undef,undef,undef,undef,undef,undef,undef,undef,undef,undef,undef,undef,undef,undef,undef,undef,undef,undef,undef,undef,undef,undef,undef,undef,undef,undef,undef,undef,undef,undef,undef,undef,undef,undef,undef,undef,undef,undef,undef,undef,undef,undef,undef,undef,undef,undef,undef,undef,undef],[]⟩ [.code (body_add L)]) (b₀.at a₀ (.inRegion ops₀ (i₀::rest₀)::k₀)::cs)) w:=by
 lib_facts
 simp only [body_add,addFn,ah8];u_c stepG_seq aw hF;u_cond true aw hF;u_c stepG_seq aw hF;u_c stepG_seq aw hF;u_reg aw hF;u_op aw hF;u_op aw hF;u_c stepG_region_end aw hF;u_cond false aw hF;u_c stepG_skip aw hF;u_c stepG_seq aw hF;u_reg aw hF;refine Goes.stop (fun ai dO=>?_);replace hF:=aw hF dO;clear dO;refine⟨rfl,_,stepG_mark0 .disable ag rfl rfl (by k_ne) rfl H.f_disable (x_disable_n L) (x_disable_b L) (x_disable_x L) (x_disable_f L),40,?_⟩
 walk_nrm
 u_c stepG_region_end aw hF;u_reg aw hF;u_defer aw hF;u_c stepG_region_end aw hF;u_c stepG_seq aw hF;u_reg aw hF;u_op aw hF;u_c stepG_region_end aw hF;u_c stepG_seq aw hF;u_c stepG_seq aw hF;u_reg aw hF;u_bub aw hF;u_c stepG_region_end aw hF;u_cond false aw hF;u_c stepG_skip aw hF;u_c stepG_seq aw hF;u_reg aw hF;u_op aw hF;u_op aw hF;u_op aw hF;u_op aw hF;u_op aw hF;u_op aw hF;u_call H.f_uAdd (nm_uAdd L) uAddFn aw hF;u_c stepG_seq aw hF;u_reg aw hF;u_op aw hF;u_c stepG_region_end aw hF;u_c stepG_seq aw hF;u_reg aw hF;u_op aw hF;u_op aw hF;u_op aw hF;u_op aw hF;refine Goes.stop (fun fQ xL=>?_);replace hF:=aw hF xL;clear xL;refine⟨rfl,fun v hv hw=>?_⟩;rcases aiD v with rfl|hvp
 ·replace hw:WgAt L.tWg G.Wg fQ 0 0:=by simpa using hw
  have z:(((0:Nat):Int)+1)*KK=KK:=ag;rw [z];have e0:IntKind.u64.wrap (0+4294967296)=KK:=af;refine⟨_,(stepG_add_atomic rfl rfl (by k_ne) rfl H.f_addU64 (x_addU64_n L) (x_addU64_b L) (x_addU64_x L) .u64 (x_addU64_f L) rfl rfl hw.cellSt (hw.thaw 0)).trans (by rw [e0];rfl),110,?_⟩;have hL:WgLive L.tWg G.Wg (fQ.setCell (stA G.Wg) (.int .u64 KK)):=⟨_,_,hw.setSt _⟩;replace hF:F (fQ.setCell (stA G.Wg) (.int .u64 KK))/\WgLive L.tWg G.Wg (fQ.setCell (stA G.Wg) (.int .u64 KK)):=⟨Ha hF.1 (aside_setCell fQ (stA G.Wg) _) hL,hL⟩;clear hw hL;simp only [KK] at hF ⊢
  walk_nrm
  u_op aw hF;u_c stepG_region_end aw hF;u_c stepG_ret' aw hF;u_leave1 H.f_uAdd aw hF;u_op aw hF;u_c stepG_region_end aw hF;u_c stepG_seq aw hF;u_c stepG_seq aw hF;u_reg aw hF;u_op aw hF;u_op aw hF;u_op aw hF;u_op aw hF;u_skip aw hF;u_skip aw hF;u_op aw hF;u_c stepG_region_end aw hF;u_cond false aw hF;u_c stepG_skip aw hF;u_c stepG_seq aw hF;u_reg aw hF;u_op aw hF;u_op aw hF;u_op aw hF;u_op aw hF;u_c stepG_region_end aw hF;u_c stepG_seq aw hF;u_reg aw hF;u_op aw hF;u_op aw hF;u_op aw hF;u_op aw hF;u_c stepG_region_end aw hF;u_c stepG_seq aw hF;u_c stepG_seq aw hF;u_reg aw hF;u_op aw hF;u_op aw hF;u_op aw hF;u_op aw hF;u_op aw hF;u_op aw hF;u_op aw hF;u_op aw hF;u_op aw hF;u_op aw hF;u_c stepG_region_end aw hF;u_cond true aw hF;u_reg aw hF;u_op aw hF;u_op aw hF;u_op aw hF;u_conv H.underlying_tPU32 H.room_tU32 (WgLive.cell1 hF.2).choose_spec aw hF;u_in aw hF;rw [stepG_markAt .read ag rfl rfl (by k_ne) rfl H.f_raceRead (x_raceRead_n L) (x_raceRead_b L) (x_raceRead_x L) (x_raceRead_f L) (ad:=⟨G.Wg,1,none⟩) (by simp [Act.eval])];simp only [goes_go];refine⟨⟨fun _ _=>rfl,fun e he=>?_⟩,?_⟩
  ·rw [Array.mem_singleton] at he;subst he;exact ev0_said_read _ rfl
  walk_nrm
  u_c stepG_region_end aw hF;u_c stepG_seq aw hF;u_c stepG_seq aw hF;u_reg aw hF;u_op aw hF;u_op aw hF;u_c stepG_region_end aw hF;u_cond false aw hF;u_c stepG_skip aw hF;u_c stepG_seq aw hF;u_c stepG_seq aw hF;u_reg aw hF;u_op aw hF;u_op aw hF;u_op aw hF;u_skip aw hF;u_skip aw hF;u_op aw hF;u_op aw hF;u_skip aw hF;u_skip aw hF;u_skip aw hF;u_skip aw hF;u_op aw hF;u_c stepG_region_end aw hF;u_cond false aw hF;u_c stepG_skip aw hF;u_c stepG_seq aw hF;u_c stepG_seq aw hF;u_reg aw hF;u_op aw hF;u_op aw hF;u_op aw hF;u_skip aw hF;u_skip aw hF;u_op aw hF;u_c stepG_region_end aw hF;u_cond true aw hF;u_c stepG_ret' aw hF;refine Goes.stop (fun C0 uG=>?_);replace hF:=aw hF uG;clear uG;refine⟨rfl,_,stepG_unwind_entry (v:=.tuple #[]) (evs:=#[mk .enable]) rfl H.f_enable (x_enable_n L) (x_enable_b L) (x_enable_x L) (x_enable_f L) (by simp [Extern.Race.none_]) (by simp [mk]) (by simp [mk]),mT+1,?_⟩;u_leave0 H.f_add aw hF;exact hT _ hF.1 hF.2
 ·obtain⟨V,hV⟩:∃ V:Int,V=(v:Int)+1:=⟨_,rfl⟩;obtain⟨S,hS⟩:∃ S:Int,S=V*KK:=⟨_,rfl⟩;have eS:IntKind.u64.wrap ((v:Int)*KK+4294967296)=S:=by rw [IntKind.wrap_u64,hS,hV];simp only [KK];omega
  rw [<- hV,<-hS];have a1:S / 4294967296=V:=by rw [hS];simp only [KK];omega
  have b1:bits .and .u64 S 2147483648=0:=by rw [hS,hV];have:=st_flag (v+1) 0 ae ae;simpa [KK] using this
  have b2:bits .and .u64 S 2147483647=0:=by rw [hS,hV];have:=st_waiters (v+1) 0 ae ae;simpa [KK] using this
  have c1:IntKind.i32.wrap V=V:=by rw [IntKind.wrap_i32];omega
  have hV1:1<V:=ae;have hV2:V<2147483648:=ae;have q1:(V==1)=false:=by simp;omega
  have q2:decide (V=1)=false:=decide_eq_false ae;have q3:decide (V<0)=false:=decide_eq_false ae;have q4:decide (0<V)=true:=decide_eq_true ae;have q5:(V==0)=false:=by simp;omega
  have q6:decide (V=0)=false:=decide_eq_false ae;refine⟨_,(stepG_add_atomic rfl rfl (by k_ne) rfl H.f_addU64 (x_addU64_n L) (x_addU64_b L) (x_addU64_x L) .u64 (x_addU64_f L) rfl rfl hw.cellSt (hw.thaw 0)).trans (by rw [eS];rfl),110,?_⟩;have hL:WgLive L.tWg G.Wg (fQ.setCell (stA G.Wg) (.int .u64 S)):=⟨_,_,hw.setSt _⟩;replace hF:F (fQ.setCell (stA G.Wg) (.int .u64 S))/\WgLive L.tWg G.Wg (fQ.setCell (stA G.Wg) (.int .u64 S)):=⟨Ha hF.1 (aside_setCell fQ (stA G.Wg) _) hL,hL⟩;clear hw hL hS hV eS
  walk_nrm
  u_op aw hF;u_c stepG_region_end aw hF;u_c stepG_ret' aw hF;u_leave1 H.f_uAdd aw hF;u_op aw hF;u_c stepG_region_end aw hF;u_c stepG_seq aw hF;u_c stepG_seq aw hF;u_reg aw hF;u_op aw hF;u_op aw hF;u_op aw hF;u_op aw hF;u_skip aw hF;u_skip aw hF;u_op aw hF;u_c stepG_region_end aw hF;u_cnd false aw hF;u_c stepG_skip aw hF;u_c stepG_seq aw hF;u_reg aw hF;u_op aw hF;u_op aw hF;u_op aw hF;u_op aw hF;u_c stepG_region_end aw hF;u_c stepG_seq aw hF;u_reg aw hF;u_op aw hF;u_op aw hF;u_op aw hF;u_op aw hF;u_c stepG_region_end aw hF;u_c stepG_seq aw hF;u_c stepG_seq aw hF;u_reg aw hF;u_op aw hF;u_op aw hF;u_op aw hF;u_op aw hF;u_op aw hF;u_op aw hF;u_op aw hF;u_op aw hF;u_op aw hF;u_op aw hF;u_c stepG_region_end aw hF;u_cnd false aw hF;u_c stepG_skip aw hF;u_c stepG_seq aw hF;u_c stepG_seq aw hF;u_reg aw hF;u_op aw hF;u_op aw hF;u_c stepG_region_end aw hF;u_cnd false aw hF;u_c stepG_skip aw hF;u_c stepG_seq aw hF;u_c stepG_seq aw hF;u_reg aw hF;u_op aw hF;u_op aw hF;u_op aw hF;u_skip aw hF;u_skip aw hF;u_op aw hF;u_op aw hF;u_skip aw hF;u_skip aw hF;u_skip aw hF;u_skip aw hF;u_op aw hF;u_c stepG_region_end aw hF;u_cnd false aw hF;u_c stepG_skip aw hF;u_c stepG_seq aw hF;u_c stepG_seq aw hF;u_reg aw hF;u_op aw hF;u_op aw hF;u_op aw hF;u_skip aw hF;u_skip aw hF;u_op aw hF;u_c stepG_region_end aw hF;u_cnd true aw hF;u_c stepG_ret' aw hF;refine Goes.stop (fun C0 uG=>?_);replace hF:=aw hF uG;clear uG;refine⟨rfl,_,stepG_unwind_entry (v:=.tuple #[]) (evs:=#[mk .enable]) rfl H.f_enable (x_enable_n L) (x_enable_b L) (x_enable_x L) (x_enable_f L) (by simp [Extern.Race.none_]) (by simp [mk]) (by simp [mk]),mT+1,?_⟩;u_leave0 H.f_add aw hF;exact hT _ hF.1 hF.2
end
end CO
