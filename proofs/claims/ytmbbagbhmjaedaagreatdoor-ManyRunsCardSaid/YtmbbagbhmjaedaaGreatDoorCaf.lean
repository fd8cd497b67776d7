/- Part of the proof. -/
import Derived.Test.YtmbbagbhmjaedaaGreatDoorCae
set_option linter.all false
namespace FM
open Go Go.RowKit
variable {L L':Nat->aO}{w w':World}
def look:List (Nat×TI)->Nat->Option TI
 | [],_=>none
 | (k,i)::r,t=>bif Nat.beq k t then some i else look r t
def Hw(P:Program):List (Nat×TI)->Prop
 | []=>True
 | e::r=>tT P e.1 e.2/\Hw P r
theorem look_ok{P:Program}:∀ {l:List (Nat×TI)},Hw P l->∀ {t:Nat} {i:TI},look l t=some i->tT P t i
 | [],_,t,i,h=>by simp [look] at h
 | (k,j)::r,hok,t,i,h=>by
  simp only [look] at h
  cases hk:Nat.beq k t with
  | true=>rw [hk,cond_true] at h;injection h with h;subst h;have:=ahz hk;subst this;exact hok.1
  | false=>rw [hk,cond_false] at h;exact look_ok hok.2 h
theorem tT.PC{P:Program}{t size bytes:Nat}{zero:List AV}(h:(P.info? t).map (fun i=>(i.size,i.bytes))=some (size,bytes))(hz:(P.info? t).bind (fun i=>i.zero.map (·.cells.toList))=some (zero.map AV.toV))(hf:zero.all AV.aR=true)(hl:zero.length=size):
  ∃ f z,P.info? t=some f/\f.size=size/\f.bytes=bytes/\f.zero=some z/\z.cells.toList=zero.map AV.toV/\zero.all AV.aR=true/\z.cells.size=size:=by
 cases hi:P.info? t with
 | none=>rw [hi] at h;cases h
 | some f =>
  rw [hi] at h hz;simp only [ah2,ahp,Prod.mk.injEq] at h;simp only [aiJ] at hz
  cases qw:f.zero with
  | none=>rw [qw] at hz;cases hz
  | some z =>
   rw [qw] at hz;simp only [ah2,ahp] at hz;refine⟨f,z,rfl,h.1,h.2,qw,hz,hf,?_⟩;rw [<- aiA,hz,ahu,hl]
inductive NoSh:AV->Prop
 | int {n}:NoSh (.int n)
 | bool {b}:NoSh (.bool b)
 | str {s}:NoSh (.str s)
 | val {v}:NoSh (.val v)
 | nil:NoSh .nil
 | dead:NoSh .dead
 | agg {cs} (h:∀ x∈cs,NoSh x):NoSh (.agg cs)
 | tup {cs} (h:∀ x∈cs,NoSh x):NoSh (.tup cs)
 | slE {o c}:NoSh (.sl o c [])
 | sl {c xs} (h:∀ x∈xs,NoSh x):NoSh (.sl true c xs)
 | pt {cs} (h:∀ x∈cs,NoSh x):NoSh (.pt true cs)
class fU(x:AV):Prop where
 out:NoSh x
class kF(xs:List AV):Prop where
 out:∀ x∈xs,NoSh x
instance {n : Int} : fU (.int n) := ⟨.int⟩
instance {b : Bool} : fU (.bool b) := ⟨.bool⟩
instance {s : List UInt8} : fU (.str s) := ⟨.str⟩
instance {v : Value} : fU (.val v) := ⟨.val⟩
instance : fU .nil := ⟨.nil⟩
instance : fU .dead := ⟨.dead⟩
instance {o : Bool} {c : Nat} : fU (.sl o c []) := ⟨.slE⟩
instance {cs : List AV} [h : kF cs] : fU (.agg cs) := ⟨.agg h.out⟩
instance {cs : List AV} [h : kF cs] : fU (.tup cs) := ⟨.tup h.out⟩
instance {c : Nat} {cs : List AV} [h : kF cs] : fU (.sl true c cs) := ⟨.sl h.out⟩
instance {cs : List AV} [h : kF cs] : fU (.pt true cs) := ⟨.pt h.out⟩
instance : kF [] := ⟨fun x h => by cases h⟩
instance {x : AV} {xs : List AV} [h : fU x] [hs : kF xs] : kF (x :: xs) := ⟨fun y hy => by
 rcases ah1.1 hy with rfl|hy
 ·exact h.out
 ·exact hs.out y hy⟩
instance {xs ys : List AV} [h : kF xs] [h' : kF ys] : kF (xs ++ ys) := ⟨fun y hy => by
 rcases aie.1 hy with hy|hy
 ·exact h.out y hy
 ·exact h'.out y hy⟩
instance {α : Type} {f : α -> AV} {l : List α} [h : ∀ x, fU (f x)] : kF (l.map f) := ⟨fun y hy => by
 obtain⟨x,_,rfl⟩:=ahY.1 hy
 exact(h x).out⟩
theorem Be{p:Prop}:false=true->p:=fun h=>Bool.noConfusion h
theorem Bf{b:Bool}{r:AV}[h:fU r]:b=true->NoSh r:=fun _=>h.out
theorem NoSh.cells{x y:AV}(h:NoSh x)(hy:y∈x.cells):NoSh y:=by
 cases h with
 | agg h=>exact h y hy
 | int=>simp only [AV.cells,ahL] at hy;subst hy;exact .int
 | bool=>simp only [AV.cells,ahL] at hy;subst hy;exact .bool
 | str=>simp only [AV.cells,ahL] at hy;subst hy;exact .str
 | val=>simp only [AV.cells,ahL] at hy;subst hy;exact .val
 | nil=>simp only [AV.cells,ahL] at hy;subst hy;exact .nil
 | dead=>simp only [AV.cells,ahL] at hy;subst hy;exact .dead
 | tup h=>simp only [AV.cells,ahL] at hy;subst hy;exact .tup h
 | slE=>simp only [AV.cells,ahL] at hy;subst hy;exact .slE
 | sl h=>simp only [AV.cells,ahL] at hy;subst hy;exact .sl h
 | pt h=>simp only [AV.cells,ahL] at hy;subst hy;exact .pt h
theorem NoSh.flat{xs:List AV}(h:∀ x∈xs,NoSh x):∀ y∈flat xs,NoSh y:=by
 intro y hy;simp only [FM.flat,List.mem_flatMap] at hy;obtain⟨x,hx,hy⟩:=hy;exact(h x hx).cells hy
theorem Rep.Bp{L':Nat->aO}{w':World}{π:Option (List Nat)}{x:AV}{v:Value}(h:Rep L w π x v):
  NoSh x->∀ mv:Option (List Nat),(∀ p,π=some p->∃ p',mv=some p'/\∀ b q,L b=.my (p++q)->L' b=.my (p'++q)/\w'.heap[b]?=w.heap[b]?)->Rep L' w' mv x v:=by
 induction h with
 | int=>exact fun _ _ _=>.int
 | bool=>exact fun _ _ _=>.bool
 | str=>exact fun _ _ _=>.str
 | val=>exact fun _ _ _=>.val
 | agg hl _ ih =>
  intro hn mv _
  cases hn with
  | agg hn=>exact .agg hl fun i x v hx hv=>ih i x v hx hv (hn x (ahH hx)) none (fun p hp=>by cases hp)
 | @tup π cs vs hl _ ih =>
  intro hn mv hO
  cases hn with
  | tup hn =>
   refine .tup hl fun i x v hx hv=>ih i x v hx hv (hn x (ahH hx)) _ fun p hp=>?_
   cases π with
   | none=>simp [ch] at hp
   | some p0 =>
    simp only [ch,ah2,ahp] at hp;subst hp;obtain⟨p',rfl,h⟩:=hO p0 rfl;exact⟨p'++[i],rfl,fun b q hb=>by have:=h b ([i]++q) (by rw [<- ahX];exact hb);rw [ahX];exact this⟩
 | nil=>exact fun _ _ _=>.nil
 | dead=>exact fun _ _ _=>.dead
 | slE h=>exact fun _ _ _=>.slE h
 | slS u bK hL hb hc aH hr ih =>
  intro hn mv _
  cases hn with
  | slE=>exact .slE ag
 | @slO p c xs b cap arr e u hL hb bK bc hc aH hr ih =>
  intro hn mv hO;obtain⟨p',rfl,h⟩:=hO p rfl;obtain⟨h1,h2⟩:=h b [] (by simpa using hL);have Bd:∀ x∈xs,NoSh x:=by
   cases hn with
   | slE=>intro x hx;cases hx
   | sl hn=>exact hn
  refine .slO u (by simpa using h1) (h2.trans hb) bK bc hc aH fun o y hy=>ih o y hy (NoSh.flat Bd y (ahH hy)) _ fun q hq=>?_;cases hq;exact⟨p'++[o],rfl,fun b q hb=>by have:=h b ([o]++q) (by rw [<- ahX];exact hb);rw [ahX];exact this⟩
 | ptS=>intro hn;cases hn
 | @ptO p cs b arr e u hL hb bc aH hr ih =>
  intro hn mv hO;obtain⟨p',rfl,h⟩:=hO p rfl;obtain⟨h1,h2⟩:=h b [] (by simpa using hL)
  cases hn with
  | pt hn =>
   refine .ptO u (by simpa using h1) (h2.trans hb) bc aH fun o y hy=>ih o y hy (hn y (ahH hy)) _ fun q hq=>?_;cases hq;exact⟨p'++[o],rfl,fun b q hb=>by have:=h b ([o]++q) (by rw [<- ahX];exact hb);rw [ahX];exact this⟩
 | fn=>intro hn;cases hn
 | mpS=>intro hn;cases hn
 | mpO=>intro hn;cases hn
 | msS=>intro hn;cases hn
 | msO=>intro hn;cases hn
inductive aX(S:Sys)(N:Nat)(σ:St)(x:Operand):Bool->AV->Prop
 | pl {y} (h:ov σ x=.av y) (ho:y.aW=false):aX S N σ x false y
 | br {y z} (h:rd σ (ov σ x)=y) (hd:y≠.dead) (hz:y.sh=z):aX S N σ x true z
 | fn {B:Tk} (h:∀ w0 L0 a w,Rel S w0 L0 N σ a w->B.holds w (fun _=>True) (a.eval x)):aX S N σ x true (.fn B)
inductive aV(S:Sys)(N:Nat)(σ:St):List Operand->Bool->List AV->Prop
 | nil:aV S N σ [] false []
 | cons {x xs b c y ys} (h:aX S N σ x b y) (r:aV S N σ xs c ys):aV S N σ (x::xs) (b||c) (y::ys)
section
variable {S:Sys} {N:Nat} {σ:St}
theorem aV.length{xs:List Operand}{b:Bool}{ys:List AV}(h:aV S N σ xs b ys):xs.length=ys.length:=by
 induction h with
 | nil=>rfl
 | cons _ _ ih=>simp [ih]
theorem aV.get{xs:List Operand}{b:Bool}{ys:List AV}(h:aV S N σ xs b ys):∀ (i:Nat) (x:Operand) (y:AV),xs[i]?=some x->ys[i]?=some y->∃ c,aX S N σ x c y/\(b=false->c=false):=by
 induction h with
 | nil=>intro i x y h;simp at h
 | @cons x xs b c y ys h r ih =>
  intro i x' y' hx hy
  cases i with
  | zero=>simp only [ahq,ahp] at hx hy;subst hx;subst hy;exact⟨b,h,fun e=>by cases b<;>simp_all⟩
  | succ i =>
   simp only [ahP] at hx hy;obtain⟨c',h1,h2⟩:=ih i x' y' hx hy;exact⟨c',h1,fun e=>h2 (by cases b<;>simp_all)⟩
theorem aX.Hy{x:Operand}{b:Bool}{y:AV}(h:aX S N σ x b y){w0:World}{L0:Nat->aO}{a:Act}{w:World}{L:Nat->aO}(hR:RelL S w0 L0 N σ a w L):Rep (fun _=>.sh) w none y (a.eval x):=by
 cases h with
 | pl h ho =>
  obtain⟨n,hn⟩:=cU hR h;exact Rep.frame (ahr _) rfl rfl rfl (fun _ _ _=>⟨rfl,rfl⟩) (hn.replace (mv:=none) ho) none (fun p hp=>by cases hp)
 | br h hd hz =>
  obtain⟨L',π,h1,h2,h3⟩:=yo hR h hd;subst hz;exact Rep.toSh (fun _ _ _=>rfl) h3 (fun _ _ _ _ _=>rfl)
 | fn h=>exact .fn (wE:=w) (B:=fun _=>True) (h w0 L0 a w ⟨L,hR⟩) (ahr _) rfl rfl rfl fun b _ _=>⟨rfl,rfl⟩
def Bq(L:Nat->aO):Nat->aO:=fun b=>match L b with
 | .sh=>.sh
 | _=>.fo
theorem aX.NQ{x:Operand}{y:AV}(h:aX S N σ x false y){w0:World}{L0:Nat->aO}{a:Act}{w:World}{L L1:Nat->aO}(hR:RelL S w0 L0 N σ a w L)(h1:∀ b,b<w.heap.size->L b=.sh->L1 b=.sh):Rep L1 w none y (a.eval x):=by
 cases h with
 | pl h ho =>
  obtain⟨n,hn⟩:=cU hR h;exact Rep.frame (ahr _) rfl rfl rfl (fun b hb aA=>⟨h1 b aA hb,rfl⟩) (hn.replace (mv:=none) ho) none (fun p hp=>by cases hp)
theorem jf{P:Program}{f:Nat}(hf:jd P f){ρ:Operand->Value}{xs:List Operand}{ts:Array Nat}{o:Oper}(ho:o.op=.call ⟨.value (.func f),xs.toArray,ts⟩)(Bc:ρ (.func f)=.func (.func f) #[] #[])(w:World):
  (execOp ρ o).run P w=.ok (.enter f (xs.map ρ).toArray) w:=by
 obtain⟨fn,h1,h2,h3⟩:=hf.out;simp only [execOp,ho,resolve,Bc,Deferred.ofValue,Sem.run_bind,Sem.run_pure,Result.andThen_ok,invoke,callFunc,run_program,h1,h2,h3];simp
def fI(n d:Nat)(sz:Nat)(L L':Nat->aO):Nat->aO:=fun b =>
 if b<sz then clear d L b else match L' b with
  | .my (k::q)=>bif Nat.beq k n then .my (d::q) else .sh
  | _=>.sh
theorem jg{n d sz:Nat}{b:Nat}{p:List Nat}(h:fI n d sz L L' b=.my p):(b<sz/\clear d L b=.my p)∨(sz<=b/\∃ q,L' b=.my (n::q)/\p=d::q):=by
 unfold fI at h;split at h
 ·exact .inl ⟨‹_›,h⟩
 ·refine .inr ⟨ae,?_⟩
  cases hL:L' b with
  | my p' =>
   rw [hL] at h
   cases p' with
   | nil=>cases h
   | cons k q =>
    simp only at h
    cases hk:Nat.beq k n with
    | true=>rw [hk,cond_true] at h;injection h with h;have:=ahz hk;subst this;exact⟨q,rfl,h.symm⟩
    | false=>rw [hk] at h;cases h
  | sh=>rw [hL] at h;cases h
  | fo=>rw [hL] at h;cases h
theorem Br{w0:World}{L0:Nat->aO}{a:Act}(hR:RelL S w0 L0 N σ a w L){d:Nat}(hd:oC S N d){n:Nat}{xs9':List AV}{r:AV}{L1:Nat->aO}{vs:List Value}{v:Value}(hB:tW n xs9' r L1 w vs v w' L')(dJ:∀ b p,L1 b≠.my p)
  (mC:Rep (fI n d w.heap.size L L') w' (some [d]) r v):Ext w w'/\Rel S w0 L0 N (σ.put d (.av r)) (a.put (some d) v) w':=by
 have q7:Ext w w':=⟨hB.keep.os,hB.keep.tape,hB.keep.output,hB.keep.size,fun b hb=>hB.keep.block b hb (fun p=>dJ b p)⟩;have oG:∀ b p,L' b=.my p->w.heap.size<=b:=fun b p hb=>by
  rcases aia b w.heap.size with h|h
  ·obtain⟨q,hq⟩:=hB.lok.old b p h hb;exact absurd hq (dJ b q)
  ·exact h
 refine⟨q7,fI n d w.heap.size L L',hR.defers,by simp [Act.put,hR.size],hR.keep.ext q7,⟨fun b p hb=>?_,fun b b' p hb bI=>?_,fun b p hb=>?_,fun b p aA hb=>?_,fun b aA=>?_,fun b hge hf=>?_⟩,fun m hm=>?_,fun m hm=>?_,fun i hi=>(ay (hd.ne hi)).trans (hR.fix i hi),hR.glob⟩
 ·rcases jg hb with⟨h1,_⟩|⟨_,q,h2,_⟩
  ·exact ahv h1 q7.size
  ·exact hB.lok.lt b _ h2
 ·rcases jg hb with⟨h1,h2⟩|⟨h1,q,h2,h3⟩<;>rcases jg bI with⟨nj,kh⟩|⟨nj,q',kh,mA⟩
  ·exact(hR.lok.clear d).inj _ _ _ h2 kh
  ·subst mA;exact absurd rfl (gO h2).2
  ·subst h3;exact absurd rfl (gO kh).2
  ·rw [h3] at mA;cases mA;exact hB.lok.inj _ _ _ h2 kh
 ·rcases jg hb with⟨_,h2⟩|⟨_,q,_,h3⟩
  ·exact(hR.lok.clear d).head _ _ h2
  ·subst h3;simp
 ·rcases jg hb with⟨_,h2⟩|⟨h1,_⟩
  ·exact(hR.lok.clear d).old b p aA h2
  ·have:=hR.keep.size;omega
 ·have:b<w.heap.size:=ahv aA hR.keep.size;unfold fI;rw [if_pos this];exact(hR.lok.clear d).fo b aA
 ·unfold fI at hf;split at hf
  ·exact(hR.lok.clear d).new b hge hf
  ·split at hf
   ·rename_i k q _;cases hk:Nat.beq k n<;>rw [hk] at hf<;>cases hf
   ·cases hf
 ·simp only [get,aY,Act.put];by_cases gP:d=m
  ·subst gP;rw [ahy,cond_true,bJ (by rw [hR.size];exact hd.lt)];exact mC
  ·rw [au gP,cond_false,ay gP]
   cases b6:(get σ m).dep d with
   | true=>trivial
   | false =>
    rw [cond_false];refine Hold.cG (good:=fun t=>t≠d) q7.size q7.os q7.tape q7.output (fun b h1 h2=>⟨by unfold fI;rw [if_pos h2];exact kB h1,q7.block b h2⟩) (fun b t q h1 h2=>⟨by unfold fI;rw [if_pos (hR.lok.lt b _ h1)];exact mz h1 h2,q7.block b (hR.lok.lt b _ h1)⟩)
     (fun s hs=>ay (fun e=>hs e.symm)) (fun e=>gP e.symm) (fun s hs e=>by subst e;rw [b6] at hs;cases hs) (hR.hold m hm)
 ·simp only [get,aY];rw [au (show d≠m by have:=hd.lt;omega),cond_false,hR.out m hm];rfl
theorem Fe{L1:Nat->aO}{n d:Nat}{xs9':List AV}{r:AV}{vs:List Value}{v:Value}(hB:tW n xs9' r L1 w vs v w' L')(dJ:∀ b p,L1 b≠.my p)(kx:NoSh r∨∀ b,b<w.heap.size->L1 b=.sh->L b=.sh)
  (hfo:NoSh r∨∀ b,b<w.heap.size->L1 b=.sh∨L1 b=.fo):Rep (fI n d w.heap.size L L') w' (some [d]) r v:=by
 have oG:∀ b p,L' b=.my p->w.heap.size<=b:=fun b p hb=>by
  rcases aia b w.heap.size with h|h
  ·obtain⟨q,hq⟩:=hB.lok.old b p h hb;exact absurd hq (dJ b q)
  ·exact h
 have SH:∀ p,(some [n]:Option (List Nat))=some p->∃ p',(some [d]:Option (List Nat))=some p'/\∀ b q,L' b=.my (p++q)->fI n d w.heap.size L L' b=.my (p'++q)/\w'.heap[b]?=w'.heap[b]?:=fun p hp=>by
  cases hp;refine⟨[d],rfl,fun b q hb=>⟨?_,rfl⟩⟩;unfold fI;rw [if_neg (by have:=oG b _ hb;omega),hb];simp [ahy]
 by_cases hN:NoSh r
 ·exact hB.res.Bp hN _ SH
 ·refine hB.res.frame (ahr _) rfl rfl rfl (fun b hb aA=>⟨?_,rfl⟩) _ SH;unfold fI;split
  ·rename_i h;have h1:L1 b=.sh:=by
    rcases(hfo.resolve_left hN) b h with h'|h'
    ·exact h'
    ·have:=(hB.lok.fo b h).2 h';rw [hb] at this;cases this
   exact kB ((kx.resolve_left hN) b h h1)
  ·rw [hb]
theorem kG{n:Nat}(dJ:∀ b p,L b≠.my p)(hf:∀ b,w.heap.size<=b->L b≠.fo)(hg:kg L w):FM.NO n L w :=
 ⟨fun b p h=>absurd h (dJ b p),fun b p h=>absurd h (dJ b p),fun b _ p h=>absurd h (dJ b p),hf,hg⟩
theorem J.call{f:Nat}{xs9:List AV}{r:AV}{xs:List Operand}{b:Bool}{ops:Array Oper}{l:List Oper}{K:St->Prop}{d ty:Nat}{ts:Array Nat}{pos:String}{aft:Array Edge}{g:Option (Nat×Bool)}(hs:FnSpec S.P f xs9 xs9 r)(hg:live ops g σ=some true)(ha:aV S N σ xs b xs9)(hb:b=true->NoSh r)(h:J false S N ops l K (σ.put d (.av r))) :
  J false S N ops (⟨some d,.call ⟨.value (.func f),xs.toArray,ts⟩,ty,pos,aft,g⟩::l) K σ:=by
 unfold J at *;intro dI w0 L0 Q a w hQ hR;obtain⟨h1,h2⟩:=aU dI;have hd:=h1 d rfl;have hw:=ba (o:=⟨some d,.call ⟨.value (.func f),xs.toArray,ts⟩,ty,pos,aft,g⟩) hg hR;simp only [wpList,hw,if_true];refine .inl ?_;unfold Oper.wp;rw [jf hs.ok rfl rfl w,Oper.upon_enter];obtain⟨L,hR⟩:=hR;have fin:∀ (L1:Nat->aO),kg L1 w->(∀ b p,L1 b≠.my p)->(∀ b,w.heap.size<=b->L1 b≠.fo)->(∀ (i:Nat) x v,xs9[i]?=some x->(xs.map a.eval)[i]?=some v->Rep L1 w none x v)->(NoSh r∨∀ b,b<w.heap.size->L1 b=.sh->L b=.sh)->(NoSh r∨∀ b,b<w.heap.size->L1 b=.sh∨L1 b=.fo) ->
   Calls S.P f (xs.map a.eval).toArray w fun
    | .returned v,Hz=>wpList S.P ops Q l (a.put (some d) v) Hz
    | .panicked chain,Hz=>Q (.panic chain) a Hz
    | .outgrown,_=>LetsOut Q:=by
  intro L1 q8 dJ hf yy h3 h4;refine(hs.calls w L1 (xs.map a.eval) (by rw [ahu,ha.length]) (kG dJ hf q8) (fun i x v hx hv=>(yy i x v hx hv).any _)).mono fun e w' ⟨v,L',he,hB⟩=>?_;subst he;obtain⟨_,gi⟩:=Br hR hd hB dJ (Fe hB dJ h3 h4);exact h h2 w0 L0 Q _ w' hQ gi
 cases KJ:b with
 | true =>
  refine fin (fun _=>.sh) hR.gh.all (fun _ _ h=>by cases h) (fun _ _ h=>by cases h) (fun i x v hx hv=>?_) (.inl (hb KJ)) (.inl (hb KJ));simp only [ahE,ahs] at hv;obtain⟨y,hy,rfl⟩:=hv;obtain⟨c,hc,_⟩:=ha.get i y x hy hx;exact hc.Hy hR
 | false =>
  refine fin (Bq L) (hR.gh.move (ahr _) fun b _ h=>⟨by unfold Bq;rw [h],rfl⟩) (fun b p h=>?_) (fun b hge h=>?_) (fun i x v hx hv=>?_) (.inr fun b _ h=>?_) (.inr fun b _=>?_)
  ·unfold Bq at h;split at h<;>cases h
  ·unfold Bq at h;split at h
   ·cases h
   ·rename_i cr
    cases HA:L b with
    | sh=>exact cr HA
    | fo =>
     exact hR.lok.new b (ahZ hR.keep.size hge) HA
    | my p=>have:=hR.lok.lt b p HA;omega
  ·simp only [ahE,ahs] at hv;obtain⟨y,hy,rfl⟩:=hv;obtain⟨c,hc,hcf⟩:=ha.get i y x hy hx;have:=hcf KJ;subst this;exact hc.NQ hR (fun b _ hb=>by unfold Bq;rw [hb])
  ·unfold Bq at h;split at h
   ·assumption
   ·cases h
  ·unfold Bq;split
   ·exact .inl rfl
   ·exact .inr rfl
end
end FM
namespace FM
open Go Go.RowKit
variable {L:Nat->aO}{w:World}{d c e:Nat}{ti:TI}{zz:List AV}{π:Option (List Nat)}{g:Option (Nat×Bool)}
def EStep(S:Sys)(o:Oper)(σ bx:St):Prop :=
 ∀ (w0:World) (L0:Nat->aO) (N:Nat) (a:Act) (w:World),(∀ d:Nat,o.dst=some d->oC S N d)->Rel S w0 L0 N σ a w ->
  ∃ v w',((execOp a.eval o).run S.P w=.ok (.value v) w'∨((execOp a.eval o).run S.P w=.ok .skip w'/\v=undef))/\Rel S w0 L0 N bx (a.put o.dst v) w'
section
variable {S:Sys} {N:Nat} {σ bx:St}
theorem J.fJ{ops:Array Oper}{l:List Oper}{K:St->Prop}{o:Oper}(hg:live ops o.guard σ=some true)(hs:EStep S o σ bx)(h:J false S N ops l K bx):J false S N ops (o::l) K σ:=by
 unfold J at *;intro dI w0 L0 Q a w hQ hR;obtain⟨h1,h2⟩:=aU dI;obtain⟨v,w',hv,gi⟩:=hs w0 L0 N a w h1 hR;have hk:=h h2 w0 L0 Q _ w' hQ gi;simp only [wpList,ba hg hR,if_true];refine .inl ?_;unfold Oper.wp;rcases hv with hv|⟨hv,rfl⟩
 ·rw [hv];exact hk
 ·rw [hv];exact hk
def eC(φ:List Nat->Option (List Nat))(L:Nat->aO):Nat->aO:=fun b =>
 match L b with
 | .my p=>match φ p with
  | some p'=>.my p'
  | none=>.sh
 | l=>l
theorem da{φ:List Nat->Option (List Nat)}{L:Nat->aO}{b:Nat}{p:List Nat}(h:eC φ L b=.my p):∃ p',L b=.my p'/\φ p'=some p:=by
 simp only [eC] at h
 cases hL:L b with
 | my p' =>
  rw [hL] at h;simp only at h
  cases Ff:φ p' with
  | none=>rw [Ff] at h;cases h
  | some r=>rw [Ff] at h;injection h with h;subst h;exact⟨p',rfl,Ff⟩
 | sh=>rw [hL] at h;cases h
 | fo=>rw [hL] at h;cases h
theorem dG{φ:List Nat->Option (List Nat)}{b:Nat}{p p':List Nat}(h:L b=.my p)(Ff:φ p=some p'):eC φ L b=.my p':=by simp only [eC,h,Ff]
theorem eD{φ:List Nat->Option (List Nat)}{b:Nat}(h:L b=.sh):eC φ L b=.sh:=by simp only [eC,h]
theorem nn{φ:List Nat->Option (List Nat)}{L:Nat->aO}{b:Nat}:eC φ L b=.fo↔L b=.fo:=by
 simp only [eC]
 cases L b with
 | my p=>simp only;cases φ p<;>simp
 | _=>simp
structure TM(φ:List Nat->Option (List Nat)):Prop where
 inj:∀ p p' r,φ p=some r->φ p'=some r->p=p'
 ne:∀ p,φ p≠some []
def fw(φ:List Nat->Option (List Nat))(g d:Nat)(L:Nat->aO):Nat->aO:=fun b=>if b=g then .my [d] else eC φ L b
theorem tU.fw{L0 L:Nat->aO}{w0 w w':World}(h:tU L0 w0 L w)(hs:w.heap.size<=w'.heap.size){φ:List Nat->Option (List Nat)}(Ff:TM φ){g d:Nat}(hd:∀ p,φ p≠some [d])(hg:g<w'.heap.size)(WS:g<w0.heap.size->∃ q,L g=.my q):tU L0 w0 (FM.fw φ g d L) w' where
 lt b p hb:=by
  unfold FM.fw at hb;split at hb
  ·subst_vars;exact hg
  ·obtain⟨p',h1,_⟩:=da hb;exact ahv (h.lt b _ h1) hs
 inj b b' p hb bI:=by
  unfold FM.fw at hb bI;split at hb<;>split at bI
  ·subst_vars;rfl
  ·injection hb with hb;subst hb;obtain⟨p',_,h2⟩:=da bI;exact absurd h2 (hd p')
  ·injection bI with bI;subst bI;obtain⟨p',_,h2⟩:=da hb;exact absurd h2 (hd p')
  ·obtain⟨p1,h1,h2⟩:=da hb;obtain⟨p1',nj,kh⟩:=da bI;have:=Ff.inj _ _ _ h2 kh;subst this;exact h.inj _ _ _ h1 nj
 head b p hb:=by
  unfold FM.fw at hb;split at hb
  ·injection hb with hb;subst hb;simp
  ·obtain⟨p',_,h2⟩:=da hb;intro e;subst e;exact Ff.ne p' h2
 old b p aA hb:=by
  unfold FM.fw at hb;split at hb
  ·subst_vars;obtain⟨q,hq⟩:=WS aA;exact h.old _ q aA hq
  ·obtain⟨p',h1,_⟩:=da hb;exact h.old b _ aA h1
 fo b aA:=by
  unfold FM.fw;split
  ·rename_i hbg;subst hbg;obtain⟨q,hq⟩:=WS aA;refine⟨fun e=>(by cases e),fun e=>?_⟩;have:=(h.fo b aA).2 e;rw [hq] at this;cases this
  ·exact nn.trans (h.fo b aA)
 new b hge hf:=by
  unfold FM.fw at hf;split at hf
  ·cases hf
  ·exact h.new b hge (nn.1 hf)
def kH(d:Nat):List Nat->Option (List Nat)
 | []=>none
 | h::q=>bif Nat.beq h d then none else some (h::q)
theorem Fg(d:Nat):TM (kH d):=by
 refine⟨fun p p' r h h'=>?_,fun p h=>?_⟩
 ·cases p with
  | nil=>cases h
  | cons a q =>
   cases p' with
   | nil=>cases h'
   | cons a' q' =>
    simp only [kH] at h h';cases ha:Nat.beq a d<;>cases Lm:Nat.beq a' d<;>simp_all
 ·cases p with
  | nil=>cases h
  | cons a q=>simp only [kH] at h;cases ha:Nat.beq a d<;>simp_all
theorem HB(d:Nat)(p:List Nat):kH d p≠some [d]:=by
 cases p with
 | nil=>simp [kH]
 | cons a q =>
  simp only [kH]
  cases ha:Nat.beq a d with
  | true=>simp
  | false=>have:=aC ha;simp;intro e;exact absurd e this
theorem oH(w:World)(o:Obj):Ext w (w.alloc o):=(Below.refl _ _).alloc (ahr _) o
theorem RelL.alloc{w0:World}{L0:Nat->aO}{a:Act}{w:World}{L:Nat->aO}(h:RelL S w0 L0 N σ a w L){d:Nat}(hd:oC S N d){o:Obj}{x:AV}{v:Value}(hx:Rep (fw (kH d) w.heap.size d L) (w.alloc o) (some [d]) x v) :
  Rel S w0 L0 N (σ.put d (.av x)) (a.put (some d) v) (w.alloc o):=by
 have he:=oH w o;have aA:w.heap.size<(w.alloc o).heap.size:=ag;refine⟨_,h.defers,by simp [Act.put,h.size],h.keep.ext he,h.lok.fw he.size (Fg d) (HB d) aA (fun h'=>absurd h' (by have:=h.keep.size;omega)),fun n hn=>?_,fun n hn=>?_,fun i hi=>(ay (hd.ne hi)).trans (h.fix i hi),h.glob⟩
 ·simp only [get,aY,Act.put];by_cases gP:d=n
  ·subst gP;rw [ahy,cond_true,bJ (by rw [h.size];exact hd.lt)];exact hx
  ·rw [au gP,cond_false,ay gP]
   cases b6:(get σ n).dep d with
   | true=>trivial
   | false =>
    rw [cond_false];refine Hold.cG (good:=fun t=>t≠d) he.size he.os he.tape he.output (fun b h1 h2=>⟨by unfold fw;rw [if_neg ae];exact eD h1,he.block b h2⟩) (fun b t q h1 h2=>⟨by unfold fw;rw [if_neg (by have:=h.lok.lt b _ h1;omega)];exact dG h1 (by simp only [kH,au h2,cond_false]),he.block b (h.lok.lt b _ h1)⟩)
     (fun s hs=>ay (fun e=>hs e.symm)) (fun e=>gP e.symm) (fun s hs e=>by subst e;rw [b6] at hs;cases hs) (h.hold n hn)
 ·simp only [get,aY];rw [au (show d≠n by have:=hd.lt;omega),cond_false,h.out n hn];rfl
theorem Rep.NR{w0:World}{L0:Nat->aO}{a:Act}(h:RelL S w0 L0 N σ a w L){o:Obj}{x:AV}{v:Value}(hx:Rep L w none x v):Rep (fw (kH d) w.heap.size d L) (w.alloc o) none x v:=by
 have he:=oH w o;have:=h.size;exact hx.frame he.size he.os he.tape he.output (fun b h1 h2=>⟨by unfold fw;rw [if_neg ae];exact eD h1,he.block b h2⟩) none (fun p hp=>by cases hp)
theorem Dz{w:World}{L:Nat->aO}{n cap d:Nat}{arr:Array Value}{e:TypeId}{xs:List AV}(hn:xs.length=n)(hc:∀ x∈xs,x.cells.length=c)(bK:n<=cap)(bc:arr.size=cap*c)
  (hr:∀ (o:Nat) y,(flat xs)[o]?=some y->∃ u,arr[o]?=some u/\Rep (fw (kH d) w.heap.size d L) (w.alloc (.cells arr e)) (some ([d]++[o])) y u) :
  Rep (fw (kH d) w.heap.size d L) (w.alloc (.cells arr e)) (some [d]) (.sl true c xs) (.slice (some ⟨w.heap.size,0,none⟩) n cap):=by
 subst hn;refine .slO (fun o=>arr.getD o undef) (by simp [fw]) (heap_alloc_new w _) bK bc hc (fun o ho=>?_) (fun o y hy=>?_)
 ·have:o<arr.size:=by rw [bc];exact ahv ho (ahT _ bK)
  simp [this]
 ·obtain⟨u,h1,h2⟩:=hr o y hy;simpa [h1] using h2
theorem toV_rep{x:AV}(h:x.aR=true):Rep L w π x x.toV:=by
 cases x<;>first|exact .int|exact .bool|exact .str|exact .val|exact .nil|(simp [AV.aR] at h)
theorem q9(n:Nat)(z:AV):flat (List.replicate n z)=(List.replicate n z.cells).flatten:=by
 simp [flat,List.flatMap_replicate]
theorem gS{α:Type}(l:List α)(n o:Nat)(h:o<n*l.length):(List.replicate n l).flatten[o]?=l[o%l.length]?:=by
 induction n generalizing o with
 | zero=>omega
 | succ n ih =>
  rw [List.replicate_succ,List.flatten_cons];by_cases ho:o<l.length
  ·rw [ahG ho,Nat.mod_eq_of_lt ho]
  ·rw [ahJ ae,ih _ (by rw [ah9] at h;omega)];congr 1
   rw [Nat.mod_eq_sub_mod (by omega:o≥l.length)]
theorem abf{t:Nat}{sz cA:Nat}{z:AV}{x:Operand}{n:Int}{ty d:Nat}{pos:String}{aft:Array Edge}{g:Option (Nat×Bool)}(hx:ov σ x=.av (.int n))(hT:S.T t=some ⟨.slice e,sz,cA,zz⟩)(hE:S.T e=some ti)(hc:ti.size=c)(h1:Nat.blt 0 c=true)(lQ:(z.cells.length=c/\ti.zero=z.cells))
  (h0:0<=n) (hb:n*ti.bytes<=140737488355328) (hm:n<=4611686018427387904):EStep S ⟨some d,.makeSlice t x x,ty,pos,aft,g⟩ σ (σ.put d (.av (.sl true c (List.replicate n.toNat z)))):=by
 intro w0 L0 N a w hN ⟨L,hR⟩;obtain⟨k,rfl⟩:=aiI h0;subst hc;obtain⟨f,zv,lC,j4,uO,yz,wa,DC,Bg⟩:=(S.ok e ti hE).info;have hpos:0<ti.size:=by simp [Nat.blt] at h1;omega
 have hw:IntKind.i64.wrap (k:Int)=k:=IntWalk.i64_in _ ae;have DD:zv.cells.toList=z.cells.map AV.toV:=by rw [wa,lQ.2]
 have Ln:zv.cells.size=ti.size:=Bg;have PD:¬ (f.bytes*(k:Int)>2 ^ 48):=by rw [uO];rw [Int.mul_comm] at hb;omega
 let arr:Array Value:=(Array.range (k*ti.size)).map (fun i=>zv.cells[i%zv.cells.size]!)
 have aD:(execOp a.eval ⟨some d,.makeSlice t x x,ty,pos,aft,g⟩).run S.P w=.ok (.value (.slice (some ⟨w.heap.size,0,none⟩) k k)) (w.alloc (.cells arr e)):=by
  simp only [execOp,eu hR hx,Instr.makeSlice,Sem.run_bind,run_underlying (S.ok t _ hT).slice,Result.andThen_ok,asInt,asIntOf,Sem.run_pure,typeInfo,run_program,lC,hw];have nf:¬ ((k:Int)<0):=ae;simp only [nf,decide_false,PD,ahD,Bool.or_self,gt_iff_lt,if_false,Int.lt_irrefl,Sem.run_bind,run_askRoom,Result.andThen_ok,Go.sizeOf,typeInfo,run_program,lC,Sem.run_pure,j4,ahN];by_cases hk:k*ti.size=0
  ·have G8:k=0:=by rcases Nat.mul_eq_zero.1 hk with h|h<;>omega
   subst G8;have hr0:Array.range 0=#[]:=rfl;simp [newRow,arr,hr0]
  ·rw [if_neg hk];simp [zeroValue,typeInfo,lC,yz,newRow,arr]
 refine⟨_,_,.inl aD,hR.alloc (hN d rfl) ?_⟩;have kl:arr.size=k*ti.size:=by simp [arr]
 refine Dz ag (fun y hy=>by rw [List.eq_of_mem_replicate hy];exact lQ.1) (ahr _) kl fun o y hy=>?_;simp only [ahN] at hy;have PE:o<k*z.cells.length:=by
  have:=(aho.1 hy).1;rw [bh (c:=z.cells.length) (fun y hy=>by rw [List.eq_of_mem_replicate hy]),List.length_replicate] at this;exact this
 rw [q9,gS _ _ _ PE] at hy;have ho2:o<k*ti.size:=by rw [<- lQ.1];exact PE
 refine⟨zv.cells[o%zv.cells.size]!,by simp [arr,ho2],?_⟩;have adq:o%zv.cells.size<zv.cells.size:=Nat.mod_lt _ ae;have qx:y.toV=zv.cells[o%zv.cells.size]! := by
  have e1:zv.cells.toList[o%zv.cells.size]?=some y.toV:=by
   rw [DD,ahE];have:zv.cells.size=z.cells.length:=by rw [Ln,lQ.1]
   rw [this,hy];rfl
  rw [air] at e1;rw [getElem!_def,e1]
 rw [<- qx];have PG:y.aR=true:=by
  rw [lQ.2] at DC;exact(ahM.1 DC) y (ahH hy)
 exact toV_rep PG
theorem kI:∀ (vs:List Value) (k off:Nat) (arr:Array Value),off+k+vs.length<=arr.size ->
  ((vs.zipIdx k).foldl (fun cs p=>cs.setIfInBounds (off+p.2) p.1) arr).size=arr.size /\
  ∀ j,((vs.zipIdx k).foldl (fun cs p=>cs.setIfInBounds (off+p.2) p.1) arr)[j]?=if off+k<=j/\j<off+k+vs.length then vs[j-(off+k)]? else arr[j]?
 | [],k,off,arr,_=>by simp;intro j h1 h2;omega
 | v::vs,k,off,arr,h=>by
  simp only [List.zipIdx_cons,List.foldl_cons,ahI] at h ⊢;obtain⟨h1,h2⟩:=kI vs (k+1) off (arr.setIfInBounds (off+k) v) (by simp;omega);refine⟨by rw [h1];simp,fun j=>?_⟩;rw [h2];by_cases hj:j=off+k
  ·subst hj;rw [if_neg ae,if_pos ae];simp [show off+k<arr.size by omega]
  ·by_cases px:off+(k+1)<=j/\j<off+(k+1)+vs.length
   ·rw [if_pos px,if_pos ae,show j-(off+k)=(j-(off+(k+1)))+1 by omega,ahP]
   ·rw [if_neg px,if_neg ae,ahw (fun e=>hj e.symm)]
theorem p9(v:Value)(off:Nat)(arr:Array Value)(h:off+v.cells.size<=arr.size):
  (v.cells.zipIdx.foldl (fun cs (c,j)=>cs.setIfInBounds (off+j) c) arr).size=arr.size /\
  ∀ j,(v.cells.zipIdx.foldl (fun cs (c,j)=>cs.setIfInBounds (off+j) c) arr)[j]?=if off<=j/\j<off+v.cells.size then v.cells[j-off]? else arr[j]?:=by
 have:=kI v.cells.toList 0 off arr (by simpa using h);rw [<- Array.foldl_toList,Array.toList_zipIdx];simpa using this
theorem re(c:Nat):∀ (vs:List Value) (k:Nat) (arr:Array Value),(∀ v∈vs,v.cells.size=c)->(k+vs.length)*c<=arr.size ->
  ∃ Fh,Instr.fill (fun i=>some (i*c,c)) arr ((vs.zipIdx k).map fun p=>(p.2,p.1))=some Fh/\Fh.size=arr.size /\
   ∀ j,Fh[j]?=if k*c<=j/\j<(k+vs.length)*c then(vs.flatMap fun v=>v.cells.toList)[j-k*c]? else arr[j]?
 | [],k,arr,_,_=>⟨arr,rfl,rfl,fun j=>by simp;intro h1 h2;omega⟩
 | v::vs,k,arr,hc,h=>by
  have hv:=hc v (ahU ..);simp only [ahI] at h;have hmul:(k+1)*c=k*c+c:=by rw [ah9,Nat.one_mul]
  have hle:(k+1)*c<=(k+(vs.length+1))*c:=ahT _ ae;obtain⟨h1,h2⟩:=p9 v (k*c) arr (by rw [hv];omega);obtain⟨Fh,h3,h4,h5⟩:=re c vs (k+1) _ (fun u hu=>hc u (ahW _ hu)) (by rw [h1,show k+1+vs.length=k+(vs.length+1) by omega];exact h);refine⟨Fh,?_,by rw [h4,h1],fun j=>?_⟩
  ·simp only [List.zipIdx_cons,aiw,Instr.fill,hv];rw [if_neg (by simp;omega)];exact h3
  ·rw [h5,h2];have he:(k+1+vs.length)*c=(k+(vs.length+1))*c:=by rw [show k+1+vs.length=k+(vs.length+1) by omega]
   rw [he];simp only [aiv,ahI];by_cases WU:k*c<=j/\j<k*c+c
   ·rw [if_neg ae,if_pos (by rw [hv];exact WU),if_pos ae,ahG (by simp [hv];omega),air]
   ·by_cases hj2:(k+1)*c<=j/\j<(k+(vs.length+1))*c
    ·rw [if_pos hj2,if_pos ae,ahJ (by simp [hv];omega)];congr 1
     simp [hv];omega
    ·rw [if_neg hj2,if_neg (by rw [hv];exact WU),if_neg ae]
inductive di(σ:St):List Operand->List AV->Prop
 | nil:di σ [] []
 | cons {x xs y ys} (h:ov σ x=.av y) (ho:y.aW=false) (r:di σ xs ys):di σ (x::xs) (y::ys)
theorem di.length{xs:List Operand}{ys:List AV}(h:di σ xs ys):xs.length=ys.length:=by
 induction h with
 | nil=>rfl
 | cons _ _ _ ih=>simp [ih]
theorem di.get{xs:List Operand}{ys:List AV}(h:di σ xs ys):∀ (i:Nat) (x:Operand) (y:AV),xs[i]?=some x->ys[i]?=some y->ov σ x=.av y/\y.aW=false:=by
 induction h with
 | nil=>intro i x y h;simp at h
 | cons h ho r ih =>
  intro i x y hx hy
  cases i with
  | zero=>simp only [ahq,ahp] at hx hy;subst hx;subst hy;exact⟨h,ho⟩
  | succ i=>simp only [ahP] at hx hy;exact ih i x y hx hy
def AV.dK:AV->Bool
 | .int _|.bool _|.str _|.nil|.sl _ _ _|.pt _ _=>true
 | .val v=>v.oneCell'
 | _=>false
def AV.fV:AV->Bool
 | .agg cs=>cs.all AV.dK
 | y=>y.dK
theorem fx{y:AV}{v:Value}(h:Rep L w π y v)(hy:y.dK=true):v.cells=#[v]/\v.oneCell'=true/\y.cells=[y]:=by
 cases h<;>first|exact⟨rfl,rfl,rfl⟩|(simp [AV.dK] at hy;done)|skip
 simp only [AV.dK] at hy;refine⟨?_,hy,rfl⟩;cases v<;>first|rfl|(simp [Value.oneCell'] at hy)
theorem uP{y:AV}{v:Value}(h:Rep L w none y v)(hy:y.fV=true):v.cells.size=y.cells.length/\(∀ u∈v.cells.toList,u.oneCell'=true)/\∀ (j:Nat) z,y.cells[j]?=some z->∃ u,v.cells[j]?=some u/\Rep L w none z u:=by
 by_cases Hr:∃ cs,y=.agg cs
 ·obtain⟨cs,rfl⟩:=Hr
  cases h with
  | @agg _ _ vs hl h =>
   simp only [AV.fV,ahM] at hy;refine⟨by simp [Value.cells,AV.cells,hl],fun u hu=>?_,fun j z hz=>?_⟩
   ·have hu:u∈vs:=by simpa [Value.cells] using hu
    obtain⟨i,hi,rfl⟩:=aip.1 hu;have ez:i<cs.length:=ae;exact(fx (h i cs[i] _ (ahn ez) (ahn hi)) (hy _ (ahB ez))).2.1
   ·have hj:j<cs.length:=(aho.1 hz).1;simp only [AV.cells] at hz;exact⟨vs[j],by simp [Value.cells,show j<vs.length by omega],h j z _ hz (ahn ae)⟩
 ·have qx:y.dK=true:=by cases y<;>first|exact hy|(exact absurd ⟨_,rfl⟩ Hr)
  obtain⟨h1,h2,h3⟩:=fx h qx;rw [h1,h3];refine⟨rfl,fun u hu=>?_,fun j z hz=>?_⟩
  ·simp at hu;subst hu;exact h2
  ·cases j with
   | zero=>simp only [ahq,ahp] at hz;subst hz;exact⟨v,rfl,h⟩
   | succ j=>simp at hz
theorem we{w0:World}{L0:Nat->aO}{a:Act}(hR:RelL S w0 L0 N σ a w L){xs:List Operand}{ys:List AV}(h:di σ xs ys):∀ (i:Nat) y v,ys[i]?=some y->(xs.map a.eval)[i]?=some v->Rep L w none y v:=by
 intro i y v hy hv;simp only [ahE,ahs] at hv;obtain⟨x,hx,rfl⟩:=hv;obtain⟨h1,h2⟩:=h.get i x y hx hy;obtain⟨n,hn⟩:=cU hR h1;exact hn.replace h2
theorem py{L:Nat->aO}{w:World}{c:Nat}:∀ {ys:List AV} {vs:List Value},vs.length=ys.length->(∀ y∈ys,y.fV=true/\y.cells.length=c)->(∀ (i:Nat) y v,ys[i]?=some y->vs[i]?=some v->Rep L w none y v) ->
  (∀ v∈vs,v.cells.size=c)/\(∀ u∈vs.flatMap (fun v=>v.cells.toList),u.oneCell'=true)/\(vs.flatMap fun v=>v.cells.toList).length=ys.length*c /\
  ∀ (o:Nat) z,(flat ys)[o]?=some z->∃ u,(vs.flatMap fun v=>v.cells.toList)[o]?=some u/\Rep L w none z u
 | [],[],_,_,_=>⟨ag,ag,ag,by simp [flat]⟩
 | [],v::vs,h,_,_=>by simp at h
 | y::ys,[],h,_,_=>by simp at h
 | y::ys,v::vs,hl,hc,hr=>by
  obtain⟨h1,h2⟩:=hc y (ahU ..);obtain⟨e1,e2,e3⟩:=uP (hr 0 y v rfl rfl) h1;obtain⟨i1,i2,i3,i4⟩:=py (ys:=ys) (vs:=vs) (by simpa using hl) (fun z hz=>hc z (ahW _ hz)) (fun i z u hz hu=>hr (i+1) z u (by simpa using hz) (by simpa using hu));have oD:v.cells.toList.length=c:=by simp [e1,h2]
  refine⟨fun u hu=>?_,fun u hu=>?_,?_,fun o z hz=>?_⟩
  ·rcases ah1.1 hu with rfl|hu
   ·rw [e1,h2]
   ·exact i1 u hu
  ·rw [aiv,aie] at hu;rcases hu with hu|hu
   ·exact e2 u hu
   ·exact i2 u hu
  ·rw [aiv,ahC,i3,oD,ahI,ah9];omega
  ·simp only [flat,aiv] at hz ⊢;by_cases ho:o<c
   ·rw [ahG ae] at hz ⊢;obtain⟨u,hu,ng⟩:=e3 o z hz;exact⟨u,by rw [air];exact hu,ng⟩
   ·rw [ahJ ae] at hz ⊢;rw [h2] at hz;rw [oD];exact i4 _ z hz
theorem Bs(hE:S.T e=some ti):∃ f zv,S.P.info? e=some f/\f.size=ti.size/\f.zero=some zv/\zv.cells.size=ti.size :=
 let ⟨f,z,h1,h2,_,h4,_,_,h7⟩:=(S.ok e ti hE).info
 ⟨f,z,h1,h2,h4,h7⟩
theorem rh{t:Nat}{sz cA:Nat}(hT:S.T t=some ⟨.slice e,sz,cA,zz⟩)(hE:S.T e=some ti)(hc:ti.size=c){vs:List Value}(h1:∀ v∈vs,v.cells.size=c)(hlen:(vs.flatMap fun v=>v.cells.toList).length=vs.length*c)(hb:vs.length*c<=16777216)(w:World):
  (Instr.buildSlice t vs.length (vs.zipIdx.map fun p=>(p.2,p.1)).toArray).run S.P w=.ok (.slice (some ⟨w.heap.size,0,none⟩) vs.length vs.length) (w.alloc (.cells (vs.flatMap fun v=>v.cells.toList).toArray e)):=by
 obtain⟨f,zv,lC,j4,yz,Bg⟩:=Bs hE;have bc:f.size=c:=by rw [j4,hc]
 simp only [Instr.buildSlice,Sem.run_bind,run_underlying (S.ok t _ hT).slice,Result.andThen_ok,Go.sizeOf,typeInfo,run_program,lC,Sem.run_pure,bc];rw [if_neg ae];have key:∀ zc:Array Value,zc.size=(if vs.length*c=0 then 0 else c) ->
   Instr.fill (fun i=>some (i*c,c)) ((Array.range (vs.length*c)).map (zc[· % zc.size]!)) (vs.zipIdx.map fun p=>(p.2,p.1))=some (vs.flatMap fun v=>v.cells.toList).toArray:=by
  intro zc hzc;obtain⟨Fh,h2,h3,h4⟩:=re c vs 0 ((Array.range (vs.length*c)).map (zc[· % zc.size]!)) h1 ag;rw [h2];congr 1
  apply Array.ext_getElem?;intro j;rw [h4 j];simp only [Nat.zero_mul,ahR,ahQ,true_and,Nat.sub_zero,List.getElem?_toArray];by_cases hj:j<vs.length*c
  ·rw [if_pos hj]
  ·rw [if_neg hj,List.getElem?_eq_none (by rw [hlen];omega)];simp;omega
 by_cases hz:vs.length*c=0
 ·rw [if_pos hz];have:=key #[] (by rw [if_pos hz];rfl);simp only [Sem.run_pure,Result.andThen_ok,this,newRow,Sem.run_bind,run_newObj];rfl
 ·rw [if_neg hz];have:=key zv.cells (by rw [if_neg hz,Bg,hc]);simp only [zeroValue,typeInfo,Sem.run_bind,run_program,lC,yz,Sem.run_pure,Result.andThen_ok,this,newRow,run_newObj];rfl
theorem TN{t:Nat}{sz cA:Nat}{xs:List Operand}{ys:List AV}{n ty d:Nat}{ps:Array (Nat×Operand)}{pos:String}{aft:Array Edge}{g:Option (Nat×Bool)}(hT:S.T t=some ⟨.slice e,sz,cA,zz⟩)(hE:S.T e=some ti)(hc:ti.size=c)
  (Lp:ps=(xs.zipIdx.map fun p=>(p.2,p.1)).toArray) (hn:xs.length=n) (hp:di σ xs ys) (hok:ys.all (fun y=>y.fV&&Nat.beq y.cells.length c)=true) (hb:Nat.ble (n*c) 16777216=true) :
  EStep S ⟨some d,.buildSlice t n ps,ty,pos,aft,g⟩ σ (σ.put d (.av (.sl true c ys))):=by
 subst Lp;subst hn;intro w0 L0 N a w hN ⟨L,hR⟩;have cZ:∀ y∈ys,y.fV=true/\y.cells.length=c:=fun y hy=>by
  have:=(ahM.1 hok) y hy;simp only [aht] at this;exact⟨this.1,ahz this.2⟩
 have hl:(xs.map a.eval).length=ys.length:=by rw [ahu,hp.length]
 obtain⟨f1,f2,f3,f4⟩:=py hl cZ (we hR hp);have aD:=rh hT hE hc f1 (by rw [f3,hl]) (by rw [ahu];exact ah3 hb) w;refine⟨.slice (some ⟨w.heap.size,0,none⟩) xs.length xs.length,w.alloc (.cells ((xs.map a.eval).flatMap fun v=>v.cells.toList).toArray e),.inl ?_,hR.alloc (hN d rfl) ?_⟩
 ·have e1:((xs.zipIdx.map fun p=>(p.2,p.1)).toArray.map fun(i,x)=>(i,a.eval x))=((xs.map a.eval).zipIdx.map fun p=>(p.2,p.1)).toArray:=by
   rw [List.zipIdx_map];simp
  simp only [execOp,Sem.run_bind];rw [e1];rw [ahu] at aD;rw [aD];rfl
 ·refine Dz hp.length.symm (fun y hy=>(cZ y hy).2) (ahr _) (by rw [List.size_toArray,f3,hp.length]) fun o y hy=>?_;obtain⟨u,h1,h2⟩:=f4 o y hy;exact⟨u,by rw [List.getElem?_toArray];exact h1,(Rep.NR hR h2).any _⟩
end
end FM
