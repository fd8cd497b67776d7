/- An abstract machine over the kit's rules, part 6: calls. -/
import Derived.Test.YtkkcnppgcnmikaaGreatDoorAaf
namespace FM
open Go Go.RowKit
/-! ### a seat's table of types -/
def look:List (Nat×TI)→Nat→Option TI
 | [],_=>none
 | (k,i)::r,t=>bif Nat.beq k t then some i else look r t
def TabOk(P:Program):List (Nat×TI)→Prop
 | []=>True
 | e::r=>TOk P e.1 e.2∧TabOk P r
theorem look_ok{P:Program}:∀ {l:List (Nat×TI)},TabOk P l→∀ {t:Nat} {i:TI},look l t=some i→TOk P t i
 | [],_,t,i,h=>by simp [look] at h
 | (k,j)::r,hok,t,i,h=>by
  simp only [look] at h
  cases hk:Nat.beq k t with
  | true=>rw [hk,cond_true] at h;injection h with h;subst h;have:=Nat.eq_of_beq_eq_true hk;subst this;exact hok.1
  | false=>rw [hk,cond_false] at h;exact look_ok hok.2 h
theorem TOk.ofInfo{P:Program}{t size bytes:Nat}{zero:List AV}(h:(P.info? t).map (fun i=>(i.size,i.bytes))=some (size,bytes))(hz:(P.info? t).bind (fun i=>i.zero.map (·.cells.toList))=some (zero.map AV.toV))(hf:zero.all AV.flatPlain=true)(hl:zero.length=size) :
  ∃ f z,P.info? t=some f∧f.size=size∧f.bytes=bytes∧f.zero=some z∧z.cells.toList=zero.map AV.toV∧zero.all AV.flatPlain=true∧z.cells.size=size:=by
 cases hi:P.info? t with
 | none=>rw [hi] at h;cases h
 | some f =>
  rw [hi] at h hz
  simp only [Option.map_some,Option.some.injEq,Prod.mk.injEq] at h
  simp only [Option.bind_some] at hz
  cases hz':f.zero with
  | none=>rw [hz'] at hz;cases hz
  | some z =>
   rw [hz'] at hz
   simp only [Option.map_some,Option.some.injEq] at hz
   refine⟨f,z,rfl,h.1,h.2,hz',hz,hf,?_⟩
   rw [← Array.length_toList,hz,List.length_map,hl]
inductive NoSh:AV→Prop
 | int {n}:NoSh (.int n)
 | bool {b}:NoSh (.bool b)
 | str {s}:NoSh (.str s)
 | val {v}:NoSh (.val v)
 | nil:NoSh .nil
 | dead:NoSh .dead
 | agg {cs} (h:∀ x∈cs,NoSh x):NoSh (.agg cs)
 | tup {cs} (h:∀ x∈cs,NoSh x):NoSh (.tup cs)
 | slE {o c}:NoSh (.sl o c [])
 | sl {c xs} (h:∀ x∈xs,NoSh x):NoSh (.sl true c xs)
 | pt {cs} (h:∀ x∈cs,NoSh x):NoSh (.pt true cs)
class NoShI(x:AV):Prop where
 out:NoSh x
class NoShL(xs:List AV):Prop where
 out:∀ x∈xs,NoSh x
instance {n : Int} : NoShI (.int n) := ⟨.int⟩
instance {b : Bool} : NoShI (.bool b) := ⟨.bool⟩
instance {s : List UInt8} : NoShI (.str s) := ⟨.str⟩
instance {v : Value} : NoShI (.val v) := ⟨.val⟩
instance : NoShI .nil := ⟨.nil⟩
instance : NoShI .dead := ⟨.dead⟩
instance {o : Bool} {c : Nat} : NoShI (.sl o c []) := ⟨.slE⟩
instance {cs : List AV} [h : NoShL cs] : NoShI (.agg cs) := ⟨.agg h.out⟩
instance {cs : List AV} [h : NoShL cs] : NoShI (.tup cs) := ⟨.tup h.out⟩
instance {c : Nat} {cs : List AV} [h : NoShL cs] : NoShI (.sl true c cs) := ⟨.sl h.out⟩
instance {cs : List AV} [h : NoShL cs] : NoShI (.pt true cs) := ⟨.pt h.out⟩
instance : NoShL [] := ⟨fun x h => by cases h⟩
instance {x : AV} {xs : List AV} [h : NoShI x] [hs : NoShL xs] : NoShL (x :: xs) := ⟨fun y hy => by
 rcases List.mem_cons.1 hy with rfl|hy
 ·exact h.out
 ·exact hs.out y hy⟩
instance {xs ys : List AV} [h : NoShL xs] [h' : NoShL ys] : NoShL (xs ++ ys) := ⟨fun y hy => by
 rcases List.mem_append.1 hy with hy|hy
 ·exact h.out y hy
 ·exact h'.out y hy⟩
instance {α : Type} {f : α → AV} {l : List α} [h : ∀ x, NoShI (f x)] : NoShL (l.map f) := ⟨fun y hy => by
 obtain⟨x,_,rfl⟩:=List.mem_map.1 hy
 exact(h x).out⟩
theorem gn0{p:Prop}:false=true→p:=fun h=>Bool.noConfusion h
theorem gnI{b:Bool}{r:AV}[h:NoShI r]:b=true→NoSh r:=fun _=>h.out
theorem NoSh.cells{x y:AV}(h:NoSh x)(hy:y∈x.cells):NoSh y:=by
 cases h with
 | agg h=>exact h y hy
 | int=>simp only [AV.cells,List.mem_singleton] at hy;subst hy;exact .int
 | bool=>simp only [AV.cells,List.mem_singleton] at hy;subst hy;exact .bool
 | str=>simp only [AV.cells,List.mem_singleton] at hy;subst hy;exact .str
 | val=>simp only [AV.cells,List.mem_singleton] at hy;subst hy;exact .val
 | nil=>simp only [AV.cells,List.mem_singleton] at hy;subst hy;exact .nil
 | dead=>simp only [AV.cells,List.mem_singleton] at hy;subst hy;exact .dead
 | tup h=>simp only [AV.cells,List.mem_singleton] at hy;subst hy;exact .tup h
 | slE=>simp only [AV.cells,List.mem_singleton] at hy;subst hy;exact .slE
 | sl h=>simp only [AV.cells,List.mem_singleton] at hy;subst hy;exact .sl h
 | pt h=>simp only [AV.cells,List.mem_singleton] at hy;subst hy;exact .pt h
theorem NoSh.flat{xs:List AV}(h:∀ x∈xs,NoSh x):∀ y∈flat xs,NoSh y:=by
 intro y hy
 simp only [FM.flat,List.mem_flatMap] at hy
 obtain⟨x,hx,hy⟩:=hy
 exact(h x hx).cells hy
theorem Rep.frameN{L L':Nat→Lab}{w w':World}{π:Option (List Nat)}{x:AV}{v:Value}(h:Rep L w π x v) :
  NoSh x→∀ π':Option (List Nat),(∀ p,π=some p→∃ p',π'=some p'∧∀ b q,L b=.my (p++q)→L' b=.my (p'++q)∧w'.heap[b]?=w.heap[b]?)→Rep L' w' π' x v:=by
 induction h with
 | int=>exact fun _ _ _=>.int
 | bool=>exact fun _ _ _=>.bool
 | str=>exact fun _ _ _=>.str
 | val=>exact fun _ _ _=>.val
 | agg hl _ ih =>
  intro hn π' _
  cases hn with
  | agg hn=>exact .agg hl fun i x v hx hv=>ih i x v hx hv (hn x (List.mem_of_getElem? hx)) none (fun p hp=>by cases hp)
 | @tup π cs vs hl _ ih =>
  intro hn π' hO
  cases hn with
  | tup hn =>
   refine .tup hl fun i x v hx hv=>ih i x v hx hv (hn x (List.mem_of_getElem? hx)) _ fun p hp=>?_
   cases π with
   | none=>simp [ch] at hp
   | some p0 =>
    simp only [ch,Option.map_some,Option.some.injEq] at hp
    subst hp
    obtain⟨p',rfl,h⟩:=hO p0 rfl
    exact⟨p'++[i],rfl,fun b q hb=>by have:=h b ([i]++q) (by rw [← List.append_assoc];exact hb);rw [List.append_assoc];exact this⟩
 | nil=>exact fun _ _ _=>.nil
 | dead=>exact fun _ _ _=>.dead
 | slE h=>exact fun _ _ _=>.slE h
 | slS u hcap hL hb hc hcell hr ih =>
  intro hn π' _
  cases hn with
  | slE=>exact .slE (by simp)
 | @slO p c xs b cap arr e u hL hb hcap hsz hc hcell hr ih =>
  intro hn π' hO
  obtain⟨p',rfl,h⟩:=hO p rfl
  obtain⟨h1,h2⟩:=h b [] (by simpa using hL)
  have hn':∀ x∈xs,NoSh x:=by
   cases hn with
   | slE=>intro x hx;cases hx
   | sl hn=>exact hn
  refine .slO u (by simpa using h1) (h2.trans hb) hcap hsz hc hcell fun o y hy=>ih o y hy (NoSh.flat hn' y (List.mem_of_getElem? hy)) _ fun q hq=>?_
  cases hq
  exact⟨p'++[o],rfl,fun b q hb=>by have:=h b ([o]++q) (by rw [← List.append_assoc];exact hb);rw [List.append_assoc];exact this⟩
 | ptS=>intro hn;cases hn
 | @ptO p cs b arr e u hL hb hsz hcell hr ih =>
  intro hn π' hO
  obtain⟨p',rfl,h⟩:=hO p rfl
  obtain⟨h1,h2⟩:=h b [] (by simpa using hL)
  cases hn with
  | pt hn =>
   refine .ptO u (by simpa using h1) (h2.trans hb) hsz hcell fun o y hy=>ih o y hy (hn y (List.mem_of_getElem? hy)) _ fun q hq=>?_
   cases hq
   exact⟨p'++[o],rfl,fun b q hb=>by have:=h b ([o]++q) (by rw [← List.append_assoc];exact hb);rw [List.append_assoc];exact this⟩
 | fn=>intro hn;cases hn
 | mpS=>intro hn;cases hn
 | mpO=>intro hn;cases hn
 | msS=>intro hn;cases hn
 | msO=>intro hn;cases hn
inductive ArgOk(S:Sys)(N:Nat)(σ:St)(x:Operand):Bool→AV→Prop
 | pl {y} (h:ov σ x=.av y) (ho:y.isOwn=false):ArgOk S N σ x false y
 | br {y z} (h:rd σ (ov σ x)=y) (hd:y≠.dead) (hz:y.sh=z):ArgOk S N σ x true z
 | fn {B:Beh} (h:∀ w0 L0 a w,Rel S w0 L0 N σ a w→B.holds w (fun _=>True) (a.eval x)):ArgOk S N σ x true (.fn B)
inductive ArgsOk(S:Sys)(N:Nat)(σ:St):List Operand→Bool→List AV→Prop
 | nil:ArgsOk S N σ [] false []
 | cons {x xs b c y ys} (h:ArgOk S N σ x b y) (r:ArgsOk S N σ xs c ys):ArgsOk S N σ (x::xs) (b||c) (y::ys)
section
variable {S:Sys} {N:Nat} {σ:St}
theorem ArgsOk.length{xs:List Operand}{b:Bool}{ys:List AV}(h:ArgsOk S N σ xs b ys):xs.length=ys.length:=by
 induction h with
 | nil=>rfl
 | cons _ _ ih=>simp [ih]
theorem ArgsOk.get{xs:List Operand}{b:Bool}{ys:List AV}(h:ArgsOk S N σ xs b ys):∀ (i:Nat) (x:Operand) (y:AV),xs[i]?=some x→ys[i]?=some y→∃ c,ArgOk S N σ x c y∧(b=false→c=false):=by
 induction h with
 | nil=>intro i x y h;simp at h
 | @cons x xs b c y ys h r ih =>
  intro i x' y' hx hy
  cases i with
  | zero=>simp only [List.getElem?_cons_zero,Option.some.injEq] at hx hy;subst hx;subst hy;exact⟨b,h,fun e=>by cases b<;>simp_all⟩
  | succ i =>
   simp only [List.getElem?_cons_succ] at hx hy
   obtain⟨c',h1,h2⟩:=ih i x' y' hx hy
   exact⟨c',h1,fun e=>h2 (by cases b<;>simp_all)⟩
theorem ArgOk.readN{x:Operand}{b:Bool}{y:AV}(h:ArgOk S N σ x b y){w0:World}{L0:Nat→Lab}{a:Act}{w:World}{L:Nat→Lab}(hR:RelL S w0 L0 N σ a w L):Rep (fun _=>.sh) w none y (a.eval x):=by
 cases h with
 | pl h ho =>
  obtain⟨n,hn⟩:=ev_av hR h
  exact Rep.frame (Nat.le_refl _) rfl rfl rfl (fun _ _ _=>⟨rfl,rfl⟩) (hn.replace (π':=none) ho) none (fun p hp=>by cases hp)
 | br h hd hz =>
  obtain⟨L',π,h1,h2,h3⟩:=rd_ok hR h hd
  subst hz
  exact Rep.toSh (fun _ _ _=>rfl) h3 (fun _ _ _ _ _=>rfl)
 | fn h=>exact .fn (wE:=w) (B:=fun _=>True) (h w0 L0 a w ⟨L,hR⟩) (Nat.le_refl _) rfl rfl rfl fun b _ _=>⟨rfl,rfl⟩
def hide(L:Nat→Lab):Nat→Lab:=fun b=>match L b with
 | .sh=>.sh
 | _=>.fo
theorem ArgOk.readS{x:Operand}{y:AV}(h:ArgOk S N σ x false y){w0:World}{L0:Nat→Lab}{a:Act}{w:World}{L L1:Nat→Lab}(hR:RelL S w0 L0 N σ a w L)(h1:∀ b,b<w.heap.size→L b=.sh→L1 b=.sh):Rep L1 w none y (a.eval x):=by
 cases h with
 | pl h ho =>
  obtain⟨n,hn⟩:=ev_av hR h
  exact Rep.frame (Nat.le_refl _) rfl rfl rfl (fun b hb hlt=>⟨h1 b hlt hb,rfl⟩) (hn.replace (π':=none) ho) none (fun p hp=>by cases hp)
theorem run_call{P:Program}{f:Nat}(hf:FnOk P f){ρ:Operand→Value}{xs:List Operand}{ts:Array Nat}{o:Oper}(ho:o.op=.call ⟨.value (.func f),xs.toArray,ts⟩)(hρ:ρ (.func f)=.func (.func f) #[] #[])(w:World) :
  (execOp ρ o).run P w=.ok (.enter f (xs.map ρ).toArray) w:=by
 obtain⟨fn,h1,h2,h3⟩:=hf.out
 simp only [execOp,ho,resolve,hρ,Deferred.ofValue,Sem.run_bind,Sem.run_pure,Result.andThen_ok,invoke,callFunc,run_program,h1,h2,h3]
 simp
def afterL(n d:Nat)(sz:Nat)(L L':Nat→Lab):Nat→Lab:=fun b =>
 if b<sz then clear d L b else match L' b with
  | .my (k::q)=>bif Nat.beq k n then .my (d::q) else .sh
  | _=>.sh
theorem afterL_my{n d sz:Nat}{L L':Nat→Lab}{b:Nat}{p:List Nat}(h:afterL n d sz L L' b=.my p):(b<sz∧clear d L b=.my p)∨(sz≤b∧∃ q,L' b=.my (n::q)∧p=d::q):=by
 unfold afterL at h
 split at h
 ·exact .inl ⟨‹_›,h⟩
 ·refine .inr ⟨by omega,?_⟩
  cases hL:L' b with
  | my p' =>
   rw [hL] at h
   cases p' with
   | nil=>cases h
   | cons k q =>
    simp only at h
    cases hk:Nat.beq k n with
    | true=>rw [hk,cond_true] at h;injection h with h;have:=Nat.eq_of_beq_eq_true hk;subst this;exact⟨q,rfl,h.symm⟩
    | false=>rw [hk] at h;cases h
  | sh=>rw [hL] at h;cases h
  | fo=>rw [hL] at h;cases h
theorem after_call{w0:World}{L0:Nat→Lab}{a:Act}{w:World}{L:Nat→Lab}(hR:RelL S w0 L0 N σ a w L){d:Nat}(hd:DOk S N d){n:Nat}{xs9':List AV}{r:AV}{L1:Nat→Lab}{vs:List Value}{v:Value}{w':World}{L':Nat→Lab}(hB:Back n xs9' r L1 w vs v w' L')(hno:∀ b p,L1 b≠.my p)
  (hres:Rep (afterL n d w.heap.size L L') w' (some [d]) r v):Ext w w'∧Rel S w0 L0 N (σ.put d (.av r)) (a.put (some d) v) w':=by
 have hext:Ext w w':=⟨hB.keep.os,hB.keep.tape,hB.keep.output,hB.keep.size,fun b hb=>hB.keep.block b hb (fun p=>hno b p)⟩
 have hnew:∀ b p,L' b=.my p→w.heap.size≤b:=fun b p hb=>by
  rcases Nat.lt_or_ge b w.heap.size with h|h
  ·obtain⟨q,hq⟩:=hB.lok.old b p h hb;exact absurd hq (hno b q)
  ·exact h
 refine⟨hext,afterL n d w.heap.size L L',hR.defers,by simp [Act.put,hR.size],hR.keep.ext hext,⟨fun b p hb=>?_,fun b b' p hb hb'=>?_,fun b p hb=>?_,fun b p hlt hb=>?_,fun b hlt=>?_,fun b hge hf=>?_⟩,fun m hm=>?_,fun m hm=>?_,fun i hi=>(getD_set_other (hd.ne hi)).trans (hR.fix i hi),hR.glob⟩
 ·rcases afterL_my hb with⟨h1,_⟩|⟨_,q,h2,_⟩
  ·exact Nat.lt_of_lt_of_le h1 hext.size
  ·exact hB.lok.lt b _ h2
 ·rcases afterL_my hb with⟨h1,h2⟩|⟨h1,q,h2,h3⟩<;>rcases afterL_my hb' with⟨h1',h2'⟩|⟨h1',q',h2',h3'⟩
  ·exact(hR.lok.clear d).inj _ _ _ h2 h2'
  ·subst h3';exact absurd rfl (clear_my h2).2
  ·subst h3;exact absurd rfl (clear_my h2').2
  ·rw [h3] at h3';cases h3';exact hB.lok.inj _ _ _ h2 h2'
 ·rcases afterL_my hb with⟨_,h2⟩|⟨_,q,_,h3⟩
  ·exact(hR.lok.clear d).head _ _ h2
  ·subst h3;simp
 ·rcases afterL_my hb with⟨_,h2⟩|⟨h1,_⟩
  ·exact(hR.lok.clear d).old b p hlt h2
  ·have:=hR.keep.size;omega
 ·have:b<w.heap.size:=Nat.lt_of_lt_of_le hlt hR.keep.size
  unfold afterL
  rw [if_pos this]
  exact(hR.lok.clear d).fo b hlt
 ·unfold afterL at hf
  split at hf
  ·exact(hR.lok.clear d).new b hge hf
  ·split at hf
   ·rename_i k q _
    cases hk:Nat.beq k n<;>rw [hk] at hf<;>cases hf
   ·cases hf
 ·simp only [get,kill_eq,Act.put]
  by_cases hnd:d=m
  ·subst hnd
   rw [Nat.beq_refl,cond_true,getD_set_same (by rw [hR.size];exact hd.lt)]
   exact hres
  ·rw [not_beq hnd,cond_false,getD_set_other hnd]
   cases hdep:(get σ m).dep d with
   | true=>trivial
   | false =>
    rw [cond_false]
    refine Hold.relab (good:=fun t=>t≠d) hext.size hext.os hext.tape hext.output (fun b h1 h2=>⟨by unfold afterL;rw [if_pos h2];exact clear_sh h1,hext.block b h2⟩) (fun b t q h1 h2=>⟨by unfold afterL;rw [if_pos (hR.lok.lt b _ h1)];exact clear_keep h1 h2,hext.block b (hR.lok.lt b _ h1)⟩)
     (fun s hs=>getD_set_other (fun e=>hs e.symm)) (fun e=>hnd e.symm) (fun s hs e=>by subst e;rw [hdep] at hs;cases hs) (hR.hold m hm)
 ·simp only [get,kill_eq]
  rw [not_beq (show d≠m by have:=hd.lt;omega),cond_false,hR.out m hm];rfl
theorem res_after{w:World}{L L1:Nat→Lab}{n d:Nat}{xs9':List AV}{r:AV}{vs:List Value}{v:Value}{w':World}{L':Nat→Lab}(hB:Back n xs9' r L1 w vs v w' L')(hno:∀ b p,L1 b≠.my p)(hsh:NoSh r∨∀ b,b<w.heap.size→L1 b=.sh→L b=.sh)
  (hfo:NoSh r∨∀ b,b<w.heap.size→L1 b=.sh∨L1 b=.fo):Rep (afterL n d w.heap.size L L') w' (some [d]) r v:=by
 have hnew:∀ b p,L' b=.my p→w.heap.size≤b:=fun b p hb=>by
  rcases Nat.lt_or_ge b w.heap.size with h|h
  ·obtain⟨q,hq⟩:=hB.lok.old b p h hb;exact absurd hq (hno b q)
  ·exact h
 have hmy:∀ p,(some [n]:Option (List Nat))=some p→∃ p',(some [d]:Option (List Nat))=some p'∧∀ b q,L' b=.my (p++q)→afterL n d w.heap.size L L' b=.my (p'++q)∧w'.heap[b]?=w'.heap[b]?:=fun p hp=>by
  cases hp
  refine⟨[d],rfl,fun b q hb=>⟨?_,rfl⟩⟩
  unfold afterL
  rw [if_neg (by have:=hnew b _ hb;omega),hb]
  simp [Nat.beq_refl]
 by_cases hN:NoSh r
 ·exact hB.res.frameN hN _ hmy
 ·refine hB.res.frame (Nat.le_refl _) rfl rfl rfl (fun b hb hlt=>⟨?_,rfl⟩) _ hmy
  unfold afterL
  split
  ·rename_i h
   have h1:L1 b=.sh:=by
    rcases(hfo.resolve_left hN) b h with h'|h'
    ·exact h'
    ·have:=(hB.lok.fo b h).2 h';rw [hb] at this;cases this
   exact clear_sh ((hsh.resolve_left hN) b h h1)
  ·rw [hb]
theorem pre_none{n:Nat}{L:Nat→Lab}{w:World}(hno:∀ b p,L b≠.my p)(hf:∀ b,w.heap.size≤b→L b≠.fo)(hg:Glob L w):FM.Pre n L w :=
 ⟨fun b p h=>absurd h (hno b p),fun b p h=>absurd h (hno b p),fun b _ p h=>absurd h (hno b p),hf,hg⟩
theorem J.call{f:Nat}{xs9:List AV}{r:AV}{xs:List Operand}{b:Bool}{ops:Array Oper}{l:List Oper}{K:St→Prop}{d ty:Nat}{ts:Array Nat}{pos:String}{aft:Array Edge}{g:Option (Nat×Bool)}(hs:FnSpec S.P f xs9 xs9 r)(hg:live ops g σ=some true)(ha:ArgsOk S N σ xs b xs9)(hb:b=true→NoSh r)(h:J false S N ops l K (σ.put d (.av r))) :
  J false S N ops (⟨some d,.call ⟨.value (.func f),xs.toArray,ts⟩,ty,pos,aft,g⟩::l) K σ:=by
 unfold J at *
 intro hdo w0 L0 Q a w hQ hR
 obtain⟨h1,h2⟩:=dstOk_cons hdo
 have hd:=h1 d rfl
 have hw:=live_wanted (o:=⟨some d,.call ⟨.value (.func f),xs.toArray,ts⟩,ty,pos,aft,g⟩) hg hR
 simp only [wpList,hw,if_true]
 refine .inl ?_
 unfold Oper.wp
 rw [run_call hs.ok rfl rfl w,Oper.upon_enter]
 obtain⟨L,hR⟩:=hR
 have fin:∀ (L1:Nat→Lab),Glob L1 w→(∀ b p,L1 b≠.my p)→(∀ b,w.heap.size≤b→L1 b≠.fo)→(∀ (i:Nat) x v,xs9[i]?=some x→(xs.map a.eval)[i]?=some v→Rep L1 w none x v)→(NoSh r∨∀ b,b<w.heap.size→L1 b=.sh→L b=.sh)→(NoSh r∨∀ b,b<w.heap.size→L1 b=.sh∨L1 b=.fo) →
   Calls S.P f (xs.map a.eval).toArray w fun
    | .returned v,w''=>wpList S.P ops Q l (a.put (some d) v) w''
    | .panicked chain,w''=>Q (.panic chain) a w''
    | .outgrown,_=>LetsOut Q:=by
  intro L1 hgl hno hf hargs h3 h4
  refine(hs.calls w L1 (xs.map a.eval) (by rw [List.length_map,ha.length]) (pre_none hno hf hgl) (fun i x v hx hv=>(hargs i x v hx hv).any _)).mono fun e w' ⟨v,L',he,hB⟩=>?_
  subst he
  obtain⟨_,hR'⟩:=after_call hR hd hB hno (res_after hB hno h3 h4)
  exact h h2 w0 L0 Q _ w' hQ hR'
 cases hbv:b with
 | true =>
  refine fin (fun _=>.sh) hR.globNow.all (fun _ _ h=>by cases h) (fun _ _ h=>by cases h) (fun i x v hx hv=>?_) (.inl (hb hbv)) (.inl (hb hbv))
  simp only [List.getElem?_map,Option.map_eq_some_iff] at hv
  obtain⟨y,hy,rfl⟩:=hv
  obtain⟨c,hc,_⟩:=ha.get i y x hy hx
  exact hc.readN hR
 | false =>
  refine fin (hide L) (hR.globNow.move (Nat.le_refl _) fun b _ h=>⟨by unfold hide;rw [h],rfl⟩) (fun b p h=>?_) (fun b hge h=>?_) (fun i x v hx hv=>?_) (.inr fun b _ h=>?_) (.inr fun b _=>?_)
  ·unfold hide at h;split at h<;>cases h
  ·unfold hide at h
   split at h
   ·cases h
   ·rename_i hne
    cases hLb:L b with
    | sh=>exact hne hLb
    | fo =>
     exact hR.lok.new b (Nat.le_trans hR.keep.size hge) hLb
    | my p=>have:=hR.lok.lt b p hLb;omega
  ·simp only [List.getElem?_map,Option.map_eq_some_iff] at hv
   obtain⟨y,hy,rfl⟩:=hv
   obtain⟨c,hc,hcf⟩:=ha.get i y x hy hx
   have:=hcf hbv
   subst this
   exact hc.readS hR (fun b _ hb=>by unfold hide;rw [hb])
  ·unfold hide at h;split at h
   ·assumption
   ·cases h
  ·unfold hide;split
   ·exact .inl rfl
   ·exact .inr rfl
end
end FM
