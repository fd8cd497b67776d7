/- Part of the proof. -/
import Derived.Test.YtmbbagbhmjaedaaGreatDoorCch
set_option linter.all false
namespace CO
open Go
variable {ρ:Ren}{b:Nat}{w':World}
structure Fr(ρ aQ:Ren)(w' cO:World):Prop where
 tape:cO.tape=w'.tape
 os:cO.os=w'.os
 output:cO.output=w'.output
 size:w'.heap.size<=cO.heap.size
 old:∀ b',b'<w'.heap.size->(∀ b,¬ ρ b b')->cO.heap[b']?=w'.heap[b']?
 new:∀ b b',aQ b b'->ρ b b'∨w'.heap.size<=b'
 mine:∀ b',w'.heap.size<=b'->b'<cO.heap.size->∃ b,aQ b b'
theorem Fr.refl{w:World}:Fr ρ ρ w w:=⟨rfl,rfl,rfl,ahr _,fun _ _ _=>rfl,fun _ _ h=>.inl h,fun b h h'=>absurd h' ae⟩
theorem Fr.trans{ρ σ τ:Ren}{w w1 w2:World}(hl:σ.le τ)(h:Fr ρ σ w w1)(g:Fr σ τ w1 w2):Fr ρ τ w w2 :=
 ⟨g.tape.trans h.tape,g.os.trans h.os,g.output.trans h.output,ahZ h.size g.size,
  fun b hb hn=>(g.old b (ahv hb h.size) fun a ha=>(h.new a b ha).elim (hn a) fun x=>ae).trans (h.old b hb hn),
  fun a b yh=>(g.new a b yh).elim (h.new a b) fun x=>.inr (ahZ h.size x),
  fun b hb D9=>by
   by_cases c:b<w1.heap.size
   ·obtain⟨a,ha⟩:=h.mine b hb c;exact⟨a,hl.r _ _ ha⟩
   ·exact g.mine b ae D9⟩
def KY(ρ:Ren)(w:World)(e:Event):Prop :=
 (∃ a a',e.loc=.cell a'/\e.sync=false/\cu ρ a a'/\(e.write=true->w.frozen? a=false/\∀ c t z,w.heap[a.block]?=some (.cells c t z)->a.off<c.size)) ∨
 (∃ r r',e.loc=.obj r'/\e.sync=false/\ρ r r'/\∀ c t z,w.heap[r]?≠some (.cells c t z)) ∨
 (∃ f,e.loc=.mark (.extern f))∨e.loc=.mark .noRoom∨∃ a u,ρ.m a u/\e=⟨.cell a,false,false⟩
theorem bW{w:World}{o:Obj}(h:w.heap[b]?=some o):b<w.heap.size:=(ahx.1 h).1
theorem WR.cell{ρ:Ren}{w w':World}(h:WR ρ w w'){a a':Addr}(ha:cu ρ a a'){v:Value}(hv:w.cell? a=some v):∃ v',w'.cell? a'=some v'/\VR ρ v v'/\(w'.frozen? a'=true->w.frozen? a=true):=by
 obtain⟨off,spot,hr⟩:=ha;obtain⟨o,o',h1,h2,h3⟩:=h.obj _ _ hr;unfold World.cell? at hv ⊢;simp only [h1,h2] at hv ⊢
 cases h3 with
 | cells e z hA =>
  simp only at hv ⊢;split at hv
  ·cases hv
  ·rename_i hs;obtain⟨v',tN,hR⟩:=hA.some hv;refine⟨v',by rw [if_neg hs];exact tN,hR,fun hf=>?_⟩;unfold World.frozen? at hf ⊢;simp only [h1,h2] at hf ⊢;rcases z with rfl|⟨_,rfl|⟨_,z1,z2⟩⟩
   ·exact hf
   ·simp at hf
   ·simp only [aht,decide_eq_true_eq] at hf ⊢;omega
 | map=>cases hv
 | iter=>cases hv
 | view=>cases hv
 | number=>cases hv
theorem WR.Tc{w:World}(h:WR ρ w w'){a a':Addr}(ha:cu ρ a a'):(w'.frozen? a'=true->w.frozen? a=true)/\(ρ.eq->w.frozen? a=w'.frozen? a'):=by
 obtain⟨off,spot,hr⟩:=ha;obtain⟨o,o',h1,h2,h3⟩:=h.obj _ _ hr;unfold World.frozen?;simp only [h1,h2]
 cases h3 with
 | cells e z hA =>
  refine⟨fun hf=>?_,fun he=>?_⟩
  ·rcases z with rfl|⟨_,rfl|⟨_,z1,z2⟩⟩
   ·exact hf
   ·simp at hf
   ·simp only [aht,decide_eq_true_eq] at hf ⊢;omega
  ·rcases z with rfl|⟨hn,_⟩
   ·rfl
   ·exact absurd he hn
 | map=>exact⟨id,fun _=>rfl⟩
 | iter=>exact⟨id,fun _=>rfl⟩
 | view=>exact⟨id,fun _=>rfl⟩
 | number=>exact⟨id,fun _=>rfl⟩
theorem WR.shape{ρ:Ren}{w w':World}(h:WR ρ w w'){r r':Nat}(hr:ρ r r'):w.shape? r=w'.shape? r':=by
 obtain⟨o,o',h1,h2,h3⟩:=h.obj _ _ hr;unfold World.shape?;simp only [h1,h2]
 cases h3 with
 | cells e z hA=>simp only [hA.size]
 | map=>rfl
 | iter=>rfl
 | view=>rfl
 | number=>rfl
theorem WR.uo{w v v':World}(h:WR ρ w w'){b':Nat}{o o':Obj}(hb:ρ b b')(hw:v.heap=w.heap.setIfInBounds b o)(qU:v'.heap=w'.heap.setIfInBounds b' o')(ho:OR ρ o o'):WR ρ v v':=by
 refine⟨by rw [hw,qU];simpa using h.lo,fun a a' ZB=>?_,fun a u hm=>?_⟩;rotate_left
 ·obtain⟨e1,e2⟩:=h.std a u hm;refine⟨?_,?_⟩
  ·unfold World.cell? at e1 ⊢;rw [hw,ahw (fun e:b=a.block=>(ρ.mf hm b').1 (e▸hb))];exact e1
  ·unfold World.cell? at e2 ⊢;rw [qU,ahw (fun e:b'=a.block=>(ρ.mf hm b).2 (e▸hb))];exact e2
 obtain⟨p,p',h1,h2,h3⟩:=h.obj _ _ ZB;by_cases e:a=b
 ·subst e;obtain rfl:=ρ.il ZB hb;refine⟨o,o',?_,?_,ho⟩
  ·rw [hw,ahS (bW h1)]
  ·rw [qU,ahS (bW h2)]
 ·have e':a'≠b':=fun x=>e (ρ.ir ZB (x▸hb));refine⟨p,p',?_,?_,h3⟩
  ·rw [hw,ahw (fun x=>e x.symm)];exact h1
  ·rw [qU,ahw (fun x=>e' x.symm)];exact h2
theorem Fr.uo{w v:World}{b':Nat}{o:Obj}(hb:ρ b b')(hw:v.heap=w.heap.setIfInBounds b' o)(h1:v.tape=w.tape)(h2:v.os=w.os)(h3:v.output=w.output):Fr ρ ρ w v :=
 ⟨h1,h2,h3,by rw [hw];simp,fun c _ hn=>by rw [hw,ahw (fun e:b'=c=>hn b (e▸hb))],fun _ _ h=>.inl h,fun c hc kK=>by rw [hw] at kK;simp at kK;omega⟩
theorem WR.lt{w:World}(h:WR ρ w w'){a:Nat}(yh:ρ a b):a<w.heap.size/\b<w'.heap.size:=by
 obtain⟨_,_,h1,h2,_⟩:=h.obj _ _ yh;exact⟨bW h1,bW h2⟩
theorem WR.new{ρ:Ren}{w w':World}(h:WR ρ w w'){o o':Obj}(ho:OR ρ o o'):∃ aQ:Ren,ρ.le aQ/\aQ w.heap.size w'.heap.size/\WR aQ { w with heap:=w.heap.push o } { w' with heap:=w'.heap.push o' }/\Fr ρ aQ w' { w' with heap:=w'.heap.push o' }:=by
 have hx:∀ b,¬ ρ w.heap.size b:=fun b hb=>Nat.lt_irrefl _ (h.lt hb).1;have hy:∀ a,¬ ρ a w'.heap.size:=fun a ha=>Nat.lt_irrefl _ (h.lt ha).2;have lt:∀ {w:World} {a:Addr} {u:Value},w.cell? a=some u->a.block<w.heap.size:=fun{w a u} e=>by
  unfold World.cell? at e
  cases hb:w.heap[a.block]? with
  | none=>rw [hb] at e;cases e
  | some o=>exact bW hb
 have hm:∀ a u,ρ.m a u->a.block≠w.heap.size/\a.block≠w'.heap.size:=fun a u hu=>⟨Nat.ne_of_lt (lt (h.std a u hu).1),Nat.ne_of_lt (lt (h.std a u hu).2)⟩;have hle:=ρ.ML _ _ hx hy h.lo.1 h.lo.2 hm;refine⟨ρ.more _ _ hx hy h.lo.1 h.lo.2 hm,hle,.inr ⟨rfl,rfl⟩,⟨⟨by simp only [Array.size_push];exact Nat.le_succ_of_le h.lo.1,by simp only [Array.size_push];exact Nat.le_succ_of_le h.lo.2⟩,fun a b yh=>?_,fun a u hu=>?_⟩,⟨rfl,rfl,rfl,ag,fun b hb _=>?_,fun a b yh=>?_,fun b hb D9=>?_⟩⟩
 ·rcases yh with yh|⟨rfl,rfl⟩
  ·obtain⟨p,p',h1,h2,h3⟩:=h.obj _ _ yh;have:=h.lt yh;exact⟨p,p',by simp only [aiB];rw [if_neg ae];exact h1,by simp only [aiB];rw [if_neg ae];exact h2,h3.mono hle⟩
  ·exact⟨o,o',ag,ag,ho.mono hle⟩
 ·obtain⟨e1,e2⟩:=h.std a u hu;have l1:=lt e1;have l2:=lt e2;refine⟨?_,?_⟩
  ·unfold World.cell? at e1 ⊢;simp only [aiB];rw [if_neg ae];exact e1
  ·unfold World.cell? at e2 ⊢;simp only [aiB];rw [if_neg ae];exact e2
 ·simp only [aiB];rw [if_neg ae]
 ·rcases yh with yh|⟨_,rfl⟩
  ·exact .inl yh
  ·exact .inr (ahr _)
 ·simp only [Array.size_push] at D9;exact⟨w.heap.size,.inr ⟨rfl,ae⟩⟩
theorem modify_eq{α:Type}{xs:Array α}{i:Nat}{x:α}{f:α->α}(h:xs[i]?=some x):xs.modify i f=xs.setIfInBounds i (f x):=by
 apply Array.ext_getElem?;intro j;have hi:=(ahx.1 h).1;by_cases e:i=j
 ·subst e;rw [ahS hi,aiC,if_pos rfl,h];rfl
 ·rw [ahw e,aiC,if_neg e]
theorem WR.set{w:World}(h:WR ρ w w'){a a':Addr}(ha:cu ρ a a'){x v v':Value}(hx:w.cell? a=some x)(hv:VR ρ v v'):WR ρ (w.setCell a v) (w'.setCell a' v')/\Fr ρ ρ w' (w'.setCell a' v'):=by
 obtain @⟨b,b',off,spot,hr⟩:=ha;obtain⟨o,o',h1,h2,h3⟩:=h.obj _ _ hr;unfold World.cell? at hx;simp only [h1] at hx
 cases h3 with
 | @cells c c' e z z' hz hA =>
  simp only at hx;split at hx
  ·cases hx
  rename_i hs;have e1:(w.setCell ⟨b,off,spot⟩ v).heap=w.heap.setIfInBounds b (.cells (c.setIfInBounds off v) e z):=by
   unfold World.setCell;simp only [modify_eq h1,if_neg hs]
  have e2:(w'.setCell ⟨b',off,spot⟩ v').heap=w'.heap.setIfInBounds b' (.cells (c'.setIfInBounds off v') e z'):=by
   unfold World.setCell;simp only [modify_eq h2,if_neg hs]
  refine⟨h.uo hr e1 e2 (.cells e hz ⟨by simp [hA.size],fun i p q hp hq=>?_⟩),Fr.uo hr e2 rfl rfl rfl⟩;rw [aif] at hp hq;rw [<- hA.size] at hq;split at hp
  ·rename_i hi;rw [if_pos hi] at hq;split at hp
   ·rename_i KZ;rw [if_pos KZ] at hq;cases hp;cases hq;exact hv
   ·cases hp
  ·rename_i hi;rw [if_neg hi] at hq;exact hA.get i p q hp hq
 | map=>cases hx
 | iter=>cases hx
 | view=>cases hx
 | number=>cases hx
theorem Rm.freeze{q:Prop}{z z':Nat×Nat}(h:Rm q z z'){o n:Nat}(hn:n≠0):Rm q (if z.1==z.2 then(o,o+n) else(min z.1 o,max z.2 (o+n))) (if z'.1==z'.2 then(o,o+n) else(min z'.1 o,max z'.2 (o+n))):=by
 rcases h with rfl|⟨hq,rfl|⟨h1,h2,h3⟩⟩
 ·exact .inl rfl
 ·simp only [beq_self_eq_true,if_true];split
  ·exact .inl rfl
  ·exact .inr ⟨hq,.inr ⟨by dsimp only;omega,by dsimp only;omega,by dsimp only;omega⟩⟩
 ·rw [if_neg (by simpa using h1)];split
  ·exact .inr ⟨hq,.inr ⟨by dsimp only;omega,by dsimp only;omega,by dsimp only;omega⟩⟩
  ·exact .inr ⟨hq,.inr ⟨by dsimp only;omega,by dsimp only;omega,by dsimp only;omega⟩⟩
def Tc(off n:Nat):Obj->Obj
 | .cells c e (lo,hi)=>.cells c e (if lo==hi then(off,off+n) else(min lo off,max hi (off+n)))
 | o=>o
theorem lf{w:World}{off n:Nat}{spot:Option Nat}(hn:n≠0){o:Obj}(h:w.heap[b]?=some o):(w.freeze ⟨b,off,spot⟩ n).heap=w.heap.setIfInBounds b (Tc off n o):=by
 unfold World.freeze;rw [if_neg hn];exact modify_eq (f:=Tc off n) h
theorem WR.freeze{ρ:Ren}{w w':World}(h:WR ρ w w'){a a':Addr}(ha:cu ρ a a')(n:Nat):WR ρ (w.freeze a n) (w'.freeze a' n)/\Fr ρ ρ w' (w'.freeze a' n):=by
 obtain @⟨b,b',off,spot,hr⟩:=ha;by_cases hn:n=0
 ·unfold World.freeze;rw [if_pos hn,if_pos hn];exact⟨h,.refl⟩
 obtain⟨o,o',h1,h2,h3⟩:=h.obj _ _ hr;have t2:(w'.freeze ⟨b',off,spot⟩ n).tape=w'.tape/\(w'.freeze ⟨b',off,spot⟩ n).drawn=w'.drawn:=by unfold World.freeze;rw [if_neg hn];exact⟨rfl,rfl⟩
 have t3:(w'.freeze ⟨b',off,spot⟩ n).os=w'.os/\(w'.freeze ⟨b',off,spot⟩ n).output=w'.output:=by unfold World.freeze;rw [if_neg hn];exact⟨rfl,rfl⟩
 have f1:=lf (off:=off) (spot:=spot) hn h1;have f2:=lf (off:=off) (spot:=spot) hn h2;refine⟨h.uo hr f1 f2 ?_,Fr.uo hr f2 t2.1 t3.1 t3.2⟩
 cases h3 with
 | cells e hz hA=>exact .cells e (hz.freeze hn) hA
 | map k he=>exact .map k he
 | iter s k=>exact .iter s k
 | view t ha=>exact .view t ha
 | number b ha=>exact .number b ha
def xu(z z':Nat×Nat):Prop:=z=z'∨(z'.1<z'.2/\(z.1=z.2∨(z'.1<=z.1/\z.2<=z'.2)))
theorem xu.trans{a b c:Nat×Nat}(h:xu a b)(g:xu b c):xu a c:=by
 rcases h with rfl|⟨h1,h2⟩
 ·exact g
 ·rcases g with rfl|⟨g1,g2⟩
  ·exact .inr ⟨h1,h2⟩
  ·refine .inr ⟨g1,?_⟩;rcases g2 with g2|g2
   ·omega
   ·rcases h2 with h2|h2
    ·exact .inl h2
    ·exact .inr ⟨ae,ae⟩
theorem xu.mem{a b:Nat×Nat}(h:xu a b){i:Nat}(h1:a.1<=i)(h2:i<a.2):b.1<=i/\i<b.2:=by
 rcases h with rfl|⟨_,h|h⟩
 ·exact⟨h1,h2⟩
 ·omega
 ·omega
structure Gw(c:Array Value)(z:Nat×Nat)(c':Array Value)(z':Nat×Nat):Prop where
 size:c'.size=c.size
 zone:xu z z'
 val:∀ i,z.1<=i->i<z.2->c'[i]?=c[i]?
theorem Gw.refl(c:Array Value)(z:Nat×Nat):Gw c z c z:=⟨rfl,.inl rfl,fun _ _ _=>rfl⟩
theorem Gw.trans{a b c:Array Value}{x y z:Nat×Nat}(h:Gw a x b y)(g:Gw b y c z):Gw a x c z :=
 ⟨g.size.trans h.size,h.zone.trans g.zone,fun i h1 h2=>(g.val i (h.zone.mem h1 h2).1 (h.zone.mem h1 h2).2).trans (h.val i h1 h2)⟩
structure Grow(w ai:World):Prop where
 row:∀ (r:Nat) c t z,w.heap[r]?=some (.cells c t z)->∃ c' z',ai.heap[r]?=some (.cells c' t z')/\Gw c z c' z'
 size:w.heap.size<=ai.heap.size
 tape:ai.tape=w.tape
 os:ai.os=w.os
theorem Grow.fz{w ai:World}(h:Grow w ai):∀ a,w.frozen? a=true->ai.frozen? a=true:=fun x hx=>by
 unfold World.frozen? at hx ⊢
 cases hb:w.heap[x.block]? with
 | none=>rw [hb] at hx;cases hx
 | some o =>
  rw [hb] at hx
  cases o with
  | cells c t z =>
   obtain⟨c',z',h',g⟩:=h.row _ c t z hb;rw [h'];simp only [aht,decide_eq_true_eq] at hx ⊢;exact g.zone.mem hx.1 hx.2
  | _=>cases hx
end CO
namespace CO
open Go
variable {w:World}
theorem Grow.refl(w:World):Grow w w:=⟨fun _ c _ z h=>⟨_,_,h,.refl c z⟩,ahr _,rfl,rfl⟩
theorem Grow.trans{a b c:World}(h:Grow a b)(g:Grow b c):Grow a c:=⟨fun r c t z hr=>by obtain⟨c',z',h',e1⟩:=h.row r c t z hr;obtain⟨c2,z2,h2,e2⟩:=g.row r c' t z' h';exact⟨c2,z2,h2,e1.trans e2⟩,ahZ h.size g.size,g.tape.trans h.tape,g.os.trans h.os⟩
theorem KY.back{ρ:Ren}{ai:World}(hg:Grow w ai){e:Event}(h:KY ρ ai e):KY ρ w e:=by
 rcases h with⟨a,a',h1,h2,h3,h4⟩|⟨r,r',h1,h2,h3,h4⟩|h|h|h
 ·refine .inl ⟨a,a',h1,h2,h3,fun hw=>⟨?_,fun c t z hc=>?_⟩⟩
  ·cases c:w.frozen? a with
   | false=>rfl
   | true=>have:=hg.fz a c;rw [(h4 hw).1] at this;cases this
  ·obtain⟨c',z',h',e⟩:=hg.row _ c t z hc;rw [<- e.size];exact(h4 hw).2 c' t z' h'
 ·refine .inr (.inl ⟨r,r',h1,h2,h3,fun c t z hc=>?_⟩);obtain⟨c',z',h',_⟩:=hg.row r c t z hc;exact h4 c' t z' h'
 ·exact .inr (.inr (.inl h))
 ·exact .inr (.inr (.inr (.inl h)))
 ·exact .inr (.inr (.inr (.inr h)))
theorem IW{a:Addr}{v:Value}(hf:w.frozen? a=false):Grow w (w.setCell a v):=by
 refine⟨fun r c t z h=>?_,by unfold World.setCell;simp,rfl,rfl⟩;unfold World.setCell;simp only [aiC];split
 ·rename_i e;subst e;rw [h];refine⟨_,z,rfl,?_,.inl rfl,fun i h1 h2=>?_⟩
  ·split<;>simp
  ·unfold World.frozen? at hf;rw [h] at hf;have cr:a.off≠i:=fun e=>by subst e;simp only [Bool.and_eq_false_iff,decide_eq_false_iff_not] at hf;omega
   split
   ·rfl
   ·rw [ahw cr]
 ·exact⟨c,z,h,.refl c z⟩
theorem zV{a:Addr}{n:Nat}:Grow w (w.freeze a n):=by
 by_cases hn:n=0
 ·unfold World.freeze;rw [if_pos hn];exact .refl w
 have e:w.freeze a n={ w with heap:=w.heap.modify a.block (Tc a.off n) }:=by unfold World.freeze;rw [if_neg hn];rfl
 rw [e];refine⟨fun r c t z h=>?_,ag,rfl,rfl⟩;rw [aiC];split
 ·rename_i e;subst e;rw [h];refine⟨c,_,rfl,rfl,?_,fun i _ _=>rfl⟩;by_cases hz:z.1=z.2
  ·rw [if_pos (by simpa using hz)];exact .inr ⟨by dsimp only;omega,.inl hz⟩
  ·rw [if_neg (by simpa using hz)];exact .inr ⟨by dsimp only;omega,.inr ⟨by dsimp only;omega,by dsimp only;omega⟩⟩
 ·exact⟨c,z,h,.refl c z⟩
theorem IX{o:Obj}:Grow w { w with heap:=w.heap.push o }:=by
 refine⟨fun r c t z h=>⟨c,z,?_,.refl c z⟩,ag,rfl,rfl⟩;have:=bW h;rw [aiB,if_neg ae];exact h
theorem IY{r:Nat}{o p:Obj}(h:w.heap[r]?=some p)(hp:∀ c t z,p≠.cells c t z):Grow w { w with heap:=w.heap.setIfInBounds r o }:=by
 refine⟨fun q c t z hq=>⟨c,z,?_,.refl c z⟩,ag,rfl,rfl⟩;rw [ahw (fun e=>by subst e;rw [h] at hq;exact hp c t z (ah6 hq))];exact hq
end CO
namespace CO
open Go
variable {ρ:Ren}{w w':World}{at_ at':Addr}{v':Value}
def tp(w:World)(T:Nat->Question->Nat)(d:Nat):World:={ w with tape:=T,drawn:=d }
theorem VR.bytes{ρ:Ren}{v v':Value}(h:VR ρ v v'):v.bytes?=v'.bytes?:=by cases h<;>rfl
theorem VR.ofBytes{ρ:Ren}{v v':Value}(h:VR ρ v v')(bs:List UInt8):v.ofBytes bs=v'.ofBytes bs/\∀ x,v.ofBytes bs=some x->VR ρ x x:=by
 cases h with
 | bool b =>
  refine⟨rfl,fun x hx=>?_⟩;unfold Value.ofBytes at hx;split at hx;all_goals first|(split at hx<;>first|(cases hx;exact .bool _)|(cases hx;exact .int _ _)|(cases hx;exact .float _ _)|(cases hx;exact .complex _ _ _)|cases hx)|cases hx
 | int k n =>
  refine⟨rfl,fun x hx=>?_⟩;unfold Value.ofBytes at hx;simp only at hx;split at hx
  ·cases hx;exact .int _ _
  ·cases hx
 | float k n =>
  refine⟨rfl,fun x hx=>?_⟩;unfold Value.ofBytes at hx;simp only at hx;split at hx
  ·cases hx;exact .float _ _
  ·cases hx
 | complex k n m =>
  refine⟨rfl,fun x hx=>?_⟩;unfold Value.ofBytes at hx;simp only at hx;split at hx
  ·cases hx;exact .complex _ _ _
  ·cases hx
 | _=>exact⟨rfl,fun x hx=>by cases hx⟩
theorem j5{ρ:Ren}{c c':Array Value}(h:AR ρ c c')(p:Program)(e:TypeId):∀ (f x stop:Nat),seenCells p c e f x stop=seenCells p c' e f x stop
 | 0,_,_=>rfl
 | f+1,x,stop=>by
  unfold seenCells;split
  ·rfl
  ·dsimp only;split
   ·rfl
   ·split
    ·rfl
    ·rename_i i s _
     cases hc:c[i]? with
     | none=>rw [h.none hc]
     | some v =>
      obtain⟨v',tN,hR⟩:=h.some hc;rw [tN];simp only [hR.bytes,j5 h p e f]
theorem sA{k k':Addr}(ha:cu ρ at_ at')(hk:k.off=k'.off/\k.spot=k'.spot){c c':Array Value}{e:TypeId}{z z':Nat×Nat}(h1:w.heap[at_.block]?=some (.cells c e z))(h2:w'.heap[at'.block]?=some (.cells c' e z'))(hA:AR ρ c c')(p:Program)(u:TypeId):
  ∃ X:Except String (Nat×Value×List (Nat×Nat×List UInt8)),w.seen p at_ u k false=X.map (fun x=>(c,e,z,x.1,x.2.1,x.2.2))/\w'.seen p at' u k' false=X.map (fun x=>(c',e,z',x.1,x.2.1,x.2.2)):=by
 obtain @⟨x,x',off,spot,hr⟩:=ha;obtain⟨kb,ko,ks⟩:=k;obtain⟨kb',ko',ks'⟩:=k';obtain⟨e1,e2⟩:=hk;dsimp only at e1 e2 h1 h2;subst e1;subst e2;unfold World.seen;simp only [h1,h2,<-j5 hA p e];by_cases c0:(ks.isSome||spot.isSome)=true
 ·simp only [c0,if_true];exact⟨.error _,rfl,rfl⟩
 simp only [c0]
 cases c1:plainCell p p.depth u ko with
 | none=>exact⟨.error _,rfl,rfl⟩
 | some mJ =>
  cases c2:mJ.bytes?.map (·.length) with
  | none=>simp only [c2];exact⟨.error _,rfl,rfl⟩
  | some size =>
   simp only [c2]
   cases c3:byteOfCell p p.depth u ko with
   | none=>exact⟨.error _,rfl,rfl⟩
   | some β =>
    by_cases c4:p.cellsOf e=0
    ·simp only [c4,if_true];exact⟨.error _,rfl,rfl⟩
    ·simp only [c4]
     cases c5:byteOfCell p p.depth e (off%p.cellsOf e) with
     | none=>exact⟨.error _,rfl,rfl⟩
     | some b0 =>
      cases c6:seenCells p c e (size+1) (off / p.cellsOf e*p.bytesOf e+b0+β) (off / p.cellsOf e*p.bytesOf e+b0+β+size) with
      | error m=>exact⟨.error m,by simp [c6];rfl,by simp [c6];rfl⟩
      | ok cells =>
       exact⟨.ok (_,mJ,cells),by simp [c6];rfl,by simp [c6];rfl⟩
inductive TR(ρ:Ren):List Addr->List Addr->Prop
 | nil:TR ρ [] []
 | cons {a a':Addr} {l l':List Addr}:cu ρ a a'->TR ρ l l'->TR ρ (a::l) (a'::l')
theorem TR.mono{ρ aQ:Ren}(h:ρ.le aQ){l l':List Addr}(x:TR ρ l l'):TR aQ l l':=by
 induction x with
 | nil=>exact .nil
 | cons ha _ ih=>exact .cons (ha.mono h) ih
theorem TR.mem{ρ:Ren}{l l':List Addr}(x:TR ρ l l'){q:Addr}(hq:q∈l'):∃ p,p∈l/\cu ρ p q:=by
 induction x with
 | nil=>cases hq
 | cons ha _ ih =>
  cases hq with
  | head=>exact⟨_,.head _,ha⟩
  | tail _ hq=>obtain⟨p,hp,h⟩:=ih hq;exact⟨p,.tail _ hp,h⟩
theorem TR.of{ρ:Ren}{r r':Nat}(hr:ρ r r'):∀ (l:List (Nat×Nat×List UInt8)),TR ρ (l.map fun x=>{ block:=r,off:=x.1 }) (l.map fun x=>{ block:=r',off:=x.1 })
 | []=>.nil
 | x::l=>.cons (.mk x.1 none hr) (TR.of hr l)
theorem seen_none{w:World}{at_ k:Addr}(p:Program)(u:TypeId)(h:∀ c e z,w.heap[at_.block]?≠some (.cells c e z)):∃ m,w.seen p at_ u k false=.error m:=by
 unfold World.seen;by_cases c0:(k.spot.isSome||at_.spot.isSome)=true
 ·simp only [c0,if_true];exact⟨_,rfl⟩
 simp only [c0]
 cases c1:plainCell p p.depth u k.off with
 | none=>exact⟨_,rfl⟩
 | some mJ =>
  cases c2:mJ.bytes?.map (·.length) with
  | none=>simp only [c2];exact⟨_,rfl⟩
  | some size =>
   simp only [c2]
   cases c3:byteOfCell p p.depth u k.off with
   | none=>exact⟨_,rfl⟩
   | some β =>
    cases c4:w.heap[at_.block]? with
    | none=>exact⟨_,rfl⟩
    | some o=>cases o<;>first|exact⟨_,rfl⟩|exact absurd c4 (h _ _ _)
theorem sB(h:WR ρ w w'){k k':Addr}(ha:cu ρ at_ at')(hk:k.off=k'.off/\k.spot=k'.spot)(p:Program)(u:TypeId):
  (∃ m,w.viewLoad p at_ u k false=.error m)∨∃ v ts qk,w.viewLoad p at_ u k false=.ok (v,ts)/\w'.viewLoad p at' u k' false=.ok (v,qk)/\VR ρ v v/\TR ρ ts qk:=by
 have Oq:=ha;obtain @⟨x,x',off,spot,hr⟩:=ha;obtain⟨o,o',h1,h2,h3⟩:=h.obj _ _ hr;unfold World.viewLoad
 have no:(∀ c e z,o≠.cells c e z)->∃ m,(do
   let (_,_,_,first,mJ,cells)<-w.seen p ⟨x,off,spot⟩ u k false
   let size:=(mJ.bytes?.map (·.length)).getD 0
   let bytes:=cells.flatMap fun(_,s,bs)=>(bs.drop (first-s)).take (first+size-max first s)
   let some v:=mJ.ofBytes bytes|throw "memory seen as another type: a bool from a byte other than 0 or 1"
   pure (v,cells.map fun(i,_,_)=>({ block:=x,off:=i }:Addr)):Except String (Value×List Addr))=.error m:=fun hn=>by
  obtain⟨m,hm⟩:=seen_none (w:=w) (at_:=⟨x,off,spot⟩) (k:=k) p u fun c e z hc=>hn c e z (ah6 (h1.symm.trans hc));rw [hm];exact⟨m,rfl⟩
 cases h3 with
 | map n he=>exact .inl (no fun _ _ _ e=>by cases e)
 | iter s n=>exact .inl (no fun _ _ _ e=>by cases e)
 | view t hv=>exact .inl (no fun _ _ _ e=>by cases e)
 | number t hv=>exact .inl (no fun _ _ _ e=>by cases e)
 | cells e z hA =>
  obtain⟨X,e1,e2⟩:=sA Oq hk h1 h2 hA p u;rw [e1,e2]
  cases X with
  | error m=>exact .inl ⟨m,rfl⟩
  | ok y =>
   obtain⟨first,mJ,cells⟩:=y;simp only [Except.map,bind,Except.bind]
   cases hb:mJ.ofBytes (cells.flatMap fun(_,s,bs)=>(bs.drop (first-s)).take (first+(mJ.bytes?.map (·.length)).getD 0-max first s)) with
   | none=>exact .inl ⟨_,rfl⟩
   | some v =>
    refine .inr ⟨v,_,_,rfl,rfl,?_,TR.of hr cells⟩;unfold Value.ofBytes at hb;cases mJ<;>simp only at hb
    ·split at hb<;>first|(cases hb;exact .bool _)|cases hb
    ·split at hb<;>first|(cases hb;exact .int _ _)|cases hb
    ·split at hb<;>first|(cases hb;exact .float _ _)|cases hb
    ·split at hb<;>first|(cases hb;exact .complex _ _ _)|cases hb
    all_goals cases hb
theorem AR.ZC{p p':Array Value}(h:AR ρ p p')(i:Nat){v:Value}(hv:VR ρ v v'):AR ρ (p.setIfInBounds i v) (p'.setIfInBounds i v'):=by
 refine⟨by simp [h.size],fun j x y hx hy=>?_⟩;rw [aif] at hx hy;rw [<- h.size] at hy;split at hx
 ·rename_i hi;rw [if_pos hi] at hy;split at hx
  ·rename_i KZ;rw [if_pos KZ] at hy;cases hx;cases hy;exact hv
  ·cases hx
 ·rename_i hi;rw [if_neg hi] at hy;exact h.get j x y hx hy
def iF(z:Nat×Nat)(first:Nat)(bytes:List UInt8)(c:Array Value)(x:Nat×Nat×List UInt8):Except String (Array Value):=do
 if x.2.1<first||x.2.1+x.2.2.length>first+bytes.length then throw "memory seen as another type: a part of a cell written"
 if z.1<=x.1&&x.1<z.2 then throw "a write to bytes that a string shares"
 let some old:=c[x.1]?|throw "memory seen as another type: no such cell"
 let some new:=old.ofBytes ((bytes.drop (x.2.1-first)).take x.2.2.length)|throw "memory seen as another type: a bool from a byte other than 0 or 1"
 pure (c.setIfInBounds x.1 new)
theorem uq{z z':Nat×Nat}(hz:Rm ρ.eq z z'){c c':Array Value}(h:AR ρ c c')(first:Nat)(bytes:List UInt8)(x:Nat×Nat×List UInt8){d:Array Value}(hd:iF z first bytes c x=.ok d):
  ∃ d',iF z' first bytes c' x=.ok d'/\AR ρ d d'/\d.size=c.size/\(¬ (z.1<=x.1/\x.1<z.2)/\x.1<c.size)/\∀ i,i≠x.1->d[i]?=c[i]?/\d'[i]?=c'[i]?:=by
 unfold iF at hd ⊢;by_cases c1:(decide (x.2.1<first)||decide (x.2.1+x.2.2.length>first+bytes.length))=true
 ·simp only [c1,if_true] at hd;cases hd
 simp only [c1] at hd ⊢;by_cases c2:(decide (z.1<=x.1)&&decide (x.1<z.2))=true
 ·simp only [c2,if_true] at hd;cases hd
 have c2':¬ (decide (z'.1<=x.1)&&decide (x.1<z'.2))=true:=by
  simp only [aht,decide_eq_true_eq] at c2 ⊢;rcases hz with rfl|⟨_,rfl|⟨_,h1,h2⟩⟩
  ·exact c2
  ·simp
  ·omega
 simp only [c2] at hd;simp only [c2']
 cases hc:c[x.1]? with
 | none=>rw [hc] at hd;cases hd
 | some old =>
  obtain⟨aeW,ho,hR⟩:=h.some hc;rw [hc] at hd;rw [ho];obtain⟨e1,e2⟩:=hR.ofBytes ((bytes.drop (x.2.1-first)).take x.2.2.length);simp only [bind,Except.bind,pure,Except.pure,ahD,if_false] at hd ⊢;rw [<- e1]
  cases hn:old.ofBytes ((bytes.drop (x.2.1-first)).take x.2.2.length) with
  | none=>rw [hn] at hd;cases hd
  | some new =>
   rw [hn] at hd;cases hd;exact⟨_,rfl,h.ZC _ (e2 _ hn),ag,⟨by simpa using c2,(ahx.1 hc).1⟩,fun i hi=>⟨ahw (fun e=>hi e.symm),ahw (fun e=>hi e.symm)⟩⟩
theorem lg{ρ:Ren}{z z':Nat×Nat}(hz:Rm ρ.eq z z')(first:Nat)(bytes:List UInt8):∀ (l:List (Nat×Nat×List UInt8)) {c c' d:Array Value},AR ρ c c'->l.foldlM (iF z first bytes) c=.ok d ->
  ∃ d',l.foldlM (iF z' first bytes) c'=.ok d'/\AR ρ d d'/\d.size=c.size/\(∀ x∈l,¬ (z.1<=x.1/\x.1<z.2)/\x.1<c.size)/\∀ i,z.1<=i->i<z.2->d[i]?=c[i]?/\d'[i]?=c'[i]?
 | [],c,c',d,h,hd=>by
  cases hd;exact⟨c',rfl,h,rfl,ag,fun _ _ _=>⟨rfl,rfl⟩⟩
 | x::l,c,c',d,h,hd=>by
  rw [List.foldlM_cons] at hd
  cases h1:iF z first bytes c x with
  | error m=>rw [h1] at hd;cases hd
  | ok c1 =>
   rw [h1] at hd;obtain⟨c1',e1,e2,e3,e4,e5⟩:=uq hz h first bytes x h1
   obtain⟨d',f1,f2,f3,f4,f5⟩:=lg hz first bytes l e2 hd
   refine⟨d',by rw [List.foldlM_cons,e1];exact f1,f2,f3.trans e3,fun y hy=>?_,fun i h1 h2=>⟨(f5 i h1 h2).1.trans (e5 i fun e=>e4.1 (e▸⟨h1,h2⟩)).1,(f5 i h1 h2).2.trans (e5 i fun e=>e4.1 (e▸⟨h1,h2⟩)).2⟩⟩
   cases hy with
   | head=>exact e4
   | tail _ hy=>have:=f4 y hy;rw [e3] at this;exact this
structure WroteR(ρ:Ren)(w:World)(ts qk:List Addr):Prop where
 alike:TR ρ ts qk
 ok:∀ a∈ts,w.frozen? a=false/\∀ c t z,w.heap[a.block]?=some (.cells c t z)->a.off<c.size
def jY(w:World)(at_:Addr)(c:Array Value)(e:TypeId)(z:Nat×Nat):World:={ w with heap:=w.heap.setIfInBounds at_.block (.cells c e z) }
theorem ql(h:WR ρ w w'){k k':Addr}(ha:cu ρ at_ at')(hk:k.off=k'.off/\k.spot=k'.spot)(p:Program)(u:TypeId){v:Value}(hv:VR ρ v v'):
  (∃ m,∀ T d,(tp w T d).viewStore p at_ u k v false=.error m)∨∃ c e z c' z' ts qk,(∀ T d,(tp w T d).viewStore p at_ u k v false=.ok (tp (jY w at_ c e z) T d,ts))/\w'.viewStore p at' u k' v' false=.ok (jY w' at' c' e z',qk) /\
   WroteR ρ w ts qk/\OR ρ (.cells c e z) (.cells c' e z')/\(∃ c0,w.heap[at_.block]?=some (.cells c0 e z)/\Gw c0 z c z)/\∃ Vp,w'.heap[at'.block]?=some (.cells Vp e z')/\∀ i,z.1<=i->i<z.2->c'[i]?=Vp[i]?:=by
 have Oq:=ha;obtain @⟨x,x',off,spot,hr⟩:=ha;obtain⟨o,o',h1,h2,h3⟩:=h.obj _ _ hr
 have ev:∀ (w:World) (a k:Addr) (v:Value),w.viewStore p a u k v false=(if !tight p p.depth u then .error "memory seen as another type: a store through a type with padding" else(w.seen p a u k false).bind fun y=>match v.bytes? with
   | none=>.error "memory seen as another type: a value that is no plain data"
   | some bytes=>if some bytes.length≠y.2.2.2.2.1.bytes?.map (·.length) then .error "memory seen as another type: a value of another size" else
    (y.2.2.2.2.2.foldlM (iF y.2.2.1 y.2.2.2.1 bytes) y.1).bind fun c=>.ok (jY w a c y.2.1 y.2.2.1,y.2.2.2.2.2.map fun q=>{ block:=a.block,off:=q.1 })):=by
  intro w a k v;unfold World.viewStore;by_cases c1:tight p p.depth u=true
  ·simp only [c1,aiP,ahD,if_false]
   cases c3:w.seen p a u k false with
   | error m=>rfl
   | ok y =>
    obtain⟨c,e,z,first,mJ,cells⟩:=y
    cases hb:v.bytes? with
    | none=>rfl
    | some bytes =>
     by_cases c2:some bytes.length≠mJ.bytes?.map (·.length)
     ·simp only [Except.bind,bind,c2,ne_eq,not_false_eq_true,if_true];rfl
     ·simp only [Except.bind,bind,c2,if_false];rfl
  ·simp only [c1,Bool.not_false,if_true];rfl
 have es:∀ T d,(tp w T d).seen p ⟨x,off,spot⟩ u k false=w.seen p ⟨x,off,spot⟩ u k false:=fun _ _=>rfl
 cases c1:tight p p.depth u with
 | false=>exact .inl ⟨_,fun T d=>by rw [ev];simp only [c1,Bool.not_false,if_true];rfl⟩
 | true =>
 have no:(∀ c e z,o≠.cells c e z)->∃ m,∀ T d,(tp w T d).viewStore p ⟨x,off,spot⟩ u k v false=.error m:=fun hn=>by
  obtain⟨m,hm⟩:=seen_none (w:=w) (at_:=⟨x,off,spot⟩) (k:=k) p u fun c e z hc=>hn c e z (ah6 (h1.symm.trans hc));exact⟨m,fun T d=>by rw [ev,es,hm];simp only [c1,aiP,ahD,if_false];rfl⟩
 cases h3 with
 | map n he=>exact .inl (no fun _ _ _ e=>by cases e)
 | iter s n=>exact .inl (no fun _ _ _ e=>by cases e)
 | view t hv=>exact .inl (no fun _ _ _ e=>by cases e)
 | number t hv=>exact .inl (no fun _ _ _ e=>by cases e)
 | @cells c0 Vp e z z' hz hA =>
  obtain⟨X,e1,e2⟩:=sA Oq hk h1 h2 hA p u
  cases X with
  | error m=>exact .inl ⟨m,fun T d=>by rw [ev,es,e1];simp only [c1,aiP,ahD,if_false];rfl⟩
  | ok y =>
   obtain⟨first,mJ,cells⟩:=y
   cases hb:v.bytes? with
   | none=>exact .inl ⟨_,fun T d=>by rw [ev,es,e1];simp only [c1,aiP,ahD,if_false,Except.map,Except.bind,hb];rfl⟩
   | some bytes =>
    have bI:=hv.bytes▸hb;by_cases c2:some bytes.length≠mJ.bytes?.map (·.length)
    ·exact .inl ⟨_,fun T d=>by rw [ev,es,e1];simp only [c1,aiP,ahD,if_false,Except.map,Except.bind,hb];rw [if_pos c2]⟩
    ·cases hf:cells.foldlM (iF z first bytes) c0 with
     | error m=>exact .inl ⟨m,fun T d=>by rw [ev,es,e1];simp only [c1,aiP,ahD,if_false,Except.map,Except.bind,hb];rw [if_neg c2,hf]⟩
     | ok c =>
      obtain⟨c',f1,f2,f3,f4,f5⟩:=lg hz first bytes cells hA hf
      refine .inr ⟨c,e,z,c',z',_,_,fun T d=>?_,?_,⟨TR.of hr cells,fun a ha=>?_⟩,.cells e hz f2,⟨c0,h1,f3,.inl rfl,fun i a b=>(f5 i a b).1⟩,Vp,h2,fun i a b=>(f5 i a b).2⟩
      ·rw [ev,es,e1];simp only [c1,aiP,ahD,if_false,Except.map,Except.bind,hb];rw [if_neg c2,hf];rfl
      ·rw [ev,e2];simp only [c1,aiP,ahD,if_false,Except.map,Except.bind,bI];rw [if_neg c2,f1]
      ·obtain⟨q,hq,rfl⟩:=ahY.1 ha;obtain⟨g1,g2⟩:=f4 q hq;refine⟨?_,fun c t z hc=>?_⟩
       ·unfold World.frozen?;simp only [h1];simpa using g1
       ·dsimp only at hc ⊢;rw [h1] at hc;cases hc;exact g2
theorem WR.far(h:WR ρ w w'){a a':Addr}(ha:cu ρ a a')(hv:w.cell? a=none)(P:Program):
  (∃ e,sx e/\∀ T d,(tp w T d).farLoad P a false=.error e)∨∃ v ts qk,(∀ T d,(tp w T d).farLoad P a false=.ok (v,ts))/\w'.cell? a'=none/\w'.farLoad P a' false=.ok (v,qk)/\VR ρ v v/\TR ρ ts qk:=by
 obtain @⟨x,x',off,spot,hr⟩:=ha;obtain⟨o,o',h1,h2,h3⟩:=h.obj _ _ hr
 cases h3 with
 | cells=>exact .inl ⟨.stuck "load: no such cell",trivial,fun T d=>by unfold World.farLoad;simp only [tp,h1,World.noCell]⟩
 | map=>exact .inl ⟨.stuck "load: no such cell",trivial,fun T d=>by unfold World.farLoad;simp only [tp,h1,World.noCell]⟩
 | iter=>exact .inl ⟨.stuck "load: no such cell",trivial,fun T d=>by unfold World.farLoad;simp only [tp,h1,World.noCell]⟩
 | number=>exact .inl ⟨.stuck "load: no such cell",trivial,fun T d=>by unfold World.farLoad;simp only [tp,h1,World.noCell]⟩
 | @view at_ at' u rN =>
  have e1:∀ T d,(tp w T d).farLoad P ⟨x,off,spot⟩ false=(match w.viewLoad P at_ u ⟨x,off,spot⟩ false with|.ok r=>.ok r|.error Rn=>.error (.unsupported (.unsafePointer Rn))):=fun T d=>by
   unfold World.farLoad;simp only [tp,h1];rfl
  have e2:w'.farLoad P ⟨x',off,spot⟩ false=(match w'.viewLoad P at' u ⟨x',off,spot⟩ false with|.ok r=>.ok r|.error Rn=>.error (.unsupported (.unsafePointer Rn))):=by
   unfold World.farLoad;simp only [h2];rfl
  rcases sB h rN (k:=⟨x,off,spot⟩) (k':=⟨x',off,spot⟩) ⟨rfl,rfl⟩ P u with⟨m,hm⟩|⟨v,ts,qk,f1,f2,f3,f4⟩
  ·exact .inl ⟨.unsupported (.unsafePointer m),trivial,fun T d=>by rw [e1,hm]⟩
  ·exact .inr ⟨v,ts,qk,fun T d=>by rw [e1,f1],by unfold World.cell?;simp only [h2],by rw [e2,f2],f3,f4⟩
theorem WR.Vq(h:WR ρ w w'){a a':Addr}(ha:cu ρ a a')(hv:w.cell? a=none)(P:Program){v:Value}(ZD:VR ρ v v'):
  (∃ e,sx e/\∀ T d,(tp w T d).farStore P a v false=.error e)∨∃ w2 Ot ts qk,(∀ T d,(tp w T d).farStore P a v false=.ok (tp w2 T d,ts))/\w'.cell? a'=none/\w'.farStore P a' v' false=.ok (Ot,qk) /\
   WR ρ w2 Ot/\Fr ρ ρ w' Ot/\(∀ T d,Grow (tp w T d) (tp w2 T d))/\WroteR ρ w ts qk/\(w2.tape=w.tape/\w2.drawn=w.drawn)/\Ot.drawn=w'.drawn/\∀ b b',cu ρ b b'->w.frozen? b=true->Ot.cell? b'=w'.cell? b':=by
 obtain @⟨x,x',off,spot,hr⟩:=ha;obtain⟨o,o',h1,h2,h3⟩:=h.obj _ _ hr
 cases h3 with
 | cells=>exact .inl ⟨.stuck "store: no such cell",trivial,fun T d=>by unfold World.farStore;simp only [tp,h1,World.noCell]⟩
 | map=>exact .inl ⟨.stuck "store: no such cell",trivial,fun T d=>by unfold World.farStore;simp only [tp,h1,World.noCell]⟩
 | iter=>exact .inl ⟨.stuck "store: no such cell",trivial,fun T d=>by unfold World.farStore;simp only [tp,h1,World.noCell]⟩
 | number=>exact .inl ⟨.stuck "store: no such cell",trivial,fun T d=>by unfold World.farStore;simp only [tp,h1,World.noCell]⟩
 | @view at_ at' u rN =>
  have e1:∀ T d,(tp w T d).farStore P ⟨x,off,spot⟩ v false=(match (tp w T d).viewStore P at_ u ⟨x,off,spot⟩ v false with|.ok r=>.ok r|.error Rn=>.error (.unsupported (.unsafePointer Rn))):=fun T d=>by
   unfold World.farStore;simp only [tp,h1];rfl
  have e2:w'.farStore P ⟨x',off,spot⟩ v' false=(match w'.viewStore P at' u ⟨x',off,spot⟩ v' false with|.ok r=>.ok r|.error Rn=>.error (.unsupported (.unsafePointer Rn))):=by
   unfold World.farStore;simp only [h2];rfl
  rcases ql h rN (k:=⟨x,off,spot⟩) (k':=⟨x',off,spot⟩) ⟨rfl,rfl⟩ P u ZD with⟨m,hm⟩|⟨c,e,z,c',z',ts,qk,f1,f2,f3,f4,⟨c0,f5,f6⟩,Vp,f7,f8⟩
  ·exact .inl ⟨.unsupported (.unsafePointer m),trivial,fun T d=>by rw [e1,hm]⟩
  ·have sC:ρ at_.block at'.block:=by obtain @⟨_,_,_,_,h⟩:=rN;exact h
   refine .inr ⟨jY w at_ c e z,jY w' at' c' e z',ts,qk,fun T d=>by rw [e1,f1],by unfold World.cell?;simp only [h2],by rw [e2,f2],h.uo sC rfl rfl f4,Fr.uo sC rfl rfl rfl rfl,fun T d=>?_,f3,⟨rfl,rfl⟩,rfl,fun b b' YQ wB=>?_⟩;rotate_left
   ·obtain @⟨y,y',ZE,ach,Rp⟩:=YQ;unfold World.cell? jY;dsimp only;by_cases e':at'.block=y'
    ·have e0:at_.block=y:=ρ.ir sC (e'▸Rp);rw [<- e',ahS (bW f7),f7];unfold World.frozen? at wB;rw [<- e0,f5] at wB;simp only [aht,decide_eq_true_eq] at wB;simp only [f8 ZE wB.1 wB.2]
    ·rw [ahw e']
   refine⟨fun r cc t zz hc=>?_,by simp [tp,jY],rfl,rfl⟩;by_cases eb:at_.block=r
   ·subst eb;have uK:w.heap[at_.block]?=some (.cells cc t zz):=hc;rw [f5] at uK;cases uK;exact⟨c,z,ahS (bW f5),f6⟩
   ·exact⟨cc,zz,(ahw eb).trans hc,.refl cc zz⟩
end CO
