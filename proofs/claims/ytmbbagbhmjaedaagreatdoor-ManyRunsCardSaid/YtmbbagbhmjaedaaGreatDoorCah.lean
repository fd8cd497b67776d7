/- Part of the proof. -/
import Derived.Test.YtmbbagbhmjaedaaGreatDoorCag
import Derived.StillTail
set_option linter.all false
namespace FM
open Go Go.RowKit
variable {c:Nat}{v:Operand}{pos:String}{aft:Array Edge}{g:Option (Nat×Bool)}
section
variable {S:Sys} {N:Nat} {σ:St}
theorem RelL.write{w0:World}{L0:Nat->aO}{a:Act}{w w':World}{L:Nat->aO}(hR:RelL S w0 L0 N σ a w L){s b:Nat}{q0:List Nat}{x':AV}(hs:s<N)(hb:L b=.my (s::q0))(bc:w'.heap.size=w.heap.size)(ho:w'.os=w.os)(ht:w'.tape=w.tape)(hu:w'.output=w.output)(hblk:∀ k,k≠b->w'.heap[k]?=w.heap[k]?)
  (hx:Rep L w' (some [s]) x' (a.tmps.getD s undef)) (deep:Bool) (TW:deep=true->q0≠[]):RelL S w0 L0 N (σ.upd deep s (.av x')) a w' L:=by
 have cr:∀ k p,L k=.my p->p≠s::q0->k≠b:=fun k p hk hp e=>by subst e;rw [hb] at hk;injection hk with hk;exact hp hk.symm
 have XS:∀ k,L k=.sh->k≠b:=fun k hk e=>by subst e;rw [hb] at hk;cases hk
 refine⟨hR.defers,hR.size,⟨ho.trans hR.keep.os,ht.trans hR.keep.tape,hu.trans hR.keep.output,by rw [bc];exact hR.keep.size,fun k hk hn=>?_⟩,⟨fun k p hk=>by rw [bc];exact hR.lok.lt k p hk,hR.lok.inj,hR.lok.head,hR.lok.old,hR.lok.fo,hR.lok.new⟩,fun n hn=>?_,fun n hn=>?_,hR.fix,hR.glob⟩
 ·refine(hblk k (fun e=>?_)).trans (hR.keep.block k hk hn);subst e;obtain⟨q,hq⟩:=hR.lok.old k _ hk hb;exact hn q hq
 ·simp only [get];by_cases qy:s=n
  ·subst qy;rw [ahy,cond_true];exact hx
  ·rw [au qy,cond_false];have hh:=hR.hold n hn;have key:∀ tv:TV,tv.dep s=false->Hold L w a.tmps n tv (a.tmps.getD n undef)->Hold L w' a.tmps n tv (a.tmps.getD n undef):=fun tv hd hh =>
    Hold.cG (good:=fun m=>m≠s) ae ho ht hu (fun k h1 _=>⟨h1,hblk k (XS k h1)⟩) (fun k m q h1 h2=>⟨h1,hblk k (cr k _ h1 (fun e=>by injection e with e _;exact h2 e))⟩)
     (fun _ _=>rfl) (fun e=>qy e.symm) (fun m hm e=>by subst e;rw [hd] at hm;cases hm) hh
   generalize get σ n=tv at hh
   cases tv with
   | none=>trivial
   | av x=>exact key _ rfl hh
   | ref s'=>exact hh
   | rref s' r y =>
    simp only [TV.bk]
    cases bI:Nat.beq s' s with
    | false=>exact key _ bI hh
    | true =>
     have:=ahz bI;subst this
     cases deep with
     | false=>trivial
     | true =>
      obtain⟨k,h1,h2,_⟩:=hh;exact⟨k,h1,by rw [cell_of_heap (hblk k (cr k _ h1 (fun e=>TW rfl (by injection e with _ e;exact e.symm))))];exact h2,fun h=>absurd rfl h⟩
   | ptr s' r c y =>
    simp only [TV.bk]
    cases bI:Nat.beq s' s with
    | false=>exact key _ bI hh
    | true=>obtain⟨k,h1,h2,_⟩:=hh;exact⟨k,h1,h2,fun h=>absurd rfl h⟩
   | fpt s' o y =>
    simp only [TV.bk]
    cases bI:Nat.beq s' s with
    | false=>exact key _ bI hh
    | true=>obtain⟨k,h1,h2,_⟩:=hh;exact⟨k,h1,h2,fun h=>absurd rfl h⟩
   | rptr s' r j y =>
    simp only [TV.bk]
    cases bI:Nat.beq s' s with
    | false=>exact key _ bI hh
    | true =>
     cases deep with
     | false=>trivial
     | true=>obtain⟨k,h1,h2,_⟩:=hh;exact⟨k,h1,h2,fun h=>absurd rfl h⟩
   | dptr x=>exact key _ rfl hh
   | bdp s' x =>
    simp only [TV.bk]
    cases bI:Nat.beq s' s with
    | false=>exact key _ bI hh
    | true=>trivial
   | bor s' x =>
    simp only [TV.bk]
    cases bI:Nat.beq s' s with
    | false=>exact key _ bI hh
    | true=>trivial
   | clo f caps=>exact hh
 ·simp only [get];rw [au (show s≠n by omega),cond_false,hR.out n hn];rfl
theorem jK{t:Nat}{ti:TI}(hT:S.T t=some ti){b off e:Nat}{cur:Array Value}{w:World}{v:Value}(hb:w.heap[b]?=some (.cells cur e (0,0)))(bc:v.cells.size=ti.size)(h1:∀ u∈v.cells.toList,u.oneCell'=true)(lQ:off+v.cells.size<=cur.size):
  (Instr.storeAt t (.pointer (some ⟨b,off,none⟩)) v).run S.P w=.ok () (w.setRow b (cur.toList.take off++v.cells.toList++cur.toList.drop (off+v.cells.size)).toArray):=by
 obtain⟨f,lC,j4⟩:=(S.ok t ti hT).size;have cH:=run_storeCells_at S.P b off e v.cells.toList 0 cur w hb (by simpa using lQ) h1;simp only [aib,aiA] at cH;have cr:v.cells.size=f.size:=by rw [bc,j4]
 simp [Instr.storeAt,Instr.sureAddr,storeVar,Go.sizeOf,typeInfo,lC,cr,cH]
theorem fK(cur vs:List Value)(off j:Nat)(h:off+vs.length<=cur.length):(cur.take off++vs++cur.drop (off+vs.length))[j]?=if off<=j/\j<off+vs.length then vs[j-off]? else cur[j]?:=by
 by_cases h1:j<off
 ·rw [ahX,ahG (by simp;omega),aiq,if_pos h1,if_neg ae]
 ·by_cases h2:j<off+vs.length
  ·rw [ahG (by simp;omega),ahJ (by simp;omega),if_pos ae];congr 1;simp;omega
  ·rw [ahJ (by simp;omega),if_neg ae,ah5];congr 1;simp;omega
theorem nt:∀ {xs:List AV} {i:Nat} {z:AV},(∀ x∈xs,x.cells.length=c)->z.cells.length=c->∀ (o:Nat) y,(flat (xs.set i z))[o]?=some y->(i*c<=o/\o<i*c+c/\i<xs.length/\z.cells[o-i*c]?=some y)∨(¬ (i*c<=o/\o<i*c+c)/\(flat xs)[o]?=some y):=by
 intro xs i z hc hz o y hy;by_cases hi:i<xs.length
 ·have uK:∀ x∈xs.set i z,x.cells.length=c:=fun x hx=>by
   rcases aiF hx with h|h
   ·exact hc x h
   ·rw [h];exact hz
  obtain⟨i',j,x,h1,h2,h3,h4⟩:=gL uK hy;rw [aio] at h1;by_cases XT:i=i'
  ·subst XT;rw [if_pos rfl,if_pos hi] at h1;injection h1 with h1
   subst h1;left;refine⟨ae,ae,hi,?_⟩;rw [h3,show i*c+j-i*c=j by omega];exact h2
  ·rw [if_neg XT] at h1;right;have hf:=flat_get hc h1 h2;rw [<- h3] at hf;refine⟨fun h=>?_,hf⟩;rcases Nat.lt_or_gt_of_ne XT with h'|h'
   ·have:(i+1)*c<=i'*c:=ahT _ ae;rw [ah9] at this;omega
   ·have:(i'+1)*c<=i*c:=ahT _ ae;rw [ah9] at this;omega
 ·rw [List.set_eq_of_length_le ae] at hy;refine .inr ⟨fun h=>?_,hy⟩;have:=(aho.1 hy).1;rw [bh hc] at this;have:xs.length*c<=i*c:=ahT _ ae;omega
theorem eW{w0:World}{L0:Nat->aO}{a:Act}{w:World}{L:Nat->aO}(hR:RelL S w0 L0 N σ a w L){z:AV}(hv:ov σ v=.av z)(hz:z.aW=false)(hok:z.fV=true):
  (a.eval v).cells.size=z.cells.length/\(∀ u∈(a.eval v).cells.toList,u.oneCell'=true)/\∀ (j:Nat) y,z.cells[j]?=some y->∃ u,(a.eval v).cells[j]?=some u/\Rep L w none y u:=by
 obtain⟨n,hn⟩:=cU hR hv;exact uP (hn.replace hz) hok
theorem TX{t:Nat}{ti:TI}{x:Operand}{s i:Nat}{y0 z:AV}{xs:List AV}{ty:Nat}{pos:String}{aft:Array Edge}{g:Option (Nat×Bool)}(hx:ov σ x=.ptr s i c y0)(hs:get σ s=.av (.sl true c xs))(hT:S.T t=some ti)(hv:ov σ v=.av z)(hz:z.aW=false)(hok:z.fV=true)(hc:Nat.beq z.cells.length ti.size=true)(kK:Nat.beq ti.size c=true)(hi:i<xs.length):
  EStep S ⟨none,.store t x v,ty,pos,aft,g⟩ σ (σ.upd false s (.av (.sl true c (xs.set i z)))):=by
 intro w0 L0 N a w _ ⟨L,hR⟩;have PM:=ahz hc;have KL:=ahz kK;obtain⟨_,⟨b,hL,hp,_⟩,_⟩:=aM hR hx ag;have ja:=aJ hR hs ag;have hh:=hR.hold s ja;rw [hs] at hh;simp only [Hold] at hh;obtain⟨v1,v2,v3⟩:=eW hR hv hz hok;generalize PN:a.tmps.getD s undef=sv at hh
 cases hh with
 | slE h=>simp at hi
 | @slO p c xs b' cap arr e u fS hb bK bc jF aH hr =>
  have:=hR.lok.inj _ _ _ hL fS;subst this;have hmul:(i+1)*c<=cap*c:=ahT _ ae;rw [ah9,Nat.one_mul] at hmul;have Fb:(a.eval v).cells.size=c:=ae;obtain⟨A,aD,Fj,kl⟩:∃ A:Array Value,(Instr.storeAt t (.pointer (some ⟨b,i*c,none⟩)) (a.eval v)).run S.P w=.ok () (w.setRow b A)/\A.size=arr.size/\∀ j,A[j]?=if i*c<=j/\j<i*c+(a.eval v).cells.size then(a.eval v).cells[j-i*c]? else arr[j]? :=
   ⟨_,jK (S:=S) hT (off:=i*c) (v:=a.eval v) hb ae v2 ae,by simp;omega,fun j=>by
    have:=fK arr.toList (a.eval v).cells.toList (i*c) j (by simp;omega)
    simpa using this⟩
  have cw:∀ k,k≠b->(w.setRow b A).heap[k]?=w.heap[k]?:=fun k hk=>setRow_other w b k A hk;have oG:=setRow_heap w b arr A e (0,0) hb;have jh:(w.setRow b A).heap.size=w.heap.size:=ag;have ho:(w.setRow b A).os=w.os:=rfl;have ht:(w.setRow b A).tape=w.tape:=rfl;have hu:(w.setRow b A).output=w.output:=rfl;generalize w.setRow b A=W at aD cw oG jh ho ht hu;refine⟨undef,W,.inr ⟨by simp only [execOp,hp,Sem.run_bind,aD];rfl,rfl⟩,L,hR.write (b:=b) (q0:=[]) ja hL jh ho ht hu cw ?_ false (fun h=>by cases h)⟩;rw [PN];have hlen:(xs.set i z).length=xs.length:=ag;have kL:∀ π (y:AV) (u:Value),Rep L w π y u->(∀ p,π=some p->∃ o q,p=s::o::q)->Rep L W π y u:=fun π y u h TY =>
   h.frame ae ho ht hu (fun k hk _=>⟨hk,cw k (fun e=>by subst e;rw [hL] at hk;cases hk)⟩) π fun p vU=>⟨p,vU,fun k q hk=>⟨hk,cw k (fun e=>by
    subst e
    obtain⟨o,q',rfl⟩:=TY p vU
    rw [hL] at hk;injection hk with hk;simp at hk)⟩⟩
  rw [<- hlen];refine .slO (fun o=>(A[o]?).getD undef) hL oG (by rw [hlen];exact bK) (by rw [Fj];exact bc) (fun y hy=>?_) (fun o ho=>?_) (fun o y hy=>?_)
  ·rcases aiF hy with h|h
   ·exact jF y h
   ·rw [h];omega
  ·have aA:o<A.size:=by
    rw [Fj,bc];rw [hlen] at ho;exact ahv ho (ahT _ bK)
   simp [aA]
  ·rw [kl];rcases nt jF ae o y hy with⟨h1,h2,h3,h4⟩|⟨h1,h2⟩
   ·rw [if_pos ae];obtain⟨u',qO,ng⟩:=v3 _ y h4;rw [qO];exact(kL none y u' ng (fun p hp=>by cases hp)).any _
   ·rw [if_neg (by rw [Fb];exact h1)];have ho:o<xs.length*c:=by rw [<- bh jF];exact(aho.1 h2).1
    rw [aH o ho];exact kL _ y _ (hr o y h2) (fun p hp=>by cases hp;exact⟨o,[],rfl⟩)
theorem DG{α:Type}{f:α->AV}{t:Nat}{ti:TI}{x:Operand}{s i:Nat}{y0:AV}{l:List α}{n:α}{ty:Nat}{pos:String}{aft:Array Edge}{g:Option (Nat×Bool)}(hx:ov σ x=.ptr s i c y0)(hs:get σ s=.av (.sl true c (l.map f)))(hT:S.T t=some ti)(hv:ov σ v=.av (f n))(hz:(f n).aW=false)(hok:(f n).fV=true)(hc:Nat.beq (f n).cells.length ti.size=true)(kK:Nat.beq ti.size c=true)(hi:i<l.length):
  EStep S ⟨none,.store t x v,ty,pos,aft,g⟩ σ (σ.upd false s (.av (.sl true c ((l.set i n).map f)))):=by
 rw [List.map_set];exact TX hx hs hT hv hz hok hc kK (by simpa using hi)
theorem CW.own{c:Code}{Q:Exit->St->Prop}(s cc:Nat)(hs:get σ s=.av .nil)(h:CW S N c Q (σ.put s (.av (.sl true cc [])))):CW S N c Q σ:=by
 unfold CW at *;intro w0 L0 Q' a w hQ ⟨L,hR⟩;refine h w0 L0 Q' a w hQ ⟨L,hR.defers,hR.size,hR.keep,hR.lok,fun n hn=>?_,fun n hn=>?_,hR.fix,hR.glob⟩
 ·simp only [get,aY];by_cases qy:s=n
  ·subst qy;rw [ahy,cond_true];have hh:=hR.hold s hn;rw [hs] at hh;simp only [Hold] at hh ⊢;generalize a.tmps.getD s undef=v at hh;cases hh;exact .slE (fun _=>rfl)
  ·rw [au qy,cond_false]
   cases hd:(get σ n).dep s with
   | true=>trivial
   | false=>exact hR.hold n hn
 ·simp only [get,aY];have:=aJ hR hs ag;rw [au (show s≠n by omega),cond_false,hR.out n hn];rfl
theorem RelL.freeze{w0:World}{L0:Nat->aO}{a:Act}{w:World}{L:Nat->aO}(hR:RelL S w0 L0 N σ a w L){s:Nat}{x z:AV}(hs:get σ s=.av x)(hz:x.sh=z)(ho:z.aW=false):RelL S w0 L0 N (σ.put s (.av z)) a w (clear s L):=by
 have ja:=aJ hR hs ag;subst hz;refine⟨hR.defers,hR.size,hR.keep,hR.lok.clear s,fun n hn=>?_,fun n hn=>?_,hR.fix,hR.glob⟩
 ·simp only [get,aY];by_cases qy:s=n
  ·subst qy;rw [ahy,cond_true];have hh:=hR.hold s hn;rw [hs] at hh;simp only [Hold] at hh ⊢;exact(Rep.toSh (fun b _ hb=>kB hb) hh (fun p hp b q hb=>by cases hp;unfold clear;rw [hb];simp [aO.bm,ahy])).any _
  ·rw [au qy,cond_false]
   cases hd:(get σ n).dep s with
   | true=>trivial
   | false =>
    rw [cond_false];exact Hold.cG (good:=fun m=>m≠s) (ahr _) rfl rfl rfl (fun b h1 _=>⟨kB h1,rfl⟩) (fun b m q h1 h2=>⟨mz h1 h2,rfl⟩) (fun _ _=>rfl) (fun e=>qy e.symm) (fun m hm e=>by subst e;rw [hd] at hm;cases hm) (hR.hold n hn)
 ·simp only [get,aY];rw [au (show s≠n by omega),cond_false,hR.out n hn];rfl
theorem CW.freeze{c:Code}{Q:Exit->St->Prop}(s:Nat){x z:AV}(hs:get σ s=.av x)(hz:x.sh=z)(ho:z.aW=false)(h:CW S N c Q (σ.put s (.av z))):CW S N c Q σ:=by
 unfold CW at *;exact fun w0 L0 Q' a w hQ ⟨L,hR⟩=>h w0 L0 Q' a w hQ ⟨_,hR.freeze hs hz ho⟩
theorem J.freeze{q:Bool}{ops:Array Oper}{l:List Oper}{K:St->Prop}(s:Nat){x z:AV}(hs:get σ s=.av x)(hz:x.sh=z)(ho:z.aW=false)(h:J q S N ops l K (σ.put s (.av z))):J q S N ops l K σ:=by
 unfold J at *
 cases q with
 | true=>exact fun hd w0 L0 Q a w hQ ⟨L,hR⟩=>h hd w0 L0 Q a w hQ ⟨_,hR.freeze hs hz ho⟩
 | false=>exact fun hd w0 L0 Q a w hQ ⟨L,hR⟩=>h hd w0 L0 Q a w hQ ⟨_,hR.freeze hs hz ho⟩
theorem dr{o:Bool}{l:List Int}:(AV.sl o c (l.map .int)).sh=.sl false c (l.map .int):=by simp only [AV.sh];rw [fZ AV.int l AV.int (fun _=>rfl)]
theorem bG{α:Type}{o:Bool}{f g:α->AV}{l:List α}(h:∀ x,(f x).sh=g x):(AV.sl o c (l.map f)).sh=.sl false c (l.map g):=by simp only [AV.sh];rw [fZ f l g h]
theorem J.TZ{f:Nat}{xs9:List AV}{r:AV}{xs:List Operand}{b:Bool}{ops:Array Oper}{l:List Oper}{K:St->Prop}{d ty:Nat}{ts:Array Nat}{pos:String}{aft:Array Edge}(hs:FnSpec S.P f xs9 xs9 r)(hg:live ops g σ=some true)(ha:aV S N σ xs b xs9)(hr:r.aR=true)(h:J true S N ops l K (σ.put d (.av r))):
  J true S N ops (⟨some d,.call ⟨.value (.func f),xs.toArray,ts⟩,ty,pos,aft,g⟩::l) K σ:=by
 unfold J at *;intro dI w0 L0 Q a w hQ hR;obtain⟨h1,h2⟩:=aU dI;have hd:=h1 d rfl;have hw:=ba (o:=⟨some d,.call ⟨.value (.func f),xs.toArray,ts⟩,ty,pos,aft,g⟩) hg hR;simp only [wpQuiet,hw,if_true];refine⟨r.toV,fun w' qU=>?_,?_⟩
 ·unfold Oper.quietAt;rw [jf hs.ok rfl rfl w'];refine⟨rfl,?_⟩;obtain⟨L,gi⟩:=hR.ext qU;refine(hs.calls w' (fun _=>.sh) (xs.map a.eval) (by rw [ahu,ha.length]) (kG (fun _ _ h=>by cases h) (fun _ _ h=>by cases h) gi.gh.all) (fun i x v hx hv=>?_)).mono fun e Hz ⟨v,L',he,hB⟩=>?_
  ·simp only [ahE,ahs] at hv;obtain⟨y,hy,rfl⟩:=hv;obtain⟨c,hc,_⟩:=ha.get i y x hy hx;exact(hc.Hy gi).any _
  ·subst he;have hv:v=r.toV:=by
    have:=hB.res;cases this<;>first|rfl|(simp [AV.aR] at hr)
   subst hv;exact⟨rfl,qU.trans ⟨hB.keep.os,hB.keep.tape,hB.keep.output,hB.keep.size,fun b hb=>hB.keep.block b hb (fun p h=>by cases h)⟩⟩
 ·refine h h2 w0 L0 Q _ w hQ ?_;obtain⟨L,hR⟩:=hR;refine Rel.aT (n:=d) hR hd ?_ rfl (toV_rep hr);cases r<;>first|rfl|(simp [AV.aR] at hr)
end
end FM
namespace FM
open Go Go.RowKit
variable {i id:Nat}{o:Oper}{Q:Exit->St->Prop}
inductive Fl(ops:Array Oper):Nat->Nat->Prop
 | on {t:Nat} {o:Oper} {e:Edge} (ho:ops[t]?=some o) (he:e∈o.after) (hb:Region.binds .any e=true):Fl ops t e.on
 | up {t i:Nat} {o:Oper} {e:Edge} (ho:ops[t]?=some o) (he:e∈o.after) (hb:Region.binds .any e=true) (h:Fl ops e.on i):Fl ops t i
def Bw(ms:List Nat)(es:List Edge):Nat:=es.foldl (fun m e=>bif Region.binds .any e then m ||| (1 <<< e.on) ||| ms.getD e.on 0 else m) 0
def pz:List Oper->List Nat->List Nat
 | [],ms=>ms
 | o::l,ms=>pz l (ms++[Bw ms o.after.toList])
theorem yD{ops:Array Oper}{ms:List Nat}(hm:∀ (t m:Nat),ms[t]?=some m->∀ i,m.testBit i=true->Fl ops t i){t:Nat}{o:Oper}(ho:ops[t]?=some o):∀ i,(Bw ms o.after.toList).testBit i=true->Fl ops t i:=by
 unfold Bw
 suffices h:∀ (es:List Edge) (m:Nat),(∀ e∈es,e∈o.after)->(∀ i,m.testBit i=true->Fl ops t i)->∀ i,(es.foldl (fun m e=>bif Region.binds .any e then m ||| (1 <<< e.on) ||| ms.getD e.on 0 else m) m).testBit i=true->Fl ops t i from
  h _ 0 (fun e he=>by simpa using he) (fun i hi=>by simp at hi)
 intro es
 induction es with
 | nil=>exact fun m _ h i hi=>h i hi
 | cons e es ih =>
  intro m HM PO i hi;refine ih _ (fun e' PQ=>HM e' (ahW _ PQ)) (fun j hj=>?_) i hi
  cases hb:Region.binds .any e with
  | false=>simp only [hb,cond_false] at hj;exact PO j hj
  | true =>
   simp only [hb,cond_true,Nat.testBit_or,aiR] at hj;rcases hj with(hj|hj)|hj
   ·exact PO j hj
   ·rw [Nat.shiftLeft_eq,Nat.one_mul,Nat.testBit_two_pow] at hj;have:e.on=j:=of_decide_eq_true hj;subst this;exact .on ho (HM e (ahU ..)) hb
   ·rw [ahK] at hj
    cases hg:ms[e.on]? with
    | none=>rw [hg] at hj;simp at hj
    | some mm=>rw [hg] at hj;exact .up ho (HM e (ahU ..)) hb (hm e.on mm hg j hj)
theorem rm{ops:Array Oper}:∀ (l:List Oper) (ms:List Nat),(∀ (k:Nat) o,l[k]?=some o->ops[ms.length+k]?=some o)->(∀ (t m:Nat),ms[t]?=some m->∀ i,m.testBit i=true->Fl ops t i)->∀ (t m:Nat),(pz l ms)[t]?=some m->∀ i,m.testBit i=true->Fl ops t i
 | [],ms,_,hm=>hm
 | o::l,ms,hl,hm=>by
  refine rm l _ (fun k o' hk=>?_) (fun t m ht=>?_)
  ·have:=hl (k+1) o' (by simpa using hk);simpa [aix,Nat.add_comm 1 k] using this
  ·by_cases aA:t<ms.length
   ·rw [ahG aA] at ht;exact hm t m ht
   ·rw [ahJ ae] at ht;have h0:t-ms.length=0:=by
     rcases aiD (t-ms.length) with h|h
     ·exact h
     ·obtain⟨k,hk⟩:∃ k,t-ms.length=k+1:=⟨t-ms.length-1,ae⟩;rw [hk] at ht;simp at ht
    rw [h0] at ht;simp only [ahq,ahp] at ht;subst ht;have XU:ops[t]?=some o:=by
     have:=hl 0 o rfl
     rwa [show ms.length+0=t by omega] at this
    exact yD hm XU
structure Closed(ops:Array Oper)(n:Nat)(listed:Array Bool):Prop where
 size:listed.size=ops.size
 closed:∀ j oj,ops[j]?=some oj->listed.getD j false=true->∀ e∈oj.after,Region.binds .any e=true->listed.getD e.on false=true
theorem Closed.anc{ops:Array Oper}{n:Nat}{listed:Array Bool}(h:Closed ops n listed){t i:Nat}(ha:Fl ops t i):(∀ o,ops[t]?=some o->∀ e∈o.after,Region.binds .any e=true->listed.getD e.on false=true)->listed.getD i false=true:=by
 induction ha with
 | on ho he hb=>exact fun hr=>hr _ ho _ he hb
 | up ho he hb _ ih=>exact fun hr=>ih fun o' ho' e' PQ bI=>h.closed _ _ ho' (hr _ ho _ he hb) e' PQ bI
theorem Closed.set{ops:Array Oper}{n:Nat}{listed:Array Bool}(inv:Closed ops n listed)(hi:i∈Region.ready .any ops listed):Closed ops n (listed.setIfInBounds i true):=by
 obtain⟨_,oi,hoi,cZ⟩:=mem_ready.1 hi;refine⟨by simp [inv.size],fun j oj hj hl e he hb=>?_⟩;by_cases SJ:i=j
 ·subst SJ;have:oj=oi:=ah6 (hj.symm.trans hoi);subst this;exact getD_set_true (cZ e he hb)
 ·rw [getD_set_ne false SJ] at hl;exact getD_set_true (inv.closed j oj hj hl e he hb)
def HN(l:List Oper)(n:Nat):Bool:=((pz l []).drop n).all fun m=>m &&& (2 ^ n-1)==2 ^ n-1
theorem yE{l:List Oper}{n:Nat}(h:HN l n=true)(hl:(pz l []).length=l.length){t:Nat}(ht:n<=t)(yF:t<l.length)(hi:i<n):Fl l.toArray t i:=by
 have aA:t<(pz l []).length:=ae;refine rm (ops:=l.toArray) l [] (fun k o hk=>by simpa using hk) (fun t m h=>by simp at h) t _ (ahn aA) i ?_;have hm:=ahM.1 h ((pz l [])[t]) (List.mem_iff_getElem?.2 ⟨t-n,by rw [ah5,show n+(t-n)=t by omega,ahn aA]⟩);have tY:=eq_of_beq hm;have:((pz l [])[t] &&& (2 ^ n-1)).testBit i=true:=by rw [tY,Nat.testBit_two_pow_sub_one];exact decide_eq_true hi
 rw [Nat.testBit_and,aht] at this;exact this.1
section
variable {P:Program} {ops:Array Oper} {C:World->Prop}
def wpAnyH(P:Program)(ops:Array Oper)(C:World->Prop)(n:Nat)(L:Array Bool->Act->Prop):Nat->Array Bool->Act->Prop
 | 0,listed,a=>L listed a
 | f+1,listed,a=>Region.ready .any ops listed≠[]/\∀ i∈Region.ready .any ops listed,i<n/\qOp P ops C i (wpAnyH P ops C n L f (listed.setIfInBounds i true)) a
theorem rp{n g:Nat}{L:Array Bool->Act->Prop}{Q':Exit->Act->World->Prop}(hL:∀ listed a w,C w->L listed a->wpAny P .any ops Q' g listed a w) :
  ∀ (f:Nat) (listed:Array Bool) (a:Act) (w:World),C w->wpAnyH P ops C n L f listed a->wpAny P .any ops Q' (f+g) listed a w
 | 0,listed,a,w,hw,h=>by rw [ahR];exact hL _ _ w hw h
 | f+1,listed,a,w,hw,h=>by
  rw [show f+1+g=(f+g)+1 by omega];exact⟨fun h0=>absurd h0 h.1,fun i hi=>wpOp_of_qOp hw (fun a' w' qU h'=>rp hL f _ a' w' qU h') (h.2 i hi).2⟩
theorem wpAnyH_first{n:Nat}{oi:Oper}{v:Value}{L:Array Bool->Act->Prop}(hi:ops[i]?=some oi)(Bx:∀ (j:Nat) (o:Oper) cs b,ops[j]?=some o->o.op≠.select cs b)
  (DH:∀ t j,n<=t->t<ops.size->j<n->Fl ops t j) (px:i<n) (nv:∀ listed a,L listed a->∀ j∈Region.ready .any ops listed,n<=j) :
  ∀ (f:Nat) (listed:Array Bool) (a:Act),Closed ops n listed ->
   (∀ j oj,ops[j]?=some oj->j≠i->listed.getD j true=false->(∀ e∈oj.after,Region.binds .any e=true->e.on≠i)->oi.apart ops oj=true) ->
   i∈Region.ready .any ops listed->YieldsIn P ops C oi v a ->
   wpAnyH P ops C n L f (listed.setIfInBounds i true) (a.put oi.dst v)->wpAnyH P ops C n L (f+1) listed a:=by
 have early:∀ {listed:Array Bool},Closed ops n listed->i∈Region.ready .any ops listed->∀ j∈Region.ready .any ops listed,j<n:=fun{listed} inv hr j hj=>by
  rcases aia j n with h|h
  ·exact h
  ·obtain⟨_,oj,By,cZ⟩:=mem_ready.1 hj
   have:=inv.anc (DH j i h (ahx.1 By).1 px) (fun o ho e he hb=>by
    have:o=oj:=ah6 (ho.symm.trans By)
    subst this
    exact cZ e he hb)
   rw [getD_both (mem_ready.1 hr).1] at this;cases this
 intro f
 induction f with
 | zero =>
  intro listed a inv _ hr hy H;refine⟨fun h=>(by rw [h] at hr;cases hr),fun j hj=>⟨early inv hr j hj,?_⟩⟩;have hjn:=early inv hr j hj;by_cases Fo:j=i
  ·subst Fo;exact hy.qOp hi H
  ·have:=nv _ _ H j (ready_mono hj Fo);omega
 | succ f ih =>
  intro listed a inv NT hr hy H;have KM:=(mem_ready.1 hr).1;refine⟨fun h=>(by rw [h] at hr;cases hr),fun j hj=>⟨early inv hr j hj,?_⟩⟩;by_cases Fo:j=i
  ·subst Fo;exact hy.qOp hi H
  ·have h1:=(H.2 j (ready_mono hj Fo)).2;obtain⟨T6,oj,By,cZ⟩:=mem_ready.1 hj;have XV:∀ e∈oj.after,Region.binds .any e=true->e.on≠i:=fun e he hb heq=>by
    have h1:=cZ e he hb;rw [heq,getD_both KM] at h1;cases h1
   have h2:=qOp_put By (NT j oj By Fo T6 XV) (fun cs b=>Bx i oi cs b hi) (fun cs b=>Bx j oj cs b By) hy h1;have PS:∀ k ok,ops[k]?=some ok->k≠i->(listed.setIfInBounds j true).getD k true=false ->
     (∀ e∈ok.after,Region.binds .any e=true->e.on≠i)->oi.apart ops ok=true:=fun k ok hk XW KM dJ=>by
    refine NT k ok hk XW ?_ dJ;by_cases WZ:j=k
    ·subst WZ;exact T6
    ·rw [getD_set_ne true WZ] at KM;exact KM
   refine qOp_mono (fun a' h3=>ih (listed.setIfInBounds j true) a' (inv.set hj) PS (ready_mono hr (Ne.symm Fo)) h3.1 ?_) h2;rw [Array.setIfInBounds_comm _ _ Fo];exact h3.2
def lexHeadB(ops:Array Oper)(n:Nat)(fin:List Bool):Nat->Nat->Array Bool->Bool
 | 0,_,listed=>decide (listed.toList=fin)&&(Region.ready .any ops listed).all fun j=>Nat.ble n j
 | f+1,k,listed=>(Region.ready .any ops listed).contains k&&Region.free .any ops listed k&&lexHeadB ops n fin f (k+1) (listed.setIfInBounds k true)
def rq(l:List Oper)(n:Nat)(fin:List Bool):Bool :=
 Region.noSelect l.toArray&&Nat.ble n l.length&&decide ((pz l []).length=l.length)&&HN l n&&lexHeadB l.toArray n fin n 0 (Array.replicate l.length false)
theorem rr{n:Nat}{fin:List Bool}{Lq:Act->Prop}(Bx:Region.noSelect ops=true)(DH:∀ t j,n<=t->t<ops.size->j<n->Fl ops t j) :
  ∀ (l:List Oper) (k:Nat) (listed:Array Bool) (a:Act),(∀ j,j<l.length->l[j]?=ops[k+j]?)->k+l.length=n->Closed ops n listed ->
  lexHeadB ops n fin l.length k listed=true->wpQuiet P ops C Lq l a ->
  wpAnyH P ops C n (fun wu a'=>(wu.toList=fin/\∀ j∈Region.ready .any ops wu,n<=j)/\Lq a') l.length listed a
 | [],k,listed,a,_,hk,_,hB,h=>by
  simp only [aim,lexHeadB,aht,decide_eq_true_eq,ahM] at hB;exact⟨⟨hB.1,fun j hj=>ah3 (hB.2 j hj)⟩,h⟩
 | o::l,k,listed,a,hl,hk,inv,hB,h=>by
  have h0:ops[k]?=some o:=by simpa using (hl 0 ag).symm
  simp only [ahI,lexHeadB,aht] at hB;obtain⟨⟨hr,hf⟩,SK⟩:=hB;have yx:k<n:=by simp only [ahI] at hk;omega
  have ng:k∈Region.ready .any ops listed:=by simpa using hr
  have cH:qOp P ops C k (wpQuiet P ops C Lq l) a:=by unfold qOp;simp only [h0];exact h
  obtain⟨v,hy,hK⟩:=yieldsIn_of_qOp h0 cH;exact wpAnyH_first h0 (Region.noSelect_spec Bx) DH yx (fun wu a' hL=>hL.1.2) l.length listed a inv (Region.free_spec h0 hf) ng hy
   (rr Bx DH l (k+1) _ _ (fun j hj=>by have:=hl (j+1) (by simp;omega);simpa [aix,Nat.add_comm 1 j] using this) (by simp only [ahI] at hk;omega) (inv.set ng) SK hK)
theorem ru{id:Nat}{Q:Exit->Act->World->Prop}{a:Act}{w:World}{l:List Oper}(n:Nat)(fin:List Bool)(hm:P.follows .mixedOrders=true)(hB:rq l n fin=true)(hC:C { w with drawn:=w.drawn+1 })
  (h:wpQuiet P l.toArray C (fun a'=>∀ w',C w'->wpAny P .any l.toArray Q (l.length-n) fin.toArray a' w') (l.take n) a):(Code.region id l.toArray true).wp P Q a w:=by
 simp only [rq,aht,decide_eq_true_eq] at hB;obtain⟨⟨⟨⟨Bx,hn⟩,hlen⟩,hs⟩,XX⟩:=hB;have Bd:n<=l.length:=ah3 hn;have yF:(l.take n).length=n:=by simp;omega
 have XY:Closed l.toArray n (Array.replicate l.length false) :=
  ⟨ag,fun j oj _ hl=>(by rw [getD_replicate_false] at hl;cases hl)⟩
 have H:=rr (C:=C) (fin:=fin) Bx (fun t j ht yF hj=>yE hs hlen ht (by simpa using yF) hj) (l.take n) 0 _ a (fun j hj=>by
  have SL:j<n:=by rw [yF] at hj;exact hj
  simp [SL]) (by simpa using yF) XY (by rw [yF];exact XX) h
 refine wp_region_any hm ?_
 have:=rp (Q':=Q) (g:=l.length-n) (fun listed a' w' qU hL=>by
  have:=hL.2 w' qU
  rw [<- hL.1.1] at this
  simpa using this) _ _ _ _ hC H
 rw [yF,show n+(l.length-n)=l.toArray.size by simp;omega] at this;exact this
end
@[irreducible] def JA (S:Sys) (N:Nat) (ops:Array Oper) (fuel:Nat) (listed:List Bool) (K:St→Prop) (σ:St):Prop :=
 dstOk S N ops.toList=true->∀ (w0:World) (L0:Nat->aO) (Q:Exit->Act->World->Prop) (a:Act) (w:World),(∀ c (a:Act) (d:Option Nat) v w,(∀ t:Nat,d=some t->oC S N t)->Q (.panic c) (a.put d v) w->Q (.panic c) a w) ->
  OutJ S N w0 L0 K Q->Rel S w0 L0 N σ a w->wpAny S.P .any ops Q fuel listed.toArray a w
def bV(ops:List Oper)(listed:List Bool):List Nat :=
 (List.range ops.length).filter fun i=>!listed.getD i true&&((ops[i]?).map (·.after.toList.all fun e=>!Region.binds .any e||listed.getD e.on false)).getD false
theorem dR(l:List Oper)(listed:List Bool):Region.ready .any l.toArray listed.toArray=bV l listed:=by
 unfold Region.ready bV;simp
section
variable {S:Sys} {N:Nat} {σ:St} {K:St->Prop} {l:List Oper} {listed:List Bool} {fuel:Nat}
theorem JA.done(hr:(bV l listed).isEmpty=true)(h:K σ):JA S N l.toArray fuel listed K σ:=by
 unfold JA;intro _ w0 L0 Q a w _ hQ hR;exact wpAny_done (by rw [dR];simpa using hr) (hQ σ a w h hR) fuel
theorem gH(h:dstOk S N l=true)(ho:o∈l):dstOk S N [o]=true:=by
 simp only [dstOk,List.all_cons,List.all_nil,Bool.and_true];exact ahM.1 h o ho
theorem JA.op(ho:l[i]?=some o)(h:J false S N l.toArray [o] (JA S N l.toArray fuel (listed.set i true) K) σ)(hd:dstOk S N l=true){w0:World}{L0:Nat->aO}{Q:Exit->Act->World->Prop}{a:Act}{w:World}(hp:∀ c (a:Act) (d:Option Nat) v w,(∀ t:Nat,d=some t->oC S N t)->Q (.panic c) (a.put d v) w->Q (.panic c) a w)
  (hQ:OutJ S N w0 L0 K Q) (hR:Rel S w0 L0 N σ a w):wpOp S.P l.toArray Q i (wpAny S.P .any l.toArray Q fuel (listed.toArray.setIfInBounds i true)) a w:=by
 unfold J at h
 have h1:=h (gH hd (ahH ho)) w0 L0 (fun e a w=>match e with
  | .normal=>wpAny S.P .any l.toArray Q fuel (listed.set i true).toArray a w
  | e=>Q e a w) a w ⟨fun bx a' w' hK gi=>by
   unfold JA at hK
   exact hK hd w0 L0 Q a' w' hp hQ gi,fun ch a' w' hd=>hQ.die ch a' w' hd⟩ hR
 unfold wpOp;have ho':l.toArray[i]?=some o:=by simpa using ho
 simp only [ho'];have e:listed.toArray.setIfInBounds i true=(listed.set i true).toArray:=ag;rw [e];unfold wpList at h1;exact h1
theorem JA.all(rs:List Nat)(hr:bV l listed=rs)(cr:rs.isEmpty=false)(h:∀ i∈rs,∃ o,l[i]?=some o/\J false S N l.toArray [o] (JA S N l.toArray fuel (listed.set i true) K) σ):JA S N l.toArray (fuel+1) listed K σ:=by
 unfold JA;intro hd w0 L0 Q a w hp hQ hR;have gT:dstOk S N l=true:=by simpa using hd
 refine wpAny_all (rs:=rs) (by rw [dR];exact hr) (fun e=>by subst e;cases cr) fun i hi=>?_;obtain⟨o,ho,hj⟩:=h i hi;exact JA.op ho hj gT hp hQ hR
theorem JA.one(hr:bV l listed=[i])(ho:l[i]?=some o)(h:J false S N l.toArray [o] (JA S N l.toArray fuel (listed.set i true) K) σ):JA S N l.toArray (fuel+1) listed K σ :=
 .all [i] hr rfl fun j hj=>by simp only [ahL] at hj;subst hj;exact⟨o,ho,h⟩
theorem JA.two{j:Nat}{o':Oper}(hr:bV l listed=[i,j])(ho:l[i]?=some o)(ho':l[j]?=some o')(h:J false S N l.toArray [o] (JA S N l.toArray fuel (listed.set i true) K) σ)(h':J false S N l.toArray [o'] (JA S N l.toArray fuel (listed.set j true) K) σ):JA S N l.toArray (fuel+1) listed K σ :=
 .all [i,j] hr rfl fun k hk=>by
  simp only [ah1,aiK,or_false] at hk;rcases hk with rfl|rfl
  ·exact⟨o,ho,h⟩
  ·exact⟨o',ho',h'⟩
theorem JA.take{bx:St}{x:Operand}(ho:l[i]?=some o)(hx:o.op=.move x∨o.op=.assign x)(hg:o.guard=none)(hB:(Region.noSelect l.toArray&&Region.free .any l.toArray listed.toArray i&&(bV l listed).contains i)=true)(hs:Step S o σ bx)(h:JA S N l.toArray fuel (listed.set i true) K bx):
  JA S N l.toArray (fuel+1) listed K σ:=by
 unfold JA at h ⊢;intro dI w0 L0 Q a w hp hQ hR;simp only [aht] at hB;have yc:=(aU (gH (by simpa using dI) (ahH ho))).1;obtain⟨v,hv,gi⟩:=hs w0 L0 N a w yc hR;have aD:∀ w,(execOp a.eval o).run S.P w=.ok (.value (a.eval x)) w:=fun w=>by rcases hx with hx|hx<;>simp [execOp,hx]
 have tN:a.eval x=v:=by
  have:=hv w (Ext.refl w);rw [aD] at this;cases this;rfl
 have h1:=h dI w0 L0 Q _ w hp hQ gi;refine wpAny_take (by simpa using ho) hB.1.1 hB.1.2 (by rw [dR];exact hB.2) (fun c a w h=>hp c a _ _ w yc h) (.inl ⟨by unfold Region.wanted;rw [hg],fun w=>by rw [aD,tN]⟩) ?_;have e:listed.toArray.setIfInBounds i true=(listed.set i true).toArray:=ag;rw [e];exact h1
theorem CW.PT(n:Nat)(fin:List Bool)(hB:rq l n fin=true)(hd:dstOk S N l=true)(h:J true S N l.toArray (l.take n) (JA S N l.toArray (l.length-n) fin (Q .normal)) σ):CW S N (.region id l.toArray true) Q σ:=by
 unfold CW;unfold J at h;intro w0 L0 Q' a w hQ hR;refine Code.wp_mono (Q:=fun e a w=>match e with|.panic c=>mw S N w0 L0 c a w|e=>Q' e a w) (fun e a w he=>?_) ?_
 ·cases e<;>first|exact he|exact hQ.die _ _ _ he
 refine ru (C:=Ext w) n fin S.mixed hB ⟨rfl,rfl,rfl,ahr _,fun _ _=>rfl⟩ ?_;refine h (by unfold dstOk at *;rw [ahM] at *;exact fun o ho=>hd o (aii ho)) w0 L0 _ a w (fun bx a' hK gi w' qU=>?_) hR;unfold JA at hK;exact hK (by simpa using hd) w0 L0 _ a' w' (fun c a d v w hd h=>mw.put hd h) ⟨fun bx a' w' hk hr=>hQ _ _ _ _ hk hr,fun ch a' w' hd=>hd⟩ (gi.ext qU)
theorem JA.seq{k:Nat}{g:Nat}(hg:(l.drop k).length=g)(hB:Region.seqB .any l.toArray g k listed.toArray=true)(h:J false S N l.toArray (l.drop k) K σ):JA S N l.toArray g listed K σ:=by
 unfold JA;unfold J at h;intro hd w0 L0 Q a w _ hQ hR;subst hg;refine wpAny_of_seq (md:=.any) (l.drop k) k listed.toArray a w (fun j=>by simp [ah5]) hB ?_;exact h (by unfold dstOk at *;rw [ahM] at *;exact fun o ho=>hd o (by simpa using List.mem_of_mem_drop ho)) w0 L0 Q a w hQ hR
def DI(l:List Oper)(n:Nat):List Bool:=List.replicate n true++List.replicate (l.length-n) false
theorem CW.T7{id:Nat}{Q:Exit->St->Prop}(m:Nat)(hB:(rq l (l.length-m) (DI l (l.length-m))&&Region.seqB .any l.toArray (l.length-(l.length-m)) (l.length-m) (DI l (l.length-m)).toArray)=true)(hd:dstOk S N l=true)
  (h:J true S N l.toArray (l.take (l.length-m)) (J false S N l.toArray (l.drop (l.length-m)) (Q .normal)) σ):CW S N (.region id l.toArray true) Q σ:=by
 rw [aht] at hB;refine CW.PT (l.length-m) (DI l (l.length-m)) hB.1 hd ?_;have:∀ bx,J false S N l.toArray (l.drop (l.length-m)) (Q .normal) bx->JA S N l.toArray (l.length-(l.length-m)) (DI l (l.length-m)) (Q .normal) bx:=fun bx h'=>JA.seq ag hB.2 h';unfold J at h ⊢;exact fun hd w0 L0 Q a w hQ hR=>h hd w0 L0 Q a w (fun bx a' hK gi=>hQ bx a' (this bx (by unfold J;exact hK)) gi) hR
theorem CW.PU(gg:Nat)(hg:l.length=gg)(fin:List Bool)(hB:rq l 0 fin=true)(hd:dstOk S N l=true)(h:JA S N l.toArray gg fin (Q .normal) σ):CW S N (.region id l.toArray true) Q σ:=by
 subst hg;exact CW.PT 0 fin hB hd (J.nil h)
theorem CW.cut{c y:Code}(I:List (Nat×TV))(h1:CW S N c (fun e bx=>e=.normal/\Has bx I) σ)(h2:CW S N y Q (jc I)):CW S N c (pw (CW S N y Q) Q) σ :=
 h1.mono fun e bx ⟨he,hI⟩=>by subst he;exact CW.has I hI h2
end
end FM
