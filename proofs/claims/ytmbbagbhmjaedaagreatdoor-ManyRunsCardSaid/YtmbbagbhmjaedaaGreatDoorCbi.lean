/- Part of the proof. -/
import Derived.Test.YtmbbagbhmjaedaaGreatDoorCbc
set_option linter.all false
namespace FM
open Go Go.RowKit
variable {t b:Nat}{x:Operand}{ms fs:List (Nat×Nat)}{L:Nat->aO}{y:AV}{cs:List AV}
def zn(ms:List (Nat×Nat))(L:Nat->aO):Nat->aO:=fun b=>match L b with
 | .my (t::q)=>match idxM ms t with
  | some i=>.my (i::q)
  | none=>.fo
 | .my []=>.fo
 | l=>l
theorem oS{ms:List (Nat×Nat)}{L:Nat->aO}{b:Nat}{p:List Nat}(h:zn ms L b=.my p):∃ t i q,L b=.my (t::q)/\idxM ms t=some i/\p=i::q:=by
 unfold zn at h
 cases hL:L b with
 | my p' =>
  rw [hL] at h
  cases p' with
  | nil=>cases h
  | cons t q =>
   simp only at h
   cases hi:idxM ms t with
   | some i=>rw [hi] at h;injection h with h;exact⟨t,i,q,rfl,hi,h.symm⟩
   | none=>rw [hi] at h;cases h
 | sh=>rw [hL] at h;cases h
 | fo=>rw [hL] at h;cases h
theorem QL{i:Nat}{q:List Nat}(h:L b=.my (t::q))(hi:idxM ms t=some i):zn ms L b=.my (i::q):=by simp only [zn,h,hi]
theorem Im{q:List Nat}(h:L b=.my (t::q))(hi:idxM ms t=none):zn ms L b=.fo:=by simp only [zn,h,hi]
theorem wY(h:L b=.sh):zn ms L b=.sh:=by simp only [zn,h]
theorem Io(h:L b=.fo):zn ms L b=.fo:=by simp only [zn,h]
theorem Mm{ms:List (Nat×Nat)}{L:Nat->aO}{b:Nat}(h:zn ms L b=.fo):L b=.fo∨∃ p,L b=.my p:=by
 unfold zn at h
 cases hL:L b with
 | my p=>exact .inr ⟨p,rfl⟩
 | sh=>rw [hL] at h;cases h
 | fo=>exact .inl rfl
section
variable {S:Sys} {N:Nat} {σ:St}
theorem zo{w0:World}{L0:Nat->aO}{a:Act}{w:World}(hR:RelL S w0 L0 N σ a w L){d:Nat}(hd:oC S N d){n:Nat}(iM:N6 d n ms){xs9':List AV}{r:AV}{vs:List Value}{v:Value}{w':World}{L':Nat->aO}(hB:tW n xs9' r (zn ms L) w vs v w' L')
  (hm:∀ s i,idxM ms s=some i->s<N/\vs[i]?=some (a.tmps.getD s undef)/\∃ y,xs9'[i]?=some y):Rel S w0 L0 N (lS ms xs9' (σ.put d (.av r))) (a.put (some d) v) w':=by
 have px:∀ b p,b<w.heap.size->L' b=.my p->∃ q,zn ms L b=.my q:=hB.lok.old;have H7:∀ b,b<w.heap.size->(∀ q,zn ms L b≠.my q)->(∀ q,L' b≠.my q)/\w'.heap[b]?=w.heap[b]?:=fun b hb dJ=>⟨fun q hq=>by obtain⟨q',yd⟩:=px b q hb hq;exact dJ q' yd,hB.keep.block b hb dJ⟩;have kx:∀ b,L b=.sh->b<w.heap.size->iv n d ms w.heap.size L L' b=.sh/\w'.heap[b]?=w.heap[b]?:=fun b hb aA=>by
  obtain⟨h1,h2⟩:=H7 b aA (fun q hq=>by rw [wY hb] at hq;cases hq);exact⟨DZ hb h1,h2⟩
 have UA:∀ b,L' b=.sh->iv n d ms w.heap.size L L' b=.sh:=fun b hb=>by
  unfold iv;rw [hb];dsimp only;split
  ·rename_i aA;have dJ:zn ms L b≠.fo:=fun e=>by have:=(hB.lok.fo b aA).2 e;rw [hb] at this;cases this
   cases hL:L b with
   | my p =>
    cases p with
    | nil=>rfl
    | cons t q =>
     cases hi:idxM ms t with
     | none=>exact absurd (Im hL hi) dJ
     | some i=>simp [hi]
   | sh=>rfl
   | fo=>exact absurd (Io hL) dJ
  ·rfl
 have hold:∀ b t q,L b=.my (t::q)->(t≠d/\idxM ms t=none)->iv n d ms w.heap.size L L' b=.my (t::q)/\w'.heap[b]?=w.heap[b]?:=fun b t q hb ⟨h1,h2⟩=>by
  have aA:=hR.lok.lt b _ hb;obtain⟨h3,h4⟩:=H7 b aA (fun q hq=>by rw [Im hb h2] at hq;cases hq);exact⟨yT hb aA h3 h1 h2,h4⟩
 have KH:∀ t,t≠d->(a.put (some d) v).tmps.getD t undef=a.tmps.getD t undef:=fun t ht=>ay (fun e=>ht e.symm)
 refine⟨iv n d ms w.heap.size L L',hR.defers,by simp [Act.put,hR.size],⟨hB.keep.os.trans hR.keep.os,hB.keep.tape.trans hR.keep.tape,hB.keep.output.trans hR.keep.output,ahZ hR.keep.size hB.keep.size,fun b hb dJ=>?_⟩,
  ⟨fun b p hb=>?_,fun b b' p hb bI=>?_,fun b p hb=>?_,fun b p aA hb=>?_,fun b aA=>?_,fun b hge hf=>?_⟩,fun m tY=>?_,fun m tY=>?_,fun i hi=>(ay (hd.ne hi)).trans (hR.fix i hi),hR.glob⟩
 ·have aA:=ahv hb hR.keep.size;refine(hB.keep.block b aA fun p hp=>?_).trans (hR.keep.block b hb dJ);obtain⟨t,i,q,h1,_,_⟩:=oS hp;obtain⟨q',h2⟩:=hR.lok.old b _ hb h1;exact dJ q' h2
 ·rcases fp hb with⟨q,h1,_⟩|⟨k,s,q,h1,_⟩|⟨h1,_⟩
  ·exact hB.lok.lt b _ h1
  ·exact hB.lok.lt b _ h1
  ·exact ahv h1 hB.keep.size
 ·rcases fp hb with⟨q,h1,h2⟩|⟨k,s,q,h1,h2,h3,h4⟩|⟨h1,h2,t,q,h3,h4,h5,h6⟩<;>rcases fp bI with⟨q',nj,kh⟩|⟨k',s',q',nj,kh,mA,qc⟩|⟨nj,kh,t',q',mA,qc,BG,qd⟩
  ·rw [h2] at kh;cases kh;exact hB.lok.inj _ _ _ h1 nj
  ·rw [h2] at qc;cases qc;have:=iM.inv' _ _ mA;rw [iM.nd] at this;cases this
  ·rw [h2] at qd;cases qd;exact absurd rfl qc
  ·rw [h4] at kh;cases kh;have:=iM.inv' _ _ h3;rw [iM.nd] at this;cases this
  ·rw [h4] at qc;cases qc;have e1:=iM.inv' _ _ h3;have e2:=iM.inv' _ _ mA;rw [e1] at e2;cases e2;exact hB.lok.inj _ _ _ h1 nj
  ·rw [h4] at qd;cases qd;have:=iM.inv' _ _ h3;rw [BG] at this;cases this
  ·rw [h6] at kh;cases kh;exact absurd rfl h4
  ·rw [h6] at qc;cases qc;have:=iM.inv' _ _ mA;rw [h5] at this;cases this
  ·rw [h6] at qd;cases qd;exact hR.lok.inj _ _ _ h3 mA
 ·rcases fp hb with⟨q,_,h2⟩|⟨k,s,q,_,_,_,h2⟩|⟨_,_,t,q,_,_,_,h2⟩<;>(subst h2;simp)
 ·have iu:=ahv aA hR.keep.size;have up:∀ p',L' b=.my p'->∃ q,L0 b=.my q:=fun p' vU=>by
   obtain⟨q,hq⟩:=px b _ iu vU;obtain⟨t,i,q2,h1,_,_⟩:=oS hq;exact hR.lok.old b _ aA h1
  rcases fp hb with⟨q,h1,_⟩|⟨k,s,q,h1,_⟩|⟨_,_,t,q,h1,_⟩
  ·exact up _ h1
  ·exact up _ h1
  ·exact hR.lok.old b _ aA h1
 ·have iu:=ahv aA hR.keep.size;refine⟨fun h=>(hR.lok.fo b aA).1 (qG h).2,fun h=>?_⟩;have h1:=(hR.lok.fo b aA).2 h;have h2:=(hB.lok.fo b iu).2 (Io h1);exact yU h1 iu (fun q hq=>by rw [h2] at hq;cases hq)
 ·obtain⟨_,h2⟩:=qG hf;exact hR.lok.new b hge h2
 ·rcases getM (xs9:=xs9') (σ:=σ.put d (.av r)) (n:=m) (ms:=ms) with⟨i,h1,h2⟩|⟨h1,h2|⟨h2,h3⟩⟩
  ·obtain⟨ja,Yw,y,hy⟩:=hm m i h1;rw [h2,ahK,hy];have FD:m≠d:=fun e=>by subst e;rw [iM.nd] at h1;cases h1
   rw [KH m FD];have h0:=hB.args i y _ hy Yw;have Yy:=iM.lt m i h1;exact h0.frame (ahr _) rfl rfl rfl (fun b hb _=>⟨UA b hb,rfl⟩) _ fun p hp=>by
    cases hp;exact⟨[m],rfl,fun b q hb=>⟨yS hb ae (iM.inv _ _ h1),rfl⟩⟩
  ·rw [h2];trivial
  ·rw [h2];simp only [FM.get,aY] at h3 ⊢;by_cases FD:d=m
   ·subst FD;rw [ahy,cond_true];have:(a.put (some d) v).tmps.getD d undef=v:=bJ (by rw [hR.size];exact hd.lt);rw [this];exact hB.res.frame (ahr _) rfl rfl rfl (fun b hb _=>⟨UA b hb,rfl⟩) _ fun p hp=>by
     cases hp;exact⟨[d],rfl,fun b q hb=>⟨yR hb,rfl⟩⟩
   ·rw [au FD,cond_false] at h3 ⊢
    cases b6:(FM.get σ m).dep d with
    | true=>trivial
    | false =>
     rw [b6,cond_false] at h3;rw [cond_false,KH m (fun e=>FD e.symm)];have hg:∀ t,(FM.get σ m).dep t=true->t≠d/\idxM ms t=none:=fun t ht=>by
      refine⟨fun e=>?_,?_⟩
      ·subst e;rw [b6] at ht;cases ht
      ·cases hi:idxM ms t with
       | none=>rfl
       | some i=>have:=h3 t (by rw [hi];rfl);rw [this] at ht;cases ht
     exact Hold.cG (good:=fun t=>t≠d/\idxM ms t=none) hB.keep.size hB.keep.os hB.keep.tape hB.keep.output kx hold (fun t ht=>KH t ht.1) ⟨fun e=>FD e.symm,h1⟩ hg (hR.hold m tY)
 ·rcases getM (xs9:=xs9') (σ:=σ.put d (.av r)) (n:=m) (ms:=ms) with⟨i,h1,h2⟩|⟨h1,h2|⟨h2,h3⟩⟩
  ·have:=(hm m i h1).1;omega
  ·exact h2
  ·rw [h2];simp only [FM.get,aY];rw [au (show d≠m by have:=hd.lt;omega),cond_false,hR.out m tY];rfl
theorem J.UB{P:Program}{f:Nat}{x x':AV}{rest:List AV}{r:AV}{op:Operand}{xs:List Operand}{ops:Array Oper}{l:List Oper}{K:St->Prop}{d s ty:Nat}{ts:Array Nat}{pos:String}{aft:Array Edge}{g:Option (Nat×Bool)}(hs:FnSpec P f (x::rest) (x'::rest) r)(hP:P=S.P)(hg:live ops g σ=some true)
  (h1:fN σ op=some s) (h2:FM.get σ s=.av x) (h3:Nat.beq s d=false) (ha:aV S N σ xs false rest) (h:J false S N ops l K ((σ.put d (.av r)).put s (.av x'))) :
  J false S N ops (⟨some d,.call ⟨.value (.func f),(op::xs).toArray,ts⟩,ty,pos,aft,g⟩::l) K σ:=by
 subst hP;unfold J at *;intro dI w0 L0 Q a w hQ hR;obtain⟨g1,g2⟩:=aU dI;have hd:=g1 d rfl;have hw:=ba (o:=⟨some d,.call ⟨.value (.func f),(op::xs).toArray,ts⟩,ty,pos,aft,g⟩) hg hR;simp only [wpList,hw,if_true];refine .inl ?_;unfold Oper.wp;rw [jf (xs:=op::xs) hs.ok rfl rfl w,Oper.upon_enter];obtain⟨L,hR⟩:=hR;have hlen:=ha.length;have iM:N6 d (xs.length+1) [(s,0)]:=.one h3 (by simp [Nat.blt]);have S1:idxM [(s,0)] s=some 0:=by simp [idxM,ahy]
 have mem:∀ {s' i:Nat},idxM [(s,0)] s'=some i->s'=s/\i=0:=fun{s' i} hi=>by
  simp only [idxM] at hi
  cases hb:Nat.beq s s' with
  | true=>rw [hb,cond_true] at hi;injection hi with hi;exact⟨(ahz hb).symm,hi.symm⟩
  | false=>rw [hb,cond_false] at hi;cases hi
 obtain⟨e1,e2,e3⟩:=jm h1 h2 hR;have rY:=hs.calls w (zn [(s,0)] L) ((op::xs).map a.eval) (by rw [ahu,ahI,ahI,hlen]);rw [show(x::rest).length=xs.length+1 by rw [ahI,hlen]] at rY;refine(rY ⟨fun b p hb=>?_,fun b p hb=>?_,fun b b' p hb bI=>?_,fun b hge hf=>?_,hR.gh.move (ahr _) fun b _ h=>⟨wY h,rfl⟩⟩ (fun i y v hy hv=>?_)).mono fun e w' ⟨v,L',he,hB⟩=>?_
 ·obtain⟨t,i,q,h3,_,_⟩:=oS hb;exact hR.lok.lt b _ h3
 ·obtain⟨t,i,q,_,h3,h4⟩:=oS hb;exact⟨i,q,h4,iM.lt _ _ h3⟩
 ·obtain⟨t,i,q,h3,h4,h5⟩:=oS hb;obtain⟨t',i',q',mA,qc,BG⟩:=oS bI;rw [h5] at BG;cases BG;have e1:=iM.inv _ _ h4;have e2:=iM.inv _ _ qc;rw [e1] at e2;cases e2;exact hR.lok.inj _ _ _ h3 mA
 ·rcases Mm hf with h|⟨p,h⟩
  ·exact hR.lok.new b (ahZ hR.keep.size hge) h
  ·have:=hR.lok.lt b _ h;omega
 ·cases i with
  | zero =>
   simp only [aiw,ahq,ahp] at hy hv;subst hy;subst hv;exact e3.frame (ahr _) rfl rfl rfl (fun b hb _=>⟨wY hb,rfl⟩) _ fun p hp=>by
    cases hp;exact⟨[0],rfl,fun b q hb=>⟨QL hb S1,rfl⟩⟩
  | succ i =>
   simp only [aiw,ahP,ahE,ahs] at hy hv;obtain⟨z,hz,rfl⟩:=hv;obtain⟨c,h5,h6⟩:=ha.get i z y hz hy;have hc:=h6 rfl;subst hc;exact(h5.NQ hR fun b _ hb=>wY hb).any _
 ·subst he;have:=zo hR hd iM hB fun s' i hi=>by
   obtain⟨rfl,rfl⟩:=mem hi;exact⟨e1,by simp [e2],x',rfl⟩
  exact h g2 w0 L0 Q _ w' hQ this
end
theorem StepW.QM{S:Sys}{σ bx:St}{o:Oper}(hx:o.op=.move x∨o.op=.assign x)(h:Step S o σ bx):StepW S o σ bx:=by
 intro w0 L0 N a w hN hR;obtain⟨v,h1,h2⟩:=h w0 L0 N a w hN hR;refine⟨v,fun w'=>?_,h2⟩;have aD:∀ w,(execOp a.eval o).run S.P w=.ok (.value (a.eval x)) w:=fun w=>by rcases hx with hx|hx<;>simp [execOp,hx]
 have h3:=h1 w (Ext.refl w);rw [aD] at h3 ⊢;cases h3;rfl
section
variable {S:Sys} {σ:St} {d:Nat} {ty:Nat} {pos:String} {aft:Array Edge} {g:Option (Nat×Bool)}
theorem wZ{e c sz cA:Nat}{z:List AV}{ti:TI}{i:Operand}{xs:List AV}{n:Int}{y:AV}(hx:ov σ x=.av (.sl false c xs))(hi:ov σ i=.av (.int n))(hT:S.T t=some ⟨.slice e,sz,cA,z⟩)(hE:S.T e=some ti)(hc:ti.size=c)
  (h0:0<=n) (hy:xs[n.toNat]?=some y):StepW S ⟨some d,.indexAddr t x i,ty,pos,aft,g⟩ σ (σ.put d (.dptr y)):=by
 intro w0 L0 N a w hN ⟨L,hR⟩;obtain⟨m,hm⟩:=cU hR hx;obtain⟨b,off,cap,hv,hb,aA,⟨_,hL,bt⟩|⟨h,_⟩⟩:=gQ hm hy
 ·refine⟨.pointer (some ⟨b,off+n.toNat*c,none⟩),fun w'=>?_,Rel.aT (n:=d) hR (hN d rfl) rfl rfl ⟨b,off+n.toNat*c,rfl,hL,hb,bt⟩⟩;subst hc;simp only [execOp,hv,eu hR hi,Sem.run_bind,iw (S.ok t _ hT).slice (S.ok e _ hE).size h0 aA];rfl
 ·cases h
theorem BU{sz cA i off gn s q:Nat}{zz:List AV}{jG:TI}(hq:get σ q=.ref s)(hs:get σ s=.av (.pt true cs))(hT:S.T t=some ⟨.struct fs,sz,cA,zz⟩)(hf:fs[i]?=some (off,gn))(hF:S.T gn=some jG)(hc:Nat.beq jG.size 0=false)(hy:cs[off]?=some y)(h1:y.cells=[y])(c8:Nat.beq s d=false):
  StepW S ⟨some d,.fieldAddr t (.tmp q) i,ty,pos,aft,g⟩ σ (σ.put d (.fpt s off y)):=by
 intro w0 L0 N a w hN ⟨L,hR⟩;have hh:=hR.hold s (aJ hR hs ag);have P7:=hR.hold q (aJ hR hq ag);rw [hs] at hh;rw [hq] at P7;simp only [Hold] at hh P7;obtain⟨b,hL,hp,_,bt⟩:=fy hh;obtain⟨fields,f,hu,qa,h2,h3⟩:=(S.ok t _ hT).fld hf;have cn:a.eval (.tmp q)=.pointer (some ⟨b,0,none⟩):=P7.trans hp;have bc:=(S.ok gn _ hF).size;rw [<- h3] at bc;refine⟨.pointer (some ⟨b,0+f.offset,none⟩),fun w'=>?_,Rel.aT (n:=d) hR (hN d rfl) rfl c8 ⟨b,hL,by rw [h2];simp,fun _ j z hz=>?_⟩⟩
 ·simp only [execOp,cn,Sem.run_bind,bR hu qa bc (aC hc)];rfl
 ·rw [h1] at hz
  cases j with
  | zero=>simp only [ahq,ahp] at hz;subst hz;simpa using bt off _ hy
  | succ j=>simp at hz
theorem BV{s:Nat}{o:Bool}(hx:ov σ x=.ref s)(hs:get σ s=.av (.pt o cs))(c8:Nat.beq s d=false):StepW S ⟨some d,.nilCheck x,ty,pos,aft,g⟩ σ (σ.put d (.ref s)):=by
 intro w0 L0 N a w hN ⟨L,h⟩;obtain⟨m,hm,_⟩:=aM h hx ag;simp only [Hold] at hm;have hh:=h.hold s (aJ h hs ag);rw [hs,<-hm] at hh;obtain⟨ad,hv⟩:∃ ad,a.eval x=.pointer (some ad):=by generalize a.eval x=v at hh;cases hh<;>exact⟨_,rfl⟩
 refine⟨a.eval x,fun w'=>?_,_,h.put (hN d rfl) ?_⟩
 ·simp [execOp,hv]
 ·simp only [Hold];rw [hm,ay (fun e=>aC c8 e.symm)]
theorem r9{t2:Nat}{y:Operand}{a b:List UInt8}(hx:ov σ x=.av (.str a))(hy:ov σ y=.av (.str b))(hl:a.length+b.length<=9223372036854775807):StepW S ⟨some d,.binOp .add t x y t2,ty,pos,aft,g⟩ σ (σ.put d (.av (.str (a++b)))):=fun w0 L0 N c w hN ⟨L,hR⟩ =>
 ⟨.string ⟨(a++b).toArray⟩,fun w'=>by
  have h0:¬ (((a.length+b.length:Nat):Int)>IntKind.i64.max):=by simp only [IntKind.max,IntKind.signed,IntKind.bits,if_true];omega
  have e:(⟨a.toArray⟩:ByteArray)++⟨b.toArray⟩=⟨(a++b).toArray⟩:=by apply ByteArray.ext;simp
  simp only [execOp,kD hR hx,kD hR hy,Sem.run_bind,eqGuard,binOp,Op.stringOp,cK,h0,if_false,e]
  rfl,Rel.aT (n:=d) hR (hN d rfl) rfl rfl .str⟩
theorem w8{sz cA i off gn:Nat}{zz:List AV}{jG:TI}(hx:ov σ x=.dptr (.agg cs))(hT:S.T t=some ⟨.struct fs,sz,cA,zz⟩)(hf:fs[i]?=some (off,gn))(hF:S.T gn=some jG)(hc:Nat.beq jG.size 0=false)(hy:cs[off]?=some y)(h1:y.cells=[y]):
  StepW S ⟨some d,.fieldAddr t x i,ty,pos,aft,g⟩ σ (σ.put d (.dptr y)):=by
 intro w0 L0 N a w hN ⟨L,hR⟩;obtain⟨_,⟨b,o,hv,hb,aA,bt⟩,_⟩:=aM hR hx ag;obtain⟨fields,f,hu,qa,h2,h3⟩:=(S.ok t _ hT).fld hf;have bc:=(S.ok gn _ hF).size;rw [<- h3] at bc;refine⟨.pointer (some ⟨b,o+f.offset,none⟩),fun w'=>?_,Rel.aT (n:=d) hR (hN d rfl) rfl rfl ⟨b,o+f.offset,rfl,hb,aA,fun j z hz=>?_⟩⟩
 ·simp only [execOp,hv,Sem.run_bind,bR hu qa bc (aC hc)];rfl
 ·rw [h1] at hz
  cases j with
  | zero=>simp only [ahq,ahp] at hz;subst hz;rw [h2];exact bt off _ hy
  | succ j=>simp at hz
end
section
variable {S:Sys} {N:Nat} {σ:St} {K:St->Prop} {l:List Oper} {listed:List Bool} {fuel:Nat}
theorem JA.three{i j k:Nat}{o1 o2 o3:Oper}(hr:bV l listed=[i,j,k])(h1:l[i]?=some o1)(h2:l[j]?=some o2)(h3:l[k]?=some o3)(g1:J false S N l.toArray [o1] (JA S N l.toArray fuel (listed.set i true) K) σ)(g2:J false S N l.toArray [o2] (JA S N l.toArray fuel (listed.set j true) K) σ)(g3:J false S N l.toArray [o3] (JA S N l.toArray fuel (listed.set k true) K) σ):JA S N l.toArray (fuel+1) listed K σ :=
 .all [i,j,k] hr rfl fun x hx=>by
  simp only [ah1,aiK,or_false] at hx;rcases hx with rfl|rfl|rfl
  ·exact⟨_,h1,g1⟩
  ·exact⟨_,h2,g2⟩
  ·exact⟨_,h3,g3⟩
end
theorem Xd{S:Sys}{N:Nat}{ops:Array Oper}{f:Nat}{L:List Bool}{K:St->Prop}{σ:St}(h:JA S N ops f L K σ):JA S N ops f L K σ:=h
theorem aV.UC{S:Sys}{N:Nat}{σ:St}{xs:List Operand}{ys:List AV}(h:aX S N σ x false y)(r:aV S N σ xs false ys):aV S N σ (x::xs) false (y::ys):=.cons h r
theorem Xe{A B:Prop}{P:Program}{f:Nat}{x:AV}{rest:List AV}{r:AV}(hs:FnSpec P f (x::rest) (y::rest) r)(g:B)(h:FnSpec P f (x::rest) (y::rest) r->Wr B->A:=by intro SQ g9;first|exact J.UB SQ rfl rfl rfl rfl rfl (by repeat' (first|exact aV.nil|apply aV.UC|exact aX.pl rfl rfl)) g9.out|fail):A:=h hs ⟨g⟩
end FM
