/- Part of the proof. -/
import Derived.Test.YtmbbagbhmjaedaaGreatDoorCbh
import Derived.Test.YtmbbagbhmjaedaaGreatDoorCbi
import Derived.Test.YtmbbagbhmjaedaaGreatDoorCbf
set_option linter.all false
set_option maxRecDepth 10000
set_option maxHeartbeats 1600000
namespace FM
open Go Go.RowKit
variable {S:Sys}{N t s fuel:Nat}{σ:St}{l:List Oper}{K:St->Prop}{listed:List Bool}{x:Operand}{cs:List AV}{fs:List (Nat×Nat)}{Q:Exit->St->Prop}
section
variable {S:Sys} {σ:St} {d:Nat} {ty:Nat} {pos:String} {aft:Array Edge} {g:Option (Nat×Bool)}
theorem jS{o:Nat}{ti:TI}{y:AV}(hx:ov σ x=.fpt s o y)(hs:FM.get σ s=.av (.pt true cs))(hT:S.T t=some ti)(Ht:cs[o]?=some y)(hf:y.fits ti=true)(hy:y≠.dead)(h1:y.cells=[y])(c8:Nat.beq s d=false):
  Step S ⟨some d,.load t x,ty,pos,aft,g⟩ σ (σ.put d (.rref s o y)):=by
 intro w0 L0 N a w hN ⟨L,hR⟩;have hh:=hR.hold s (aJ hR hs ag);rw [hs] at hh;simp only [Hold] at hh;obtain⟨b,hL,Ft,aA,bt⟩:=fy hh;obtain⟨_,⟨b',fS,cn,_⟩,_⟩:=aM hR hx ag;have:=hR.lok.inj _ _ _ hL fS;subst this
 obtain⟨v,h2,h3,h4⟩:=dA (S.ok t ti hT) hf (off:=o) aA (fun cs e=>by
  subst e
  exfalso
  have h2:SizeOf.sizeOf cs=SizeOf.sizeOf [AV.agg cs]:=congrArg SizeOf.sizeOf h1
  simp at h2
  omega) (π:=fun j=>some ([s]++[o+j])) (fun j z hz=>by
   rw [h1] at hz
   cases j with
   | zero=>simp only [ahq,ahp] at hz;subst hz;exact bt o y Ht
   | succ j=>simp at hz)
 exact⟨v,fun w' e=>by simp only [execOp,cn,Instr.loadAt,Instr.sureAddr];simp [h2 w' e],Rel.aT (n:=d) hR (hN d rfl) rfl c8 ⟨b,hL,h4 h1,fun _=>by simpa using h3⟩⟩
theorem sa{t sz cA i off gn s:Nat}{fs:List (Nat×Nat)}{zz cs ys:List AV}{jG:TI}{x:Operand}(hq:x=.tmp s)(hs:FM.get σ s=.av (.pt true cs))(hT:S.T t=some ⟨.struct fs,sz,cA,zz⟩)(hf:fs[i]?=some (off,gn))(hF:S.T gn=some jG)(hc:Nat.beq jG.size 0=false)(hy:(cs.drop off).take jG.size=ys)(h12:Nat.blt 1 jG.size=true)(c8:Nat.beq s d=false) :
  Step S ⟨some d,.fieldAddr t x i,ty,pos,aft,g⟩ σ (σ.put d (.fpt s off (.agg ys))):=by
 subst hq;intro w0 L0 N a w hN ⟨L,hR⟩;have hh:=hR.hold s (aJ hR hs ag);rw [hs] at hh;simp only [Hold] at hh;obtain⟨b,hL,hp,_,bt⟩:=fy hh;obtain⟨fields,f,hu,qa,h2,h3⟩:=(S.ok t _ hT).fld hf;have cn:a.eval (.tmp s)=.pointer (some ⟨b,0,none⟩):=hp;have bc:=(S.ok gn _ hF).size;rw [<- h3] at bc;refine⟨.pointer (some ⟨b,0+f.offset,none⟩),fun w' _=>?_,Rel.aT (n:=d) hR (hN d rfl) rfl c8 ⟨b,hL,by rw [h2];simp,fun _ j z hz=>?_⟩⟩
 ·simp only [execOp,cn,Sem.run_bind,bR hu qa bc (aC hc)];rfl
 ·have hz:ys[j]?=some z:=hz;rw [<- hy,aiq] at hz;split at hz
  ·rw [ah5] at hz;exact bt (off+j) z hz
  ·cases hz
theorem BW{sz cA i off gn:Nat}{zz ys:List AV}{jG:TI}(hq:x=.tmp s)(hs:FM.get σ s=.av (.pt true cs))(hT:S.T t=some ⟨.struct fs,sz,cA,zz⟩)(hf:fs[i]?=some (off,gn))(hF:S.T gn=some jG)(hc:Nat.beq jG.size 0=false)(hy:(cs.drop off).take jG.size=ys)(h12:Nat.blt 1 jG.size=true)(c8:Nat.beq s d=false):
  StepW S ⟨some d,.fieldAddr t x i,ty,pos,aft,g⟩ σ (σ.put d (.fpt s off (.agg ys))):=by
 subst hq;intro w0 L0 N a w hN ⟨L,hR⟩;have hh:=hR.hold s (aJ hR hs ag);rw [hs] at hh;simp only [Hold] at hh;obtain⟨b,hL,hp,_,bt⟩:=fy hh;obtain⟨fields,f,hu,qa,h2,h3⟩:=(S.ok t _ hT).fld hf;have cn:a.eval (.tmp s)=.pointer (some ⟨b,0,none⟩):=hp;have bc:=(S.ok gn _ hF).size;rw [<- h3] at bc;refine⟨.pointer (some ⟨b,0+f.offset,none⟩),fun w'=>?_,Rel.aT (n:=d) hR (hN d rfl) rfl c8 ⟨b,hL,by rw [h2];simp,fun _ j z hz=>?_⟩⟩
 ·simp only [execOp,cn,Sem.run_bind,bR hu qa bc (aC hc)];rfl
 ·have hz:ys[j]?=some z:=hz;rw [<- hy,aiq] at hz;split at hz
  ·rw [ah5] at hz;exact bt (off+j) z hz
  ·cases hz
theorem kU{sz cA i off gn:Nat}{zz:List AV}{jG:TI}{y:AV}(hs:FM.get σ s=.av (.pt true cs))(hT:S.T t=some ⟨.struct fs,sz,cA,zz⟩)(hf:fs[i]?=some (off,gn))(hF:S.T gn=some jG)(hc:Nat.beq jG.size 0=false)(hy:cs[off]?=some y)(h1:y.cells=[y])(c8:Nat.beq s d=false):
  StepW S ⟨some d,.fieldAddr t (.tmp s) i,ty,pos,aft,g⟩ σ (σ.put d (.fpt s off y)):=by
 intro w0 L0 N a w hN ⟨L,hR⟩;have hh:=hR.hold s (aJ hR hs ag);rw [hs] at hh;simp only [Hold] at hh;obtain⟨b,hL,hp,_,bt⟩:=fy hh;obtain⟨fields,f,hu,qa,h2,h3⟩:=(S.ok t _ hT).fld hf;have cn:a.eval (.tmp s)=.pointer (some ⟨b,0,none⟩):=hp;have bc:=(S.ok gn _ hF).size;rw [<- h3] at bc;refine⟨.pointer (some ⟨b,0+f.offset,none⟩),fun w'=>?_,Rel.aT (n:=d) hR (hN d rfl) rfl c8 ⟨b,hL,by rw [h2];simp,fun _ j z hz=>?_⟩⟩
 ·simp only [execOp,cn,Sem.run_bind,bR hu qa bc (aC hc)];rfl
 ·rw [h1] at hz
  cases j with
  | zero=>simp only [ahq,ahp] at hz;subst hz;simpa using bt off _ hy
  | succ j=>simp at hz
theorem w9{t sz cA i off gn s o:Nat}{fs:List (Nat×Nat)}{zz cs:List AV}{jG:TI}{y:AV}{x:Operand}(hx:ov σ x=.fpt s o (.agg cs))(hT:S.T t=some ⟨.struct fs,sz,cA,zz⟩)(hf:fs[i]?=some (off,gn))(hF:S.T gn=some jG)(hc:Nat.beq jG.size 0=false)(hy:cs[off]?=some y)(h1:y.cells=[y])(c8:Nat.beq s d=false) :
  Step S ⟨some d,.fieldAddr t x i,ty,pos,aft,g⟩ σ (σ.put d (.fpt s (o+off) y)):=by
 intro w0 L0 N a w hN ⟨L,hR⟩;obtain⟨_,⟨b,hL,cn,bt⟩,_⟩:=aM hR hx ag;obtain⟨fields,f,hu,qa,h2,h3⟩:=(S.ok t _ hT).fld hf;have bc:=(S.ok gn _ hF).size;rw [<- h3] at bc;refine⟨.pointer (some ⟨b,o+f.offset,none⟩),fun w' _=>?_,Rel.aT (n:=d) hR (hN d rfl) rfl c8 ⟨b,hL,by rw [h2],fun _ j z hz=>?_⟩⟩
 ·simp only [execOp,cn,Sem.run_bind,bR hu qa bc (aC hc)];rfl
 ·rw [h1] at hz
  cases j with
  | zero=>simp only [ahq,ahp] at hz;subst hz;simpa using bt AV.noConfusion off _ hy
  | succ j=>simp at hz
theorem Eb{o:Nat}{ti:TI}{v:Operand}{y0 z z':AV}(hx:ov σ x=.fpt s o y0)(hs:FM.get σ s=.av (.pt true cs))(hT:S.T t=some ti)(hv:ov σ v=.av z)(hle:AV.le z z')(hz:z.aW=false)(hok:z.fV=true)(h1:z.cells=[z])(nj:z'.cells=[z'])(kK:Nat.beq ti.size 1=true)(ho:Nat.blt o cs.length=true):
  EStep S ⟨none,.store t x v,ty,pos,aft,g⟩ σ (σ.upd false s (.av (.pt true (cs.set o z')))):=by
 intro w0 L0 N a w _ ⟨L,hR⟩;have KL:=ahz kK;have ho:o<cs.length:=by have:=ah3 ho;omega
 obtain⟨_,⟨b,hL,hp,_⟩,_⟩:=aM hR hx ag;have ja:=aJ hR hs ag;have hh:=hR.hold s ja;rw [hs] at hh;simp only [Hold] at hh;obtain⟨v1,v2,v3⟩:=eW hR hv hz hok
 obtain⟨W,aD,bc,ho',ht,hu,cw,bE⟩:=nw hT (off:=o) (zs:=[z']) (cs':=cs.set o z') hL hR.lok.inj hh (by simp;omega) (by rw [KL];rfl) (by rw [h1] at v1;exact v1) v2 (fun j y hy=>by
  cases j with
  | zero =>
   simp only [ahq,ahp] at hy;subst hy
   obtain⟨u,YN,YO⟩:=v3 0 z (by rw [h1];rfl)
   exact⟨u,YN,Rep.le hle YO⟩
  | succ j=>simp at hy) ag (fun j y hy=>by
  rw [aio] at hy
  by_cases By:o=j
  ·subst By
   rw [if_pos rfl,if_pos ho] at hy
   exact .inl ⟨ahr _,ag,by simpa using hy⟩
  ·rw [if_neg By] at hy
   exact .inr ⟨by simp;omega,hy⟩)
 exact⟨undef,W,.inr ⟨by simp only [execOp,hp,Sem.run_bind,aD];rfl,rfl⟩,L,hR.write (b:=b) (q0:=[]) ja hL bc ho' ht hu cw bE false (fun h=>by cases h)⟩
theorem gZ{t s:Nat}{ti:TI}{x v:Operand}{y0 c0 c1 c2 c3 z0 z1:AV}(hx:ov σ x=.fpt s 2 y0)(hs:FM.get σ s=.av (.pt true [c0,c1,c2,c3]))(hT:S.T t=some ti)(hv:ov σ v=.av (.agg [z0,z1]))(hok:(AV.agg [z0,z1]).fV=true)(kK:Nat.beq ti.size 2=true) :
  EStep S ⟨none,.store t x v,ty,pos,aft,g⟩ σ (σ.upd false s (.av (.pt true [c0,c1,z0,z1]))):=by
 intro w0 L0 N a w _ ⟨L,hR⟩;have KL:=ahz kK;obtain⟨_,⟨b,hL,hp,_⟩,_⟩:=aM hR hx ag;have ja:=aJ hR hs ag;have hh:=hR.hold s ja;rw [hs] at hh;simp only [Hold] at hh;obtain⟨v1,v2,v3⟩:=eW hR hv rfl hok
 obtain⟨W,aD,bc,ho',ht,hu,cw,bE⟩:=nw hT (off:=2) (zs:=[z0,z1]) (cs':=[c0,c1,z0,z1]) hL hR.lok.inj hh ag (by rw [KL];rfl) v1 v2 v3 ag (fun j y hy=>by
  match j with
  | 0=>exact .inr ⟨ag,hy⟩
  | 1=>exact .inr ⟨ag,hy⟩
  | 2=>exact .inl ⟨ag,ag,hy⟩
  | 3=>exact .inl ⟨ag,ag,hy⟩
  | j+4=>simp at hy)
 exact⟨undef,W,.inr ⟨by simp only [execOp,hp,Sem.run_bind,aD];rfl,rfl⟩,L,hR.write (b:=b) (q0:=[]) ja hL bc ho' ht hu cw bE false (fun h=>by cases h)⟩
end
theorem StepW.ext{S:Sys}{σ bx:St}{d ty i:Nat}{x:Operand}{pos:String}{aft:Array Edge}{g:Option (Nat×Bool)}(h:Step S ⟨some d,.extract x i,ty,pos,aft,g⟩ σ bx):StepW S ⟨some d,.extract x i,ty,pos,aft,g⟩ σ bx:=by
 intro w0 L0 N a w hN hR;obtain⟨v,h1,h2⟩:=h w0 L0 N a w hN hR;refine⟨v,fun w'=>?_,h2⟩;have h3:=h1 w (Ext.refl w);simp only [execOp] at h3 ⊢;unfold Instr.extract at h3 ⊢
 cases hx:a.eval x with
 | tuple us =>
  rw [hx] at h3
  cases hu:us[i]? with
  | some u=>simp [hu] at h3 ⊢;exact h3
  | none=>simp [hu] at h3
 | _=>rw [hx] at h3;simp at h3
theorem CW.UD{id:Nat}(n gg:Nat)(hg:l.length-n=gg)(fin:List Bool)(hB:rq l n fin=true)(hd:dstOk S N l=true)(h:J true S N l.toArray (l.take n) (JA S N l.toArray gg fin (Q .normal)) σ):CW S N (.region id l.toArray true) Q σ:=by
 subst hg;exact CW.PT n fin hB hd h
theorem J.Mn{N:Nat}{P:Program}{f:Nat}{x x' a0 b0:AV}{rest:List AV}{r:AV}{xs:List Operand}{ops:Array Oper}{l:List Oper}{K:St->Prop}{d ty s t:Nat}{ts:Array Nat}{pos:String}{aft:Array Edge}{g:Option (Nat×Bool)}(hs:FnSpec P f (x::rest) (x'::rest) r)(hP:P=S.P)(hg:live ops g σ=some true)
  (h1:FM.get σ t=.rref s 2 x) (h2:FM.get σ s=.av (.pt true [a0,b0,x])) (hx:x≠.dead) (h3:Nat.beq t d=false) (h4:Nat.beq s d=false) (h5:Nat.beq s t=false) (ha:jl S N ((σ.upd false s (.av (.pt true [a0,b0,.dead]))).put t (.av x)) [(t,0)] 1 xs rest) (hr:NoSh r) (hn:NoSh x') (hc:x'.cells=[x'])
  (h:J false S N ops l K ((((((σ.upd false s (.av (.pt true [a0,b0,.dead]))).put t (.av x)).put d (.av r)).put t (.av x')).put t .none).upd false s (.av (.pt true [a0,b0,x'])))) :
  J false S N ops (⟨some d,.call ⟨.value (.func f),(.tmp t::xs).toArray,ts⟩,ty,pos,aft,g⟩::l) K σ:=by
 subst hP;unfold J at *;intro dI w0 L0 Q a w hQ hR;obtain⟨g1,g2⟩:=aU dI;have hd:=g1 d rfl;have hw:=ba (o:=⟨some d,.call ⟨.value (.func f),(.tmp t::xs).toArray,ts⟩,ty,pos,aft,g⟩) hg hR;simp only [wpList,hw,if_true];refine .inl ?_;unfold Oper.wp;rw [jf (xs:=.tmp t::xs) hs.ok rfl rfl w,Oper.upon_enter];obtain⟨L,hR⟩:=hR;have cH:=aC h5;have E8:=aC h3;have c8:=aC h4;have ja:=aJ hR h2 ag;have HT:=aJ hR h1 ag;have Ip:RelL S w0 L0 N ((σ.upd false s (.av (.pt true [a0,b0,.dead]))).put t (.av x)) a w (lZ [s,2] t L):=hR.wX (i:=2) h2 h1 hx cH ag;have Iq:=hR.hold s ja;rw [h2] at Iq;simp only [Hold] at Iq;obtain⟨b1,HA,Ft,aA,_⟩:=fy Iq;have DK:=hR.hold t HT;rw [h1] at DK;obtain⟨b2,YP,aH,_⟩:=DK;have YQ:=hR.lok.inj _ _ _ YP HA;subst YQ;have e1:FM.get ((σ.upd false s (.av (.pt true [a0,b0,.dead]))).put t (.av x)) t=.av x:=by simp [FM.get,ahy]
 have hlen:=ha.length;have iM:N6 d (xs.length+1) [(t,0)]:=.one h3 (by simp [Nat.blt]);have Lm:jl S N ((σ.upd false s (.av (.pt true [a0,b0,.dead]))).put t (.av x)) [(t,0)] 0 (.tmp t::xs) (x::rest):=.cons (.mu (s:=t) (by unfold fN;simp only [e1]) e1 (by simp [idxM,ahy])) ha;have hLm:qF [(t,0)] (lZ [s,2] t L) b2=.sh:=wH (t:=s) (q:=[]) (cC HA cH (by simp [strip])) (by simp [idxM,au (fun e=>cH e.symm:t≠s)]);have mem:∀ {s' i:Nat},idxM [(t,0)] s'=some i->s'=t/\i=0:=fun{s' i} hi=>by
  simp only [idxM] at hi
  cases hb:Nat.beq t s' with
  | true=>rw [hb,cond_true] at hi;injection hi with hi;exact⟨(ahz hb).symm,hi.symm⟩
  | false=>rw [hb,cond_false] at hi;cases hi
 have hlr:(x::rest).length=xs.length+1:=by rw [ahI,hlen]
 have rY:=hs.calls w (qF [(t,0)] (lZ [s,2] t L)) ((Operand.tmp t::xs).map a.eval) (by rw [ahu,ahI,hlen];rfl);rw [hlr] at rY;refine(rY ⟨fun b p hb=>?_,fun b p hb=>?_,fun b b' p hb bI=>?_,fun b hge hf=>?_,Ip.gh.move (ahr _) fun b _ h=>⟨kO h,rfl⟩⟩ (fun i y v hy hv=>?_)).mono fun e w' ⟨v,L',he,hB⟩=>?_
 ·obtain⟨t',i,q,h3,_,_⟩:=dM hb;exact Ip.lok.lt b _ h3
 ·obtain⟨t',i,q,_,h3,h4⟩:=dM hb;exact⟨i,q,h4,iM.lt _ _ h3⟩
 ·obtain⟨t1,i,q,h3,h4,h5⟩:=dM hb;obtain⟨t',i',q',mA,qc,BG⟩:=dM bI;rw [h5] at BG;cases BG;have e1:=iM.inv _ _ h4;have e2:=iM.inv _ _ qc;rw [e1] at e2;cases e2;exact Ip.lok.inj _ _ _ h3 mA
 ·have:=wI.1 hf;exact Ip.lok.new b (ahZ Ip.keep.size hge) this
 ·rw [ahE,ahs] at hv;obtain⟨y',qx,rfl⟩:=hv;have:=(Lm.get i y' y qx hy).rep Ip
  rwa [ahR] at this
 ·subst he;obtain⟨L2,S2⟩:=kP Ip hd iM hB hr fun s' i hi=>by
   obtain⟨rfl,rfl⟩:=mem hi;exact⟨HT,rfl,x',rfl,hn⟩
  have hblk:w'.heap[b2]?=w.heap[b2]?:=hB.keep.block b2 aA fun q hq=>by rw [hLm] at hq;cases hq
  have gs:FM.get (lS [(t,0)] (x'::rest) (((σ.upd false s (.av (.pt true [a0,b0,.dead]))).put t (.av x)).put d (.av r))) s=.av (.pt true [a0,b0,.dead]):=by
   simp [lS,FM.get,au (fun e=>cH e.symm:t≠s),au (fun e=>c8 e.symm:d≠s),ahy,TV.kill]
  have gt:FM.get (lS [(t,0)] (x'::rest) (((σ.upd false s (.av (.pt true [a0,b0,.dead]))).put t (.av x)).put d (.av r))) t=.av x':=by
   simp [lS,FM.get,ahy]
  have UE:=S2.wW (s:=s) (i:=2) (t0:=t) gs gt hc (fun e=>cH e.symm) ag (fun b hb=>by
   have hh:=S2.hold s ja
   rw [gs] at hh
   simp only [Hold] at hh
   obtain⟨b3,YR,YS,_,_⟩:=fy hh
   have e3:(a.put (some d) v).tmps.getD s undef=a.tmps.getD s undef:=ay (fun e=>c8 e.symm)
   have e4:(a.put (some d) v).tmps.getD t undef=a.tmps.getD t undef:=ay (fun e=>E8 e.symm)
   rw [e3,Ft] at YS
   have h33:b2=b3:=by injection YS with h;injection h with h;injection h
   have:=S2.lok.inj _ _ _ hb YR
   subst this
   rw [e4,<-h33,cell_of_heap hblk]
   exact aH)
  exact h g2 w0 L0 Q _ w' hQ ⟨_,UE⟩
theorem J.QN{S:Sys}{N:Nat}{σ:St}{cA c1 c2 t:Nat}{fs:List (Nat×Nat)}{u0:Value}{xs:List AV}{ops:Array Oper}{l:List Oper}{K:St->Prop}{d d3 ty Mo s:Nat}{pos zp:String}{aft zq:Array Edge}
  (hT:S.T t=some ⟨.struct fs,3,cA,[.nil,.nil,.val u0]⟩) (hf:yQ S.T fs 0=true) (hl:Nat.beq fs.length 3=true) (hs:FM.get σ s=.av (.pt true xs)) (h1:Nat.beq s d=false) (h2:Nat.beq s d3=false) (h3:Nat.beq d d3=false)
  (h:J false S N ops l K ((((σ.put d .none).put d3 (.av (.pt true [.sl false c1 [],.sl false c2 [],.dead]))).put s .none).upd false d3 (.av (.pt true [.sl false c1 [],.sl false c2 [],.pt true xs])))) :
  J false S N ops (⟨some d,.build t #[(2,.tmp s)],ty,pos,aft,none⟩::⟨some d3,.box t (.tmp d),Mo,zp,zq,none⟩::l) K σ:=by
 unfold J at *;intro dI w0 L0 Q a w hQ ⟨L,hR⟩;obtain⟨g1,g2⟩:=aU dI;obtain⟨g3,g4⟩:=aU g2;have hd:=g1 d rfl;have hd3:=g3 d3 rfl;have ja:=aJ hR hs ag;have c8:=aC h1;have QO:=aC h2;have SY:=aC h3;have hh:=hR.hold s ja;rw [hs] at hh;simp only [Hold] at hh;obtain⟨bs,hLs,Lp,_,_⟩:=fy hh;obtain⟨u,hu⟩:∃ u,u=Value.pointer (some ⟨bs,0,none⟩):=⟨_,rfl⟩;rw [<- hu] at Lp;have huc:(AV.val u).dK=true:=by rw [hu];rfl
 have S3:FM.get (jc [(s,.av (.val u))]) s=.av (.val u):=by simp [jc,FM.get,ahy]
 have hRv:RelL S w0 L0 N (jc [(s,.av (.val u))]) a w L:=⟨hR.defers,hR.size,hR.keep,hR.lok,fun n hn=>by
   by_cases e:s=n
   ·subst e;rw [S3];simp only [Hold];rw [Lp];exact .val
   ·simp only [jc,FM.get,au e,cond_false];trivial,fun n hn=>by
   have:s≠n:=ae
   simp only [jc,FM.get,au this,cond_false];rfl,hR.fix,hR.glob⟩
 obtain⟨v,Xf,L1,hv2⟩:=H5 (S:=S) (σ:=jc [(s,.av (.val u))]) (d:=d) (ty:=ty) (pos:=pos) (aft:=aft) (g:=none) (ps:=#[(2,.tmp s)]) (ys:=[.nil,.nil,.val u]) hT hf hl (.zero (.zero (.part rfl S3 huc rfl .nil))) w0 L0 N a w g1 ⟨L,hRv⟩;have UF:=hv2.hold d hd.lt;rw [show FM.get ((jc [(s,.av (.val u))]).put d (.av (.agg [.nil,.nil,.val u]))) d=.av (.agg [.nil,.nil,.val u]) by simp [FM.get,ahy]] at UF;simp only [Hold] at UF;rw [show(a.put (some d) v).tmps.getD d undef=v from bJ (by rw [hR.size];exact hd.lt)] at UF;have hve:∀ (L:Nat->aO) (w:World) π,Rep L w π (.agg [.sl false c1 [],.sl false c2 [],.val u]) v:=by
  generalize v=vv at UF
  cases UF with
  | @agg _ _ vs hl h =>
   match vs,hl,h with
   | [x,y,z],_,h =>
    have e0:=h 0 _ _ rfl rfl;have e1:=h 1 _ _ rfl rfl;have e2:=h 2 _ _ rfl rfl;cases e0;cases e1;cases e2;intro L w π;refine .agg rfl fun i x v hx hv=>?_
    match i with
    | 0=>simp only [ahq,ahp] at hx hv;subst hx;subst hv;exact .slE (fun h=>by cases h)
    | 1=>simp only [ahP,ahq,ahp] at hx hv;subst hx;subst hv;exact .slE (fun h=>by cases h)
    | 2=>simp only [ahP,ahq,ahp] at hx hv;subst hx;subst hv;exact .val
    | i+3=>simp at hx
 have S2:RelL S w0 L0 N (σ.put d (.av (.agg [.sl false c1 [],.sl false c2 [],.val u]))) (a.put (some d) v) w (clear d L):=hR.put hd (hve _ _ _);have Pu:FM.get (σ.put d (.av (.agg [.sl false c1 [],.sl false c2 [],.val u]))) d=.av (.agg [.sl false c1 [],.sl false c2 [],.val u]):=by simp [FM.get,ahy]
 obtain⟨v3,w3,hv4,L3,UE⟩:=NY (S:=S) (σ:=σ.put d (.av (.agg [.sl false c1 [],.sl false c2 [],.val u]))) (d:=d3) (ty:=Mo) (pos:=zp) (aft:=zq) (g:=none) (t:=t) (v:=.tmp d) (z:=.agg [.sl false c1 [],.sl false c2 [],.val u]) Pu rfl (by rw [hu];rfl) w0 L0 N (a.put (some d) v) w g3 ⟨_,S2⟩;have es:((a.put (some d) v).put (some d3) v3).tmps.getD s undef=u:=by
  rw [show((a.put (some d) v).put (some d3) v3).tmps.getD s undef=(a.put (some d) v).tmps.getD s undef from ay (fun e=>QO e.symm),show(a.put (some d) v).tmps.getD s undef=a.tmps.getD s undef from ay (fun e=>c8 e.symm),Lp]
 have k1:FM.get ((σ.put d (.av (.agg [.sl false c1 [],.sl false c2 [],.val u]))).put d3 (.av (.pt true (AV.agg [.sl false c1 [],.sl false c2 [],.val u]).cells))) d3=.av (.pt true [.sl false c1 [],.sl false c2 [],.val u]):=by simp [FM.get,ahy,AV.cells]
 have k2:FM.get ((σ.put d (.av (.agg [.sl false c1 [],.sl false c2 [],.val u]))).put d3 (.av (.pt true (AV.agg [.sl false c1 [],.sl false c2 [],.val u]).cells))) s=.av (.pt true xs):=by
  simp [FM.get,au (fun e=>c8 e.symm:d≠s),au (fun e=>QO e.symm:d3≠s),hs,TV.kill]
 have hR4:=UE.wW (s:=d3) (i:=2) (t0:=s) k1 k2 rfl QO ag (fun b hb=>by
  have hh:=UE.hold d3 hd3.lt
  rw [k1] at hh
  simp only [Hold] at hh
  obtain⟨b3,YR,YS,_,h34⟩:=fy hh
  have:=UE.lok.inj _ _ _ hb YR
  subst this
  obtain⟨q,hq1,XH⟩:=h34 2 _ rfl
  cases XH
  rw [es]
  exact hq1)
 have hR5:Rel S w0 L0 N ((((σ.put d .none).put d3 (.av (.pt true [.sl false c1 [],.sl false c2 [],.dead]))).put s .none).upd false d3 (.av (.pt true [.sl false c1 [],.sl false c2 [],.pt true xs]))) ((a.put (some d) v).put (some d3) v3) w3:=by
  refine Rel.weaken (fun n=>?_) ⟨_,hR4⟩;simp only [FM.get];by_cases e1:d3=n
  ·subst e1;left;simp only [ahy,cond_true];rfl
  ·simp only [au e1,cond_false];by_cases e2:s=n
   ·subst e2;left;simp only [ahy,cond_true]
   ·simp only [au e2,cond_false];by_cases e3:d=n
    ·subst e3;right;simp [ahy,TV.kill,TV.bk]
    ·simp only [au e3,cond_false];left;trivial
 have hk:wpList S.P ops Q (⟨some d3,.box t (.tmp d),Mo,zp,zq,none⟩::l) (a.put (some d) v) w:=by
  rw [wpList,if_pos (ba (ops:=ops) (o:=⟨some d3,.box t (.tmp d),Mo,zp,zq,none⟩) (b:=true) rfl ⟨_,S2⟩)];refine .inl ?_;unfold Oper.wp;rcases hv4 with e|⟨e,rfl⟩
  ·rw [e];exact h g4 w0 L0 Q _ w3 hQ hR5
  ·rw [e];exact h g4 w0 L0 Q _ w3 hQ hR5
 rw [wpList,if_pos (ba (ops:=ops) (o:=⟨some d,.build t #[(2,.tmp s)],ty,pos,aft,none⟩) (b:=true) rfl ⟨_,hR⟩)];refine .inl ?_;unfold Oper.wp;rw [Xf w (Ext.refl w)];exact hk
theorem S4{A B:Prop}{P:Program}{f:Nat}{x y:AV}{rest:List AV}{r:AV}(hs:FnSpec P f (x::rest) (y::rest) r)(g:B)(h:FnSpec P f (x::rest) (y::rest) r->Wr B->A:=by intro SQ g9;first|exact J.Mn SQ rfl rfl rfl rfl AV.noConfusion rfl rfl rfl (by repeat' (first|exact jl.nil|apply jl.cons|exact ArgM.pl rfl rfl)) fU.out fU.out rfl g9.out|fail):A:=h hs ⟨g⟩
theorem JA.QP{i:Nat}{oi:Oper}(_:K9 fuel i)(hr:bV l listed=[i])(ho:l[i]?=some oi)(h:(J false S N l.toArray [oi] (JA S N l.toArray fuel (listed.set i true) K) σ)):JA S N l.toArray (fuel+1) listed K σ:=.one hr ho h
theorem JA.QQ{i j:Nat}{oi oj:Oper}(_:W9 fuel i j)(hr:bV l listed=[i,j])(ho:l[i]?=some oi)(ho':l[j]?=some oj)(h:(J false S N l.toArray [oi] (JA S N l.toArray fuel (listed.set i true) K) σ))(h':(J false S N l.toArray [oj] (JA S N l.toArray fuel (listed.set j true) K) σ)):JA S N l.toArray (fuel+1) listed K σ:=.two hr ho ho' h h'
theorem JA.QR{i j k:Nat}{oi oj ok:Oper}(_:K93 fuel i j k)(hr:bV l listed=[i,j,k])(h1:l[i]?=some oi)(h2:l[j]?=some oj)(h3:l[k]?=some ok)(g1:(J false S N l.toArray [oi] (JA S N l.toArray fuel (listed.set i true) K) σ))(g2:(J false S N l.toArray [oj] (JA S N l.toArray fuel (listed.set j true) K) σ))(g3:(J false S N l.toArray [ok] (JA S N l.toArray fuel (listed.set k true) K) σ)):JA S N l.toArray (fuel+1) listed K σ:=.three hr h1 h2 h3 g1 g2 g3
theorem Mp{A B:Prop}(g:B)(h:Wr B->A:=by intro g9;first|((apply JA.done (fuel:=0));decide +kernel;exact g9.out)|fail):A:=h ⟨g⟩
theorem Mq{A B:Prop}(f i:Nat)(g:B)(h:K9 f i->Wr B->A:=by intro k9 g9;first|((apply JA.QP k9);decide +kernel;rfl;exact g9.out)|fail):A:=h ⟨⟩ ⟨g⟩
theorem ad6{A B C:Prop}(f i j:Nat)(g:B)(g':C)(h:W9 f i j->Wr B->Wr C->A:=by intro k9 g9 c9;first|((apply JA.QQ k9);decide +kernel;rfl;rfl;exact g9.out;exact c9.out)|fail):A:=h ⟨⟩ ⟨g⟩ ⟨g'⟩
theorem ad7{A B C D:Prop}(f i j k:Nat)(g:B)(g':C)(g'':D)(h:K93 f i j k->Wr B->Wr C->Wr D->A:=by intro k9 g9 c9 d9;first|((apply JA.QR k9);decide +kernel;rfl;rfl;rfl;exact g9.out;exact c9.out;exact d9.out)|fail):A:=h ⟨⟩ ⟨g⟩ ⟨g'⟩ ⟨g''⟩
theorem JA.Ir{bx:St}{i:Nat}{o:Oper}(_:K9 fuel i)(ho:l[i]?=some o)(hx:o.op=.move x∨o.op=.assign x)(hg:o.guard=none)(hB:(Region.noSelect l.toArray&&Region.free .any l.toArray listed.toArray i&&(bV l listed).contains i)=true)(hs:Step S o σ bx)(h:JA S N l.toArray fuel (listed.set i true) K bx):JA S N l.toArray (fuel+1) listed K σ:=.take ho hx hg hB hs h
theorem JA.BX{bx:St}{i:Nat}{o:Oper}(_:K9 fuel i)(ho:l[i]?=some o)(hg:o.guard=none)(hB:(Region.noSelect l.toArray&&Region.free .any l.toArray listed.toArray i&&(bV l listed).contains i)=true)(hs:StepW S o σ bx)(h:JA S N l.toArray fuel (listed.set i true) K bx):JA S N l.toArray (fuel+1) listed K σ:=.rK ho hg hB hs h
theorem BY{A B:Prop}(f i:Nat)(g:B)(h:K9 f i->Wr B->A:=by intro k9 g9;first|((apply JA.Ir k9);rfl;(first|exact .inl rfl|exact .inr rfl);rfl;decide +kernel;exact FM.st;exact g9.out)|fail):A:=h ⟨⟩ ⟨g⟩
theorem FQ{A B:Prop}(f i:Nat)(g:B)(h:K9 f i->Wr B->A:=by intro k9 g9;first|((apply JA.BX k9);rfl;rfl;decide +kernel;(first|exact(StepW.ext FM.st)|exact(StepW.QM (.inl rfl) FM.st)|exact(StepW.QM (.inr rfl) FM.st)|((with_reducible apply wZ)<;>exact bu)|exact(BV rfl rfl rfl)|((with_reducible apply r9)<;>(first|rfl|exact bu))|((with_reducible apply D4)<;>(first|rfl|exact kC.mk ae))|exact BW rfl rfl rfl rfl rfl rfl rfl rfl rfl|exact kU rfl rfl rfl rfl rfl rfl rfl rfl|exact BU rfl rfl rfl rfl rfl rfl rfl rfl rfl|exact w8 rfl rfl rfl rfl rfl rfl rfl);exact g9.out)|fail):A:=h ⟨⟩ ⟨g⟩
theorem CW.UG{id:Nat}{n gg:Nat}(_:K9 n gg)(hg:l.length-n=gg)(hB:rq l n (List.replicate n true++List.replicate gg false)=true)(hd:dstOk S N l=true)(h:J true S N l.toArray (l.take n) (JA S N l.toArray gg (List.replicate n true++List.replicate gg false) (Q .normal)) σ):CW S N (.region id l.toArray true) Q σ:=.UD n gg hg _ hB hd h
theorem qf{A B:Prop}(n m:Nat)(g:B)(h:K9 n m->Wr B->A:=by intro k9 g9;first|((refine CW.UG k9 ?_ ?_ ?_ ?_);rfl;decide +kernel;rfl;simp only [aiu,List.take_zero];exact g9.out)|fail):A:=h ⟨⟩ ⟨g⟩
end FM
namespace Go.Proofs.YtmbbagbhmjaedaaGreatDoor
open Go FM Go.Proofs Tryz
abbrev km(A:List Ac)(O:List Dl)(k:bd)(n:Int):AV:=.pt true [.sl false 3 (A.map bz),.sl false 6 (O.map bL),Ob k n]
abbrev YT(A:List Ac)(O:List Dl)(k:bd)(n:Int):AV:=.pt false [.sl false 3 (A.map bz),.sl false 6 (O.map bL),Uy k n]
theorem pJ{A:List Ac}{O:List Dl}{k:bd}{n:Int}:(km A O k n).sh=YT A O k n:=by
 simp only [AV.sh,AV.Bb];rw [fZ bz A bz fun x=>rfl,fZ bL O bL fun x=>rfl]
theorem Is:FnSpec Sy.P 39 [] [] (km [] [] [] 0):=by
 refine bQ func39 ntmps39 fun v0=>?_;repeat' first|(apply J.QN (c1:=3) (c2:=6)<;>(first|rfl|skip))|refine aG ?_|refine aF (zf) ?_|fail
 exact .mk rfl rfl rfl
theorem pK(a:Ac)(s:bd):FnSpec Sy.P 107 [bz a,.pt false [.str s]] [bz a,.pt false [.str s]] (.bool (decide (a.1=s))):=by
 refine bQ func107 ntmps107 fun v0=>?_;repeat' first|refine aG ?_|fail
 exact .mk rfl rfl rfl
theorem BZ{s:bd}{m:Nat}{v:Nat->Value}{N:Nat}{σ:St}{t q:Nat}(ht:FM.get σ t=.clo 107 [q])(h1:FM.get σ q=.av (.pt true [.str s])):aX (Sy.fixed m v) N σ (.tmp t) true (ud (fun _=>True) fun a=>decide (a.1=s)) :=
 cloAc (zs:=[.pt false [.str s]]) ht (.cons h1 rfl .nil) (pK ([],0,0,()) []).ok fun x _=>pK x s
theorem sb(A:List Ac)(O:List Dl)(k:bd)(n:Int)(s:bd)(hl:A.length<=1000):FnSpec Sy.P 75 [YT A O k n,.str s] [YT A O k n,.str s] (.int (fA A s)):=by
 have hI:=gu A (fun _=>True) (fun a=>decide (a.1=s)) ae (fun _ _=>trivial);refine bQ func75 ntmps75 fun v0=>?_;repeat' first|((with_reducible apply J.step);rfl;(exact ry (caps:=[3]) rfl rfl))|refine aG ?_|((with_reducible first|apply J.bq (hI)|apply J.dE (hI));rfl;rfl;(repeat' (first|exact aV.nil|exact BZ rfl rfl|apply aV.cons|exact aX.pl rfl rfl|exact aX.br rfl AV.noConfusion (by first|rfl|exact dr|exact c7|exact cD|exact dL|exact bG (fun _=>rfl))));(first|rfl|exact Be|exact Bf))
 exact .mk rfl rfl rfl
end Go.Proofs.YtmbbagbhmjaedaaGreatDoor
namespace Zp
open Go
abbrev bd:=List UInt8
def jn:List bd->bd
 | []=>[]
 | [x]=>x
 | x::y::r=>x++32::jn (y::r)
theorem Ec:∀ l:List bd,Lib.join l [32]=jn l
 | []=>rfl
 | [x]=>Lib.join_one x _
 | x::y::r=>by
  have ih:=Ec (y::r);rw [Lib.join_cons] at ih ⊢;show _=x++32::jn (y::r);rw [<- ih];simp [Lib.joinTail]
structure Wd(s:bd):Prop where
 ne:s≠[]
 ns:∀ b∈s,b≠32/\Lib.isSp b=false/\b.toNat<128
theorem index_hit:∀ {s:bd} (r:bd),(∀ b∈s,b≠32)->Lib.index (s++32::r) [32]=(s.length:Int)
 | [],r,_=>by rw [List.nil_append,Lib.index];simp [List.isPrefixOf]
 | b::s,r,h=>by
  have hb:=h b (ahU ..);have ih:=index_hit (s:=s) r fun c hc=>h c (ahW _ hc);have hp:([32]:List UInt8).isPrefixOf (b::(s++32::r))=false:=by simp [List.isPrefixOf,Ne.symm hb]
  rw [aiO,Lib.index,hp,ih];have:((s.length:Int)==-1)=false:=by
   cases h:((s.length:Int)==-1) with
   | false=>rfl
   | true=>have:=eq_of_beq h;omega
  simp only [this,ahD,if_false,ahI];omega
theorem u5:∀ {l:List bd},l≠[]->(∀ s∈l,∀ b∈s,b≠32)->Lib.splitK [32] 0 (l.length-1) (jn l)=l
 | [],h,_=>absurd rfl h
 | [x],_,_=>rfl
 | x::y::r,_,h=>by
  have ih:=u5 (l:=y::r) ag fun s hs=>h s (ahW _ hs);have hx:=index_hit (jn (y::r)) (h x (ahU ..));show Lib.splitK [32] 0 (r.length+1) (x++32::jn (y::r))=_;rw [Lib.splitK,hx];have:((x.length:Int)==-1)=false:=by
   cases h:((x.length:Int)==-1) with
   | false=>rfl
   | true=>have:=eq_of_beq h;omega
  rw [this];simp only [ahD,if_false,ahN,aib,List.take_left',List.length_singleton];rw [show(x++32::jn (y::r)).drop (x.length+1)=jn (y::r) by rw [List.drop_append];simp];simp only [ahI,Nat.add_sub_cancel] at ih;rw [ih]
theorem zr:∀ {l:List bd},l≠[]->(∀ s∈l,∀ b∈s,b≠32)->Lib.count (jn l) [32]=l.length-1
 | [],h,_=>absurd rfl h
 | [x],_,h=>by
  rw [Lib.count_one];show x.count 32=0;exact List.count_eq_zero.2 fun hm=>h x ag 32 hm rfl
 | x::y::r,_,h=>by
  have ih:=zr (l:=y::r) ag fun s hs=>h s (ahW _ hs);rw [Lib.count_one] at ih ⊢;show(x++32::jn (y::r)).count 32=_;rw [List.count_append,List.count_cons_self,ih,List.count_eq_zero.2 fun hm=>h x ag 32 hm rfl];simp
theorem iP:∀ {s:bd} (cur r:bd),(∀ b∈s,Lib.isSp b=false)->Lib.fieldsGo cur (s++r)=Lib.fieldsGo (cur++s) r
 | [],cur,r,_=>ag
 | b::s,cur,r,h=>by
  rw [aiO,Lib.fieldsGo,h b (ahU ..)];simp only [ahD,if_false];rw [iP (cur++[b]) r fun c hc=>h c (ahW _ hc)];simp
theorem u6:∀ {l:List bd},(∀ s∈l,Wd s)->Lib.fields (jn l)=l
 | [],_=>rfl
 | [x],h=>by
  have hx:=h x ag;show Lib.fieldsGo [] x=[x];have:=iP (s:=x) [] [] fun b hb=>(hx.ns b hb).2.1;rw [ais] at this;rw [this,List.nil_append,Lib.fieldsGo]
  cases x with
  | nil=>exact absurd rfl hx.ne
  | cons _ _=>rfl
 | x::y::r,h=>by
  have hx:=h x ag;have ih:=u6 (l:=y::r) fun s hs=>h s (ahW _ hs);show Lib.fieldsGo [] (x++32::jn (y::r))=_;rw [iP [] _ fun b hb=>(hx.ns b hb).2.1,List.nil_append,Lib.fieldsGo];have:Lib.isSp 32=true:=rfl;rw [this,if_pos rfl]
  cases x with
  | nil=>exact absurd rfl hx.ne
  | cons c x' =>
   simp only [List.isEmpty_cons,ahD,if_false];rw [show Lib.fieldsGo [] (jn (y::r))=y::r from ih]
theorem sd{k:Nat}(h:k<10):(UInt8.ofNat (48+k)).toNat=48+k:=by rw [UInt8.toNat_ofNat'];omega
theorem pL{k:Nat}(h:k<10):Lib.digitVal (UInt8.ofNat (48+k))=some k:=by
 unfold Lib.digitVal;rw [sd h,if_pos ae];congr 1;omega
theorem kV:∀ (a b:bd) (acc:Nat),Lib.decFrom acc (a++b)=(Lib.decFrom acc a).bind fun n=>Lib.decFrom n b
 | [],b,acc=>rfl
 | c::a,b,acc=>by
  rw [aiO,Lib.decFrom,Lib.decFrom]
  cases Lib.digitVal c with
  | none=>rfl
  | some d=>exact kV a b _
theorem se(u:Nat):Lib.decFrom 0 (Lib.decDigits u)=some u:=by
 induction u using Nat.strongRecOn with
 | _ u ih =>
  rw [Lib.decDigits];by_cases h:u<10
  ·rw [dif_pos h,Lib.decFrom,pL h];simp [Lib.decFrom]
  ·rw [dif_neg h,kV,ih (u / 10) ae];show Lib.decFrom (u / 10) [UInt8.ofNat (48+u%10)]=some u;rw [Lib.decFrom,pL ae];simp only [Lib.decFrom,ahp];omega
theorem pM(u:Nat):∀ b∈Lib.decDigits u,48<=b.toNat/\b.toNat<=57:=by
 induction u using Nat.strongRecOn with
 | _ u ih =>
  intro b hb;rw [Lib.decDigits] at hb;by_cases h:u<10
  ·rw [dif_pos h,ahL] at hb;subst hb;rw [sd h];omega
  ·rw [dif_neg h,aie,ahL] at hb;rcases hb with hb|rfl
   ·exact ih (u / 10) ae b hb
   ·rw [sd ae];omega
theorem u7(u:Nat):Lib.decDigits u≠[]:=by
 intro h;have:=Lib.decDigits_length u;rw [h] at this;have:=Lib.nDigits_pos u;simp at *;omega
theorem sf(n:Int)(h:0<=n):Lib.itoa n=Lib.decDigits n.toNat:=by unfold Lib.itoa;rw [if_neg ae]
theorem FR(n:Int)(h:0<=n):Lib.atoi (Lib.itoa n)=some n:=by
 rw [sf n h];have h1:=se n.toNat;have h2:=pM n.toNat
 cases hd:Lib.decDigits n.toNat with
 | nil=>exact absurd hd (u7 _)
 | cons b r =>
  rw [hd] at h1 h2;have hb:=h2 b (ahU ..);have e1:(b==45)=false:=by
   cases h:b==45 with
   | false=>rfl
   | true=>rw [eq_of_beq h] at hb;revert hb;decide
  have e2:(b==43)=false:=by
   cases h:b==43 with
   | false=>rfl
   | true=>rw [eq_of_beq h] at hb;revert hb;decide
  rw [Lib.atoi,e1,e2];simp only [ahD,if_false,Lib.decNat,List.isEmpty_cons,h1,ah2,ahp];omega
theorem fB(n:Int)(h:0<=n)(h2:n<=1000000):(Lib.itoa n).length<=7:=by
 rw [sf n h,Lib.decDigits_length];have h3:=Lib.nDigits_pos n.toNat;rcases aia 7 (Lib.nDigits n.toNat) with h4|h4
 ·exfalso;have key:∀ k u,u<10 ^ (k+1)->Lib.nDigits u<=k+1:=fun k=>by
   induction k with
   | zero=>intro u hu;rw [Lib.nDigits_small ae];omega
   | succ k ih =>
    intro u hu;by_cases h:u<10
    ·rw [Lib.nDigits_small h];omega
    ·rw [Lib.nDigits_big h];have:=ih (u / 10) (by rw [Nat.pow_succ] at hu;omega);omega
  have:=key 6 n.toNat ae;omega
 ·exact h4
theorem sg{b:UInt8}(h:48<=b.toNat)(h2:b.toNat<128):b≠32/\Lib.isSp b=false/\b.toNat<128:=by
 have ne:∀ k:UInt8,k.toNat<48->b≠k:=fun k hk e=>by subst e;omega
 refine⟨ne 32 af,?_,h2⟩;unfold Lib.isSp;have hb:∀ k:UInt8,k.toNat<48->(b==k)=false:=fun k hk=>by
  cases e:b==k with
  | false=>rfl
  | true=>exact absurd (eq_of_beq e) (ne k hk)
 rw [hb 9 af,hb 10 af,hb 11 af,hb 12 af,hb 13 af,hb 32 af];rfl
theorem Mr{n:Int}(h:0<=n):Wd (Lib.itoa n):=by
 rw [sf n h];exact⟨u7 _,fun b hb=>by obtain⟨h1,h2⟩:=pM _ b hb;exact sg h1 ae⟩
end Zp
namespace Go.Proofs.YtmbbagbhmjaedaaGreatDoor
open Go FM Go.Proofs Tryz
theorem cI{s:bd}(h:gV s=true):0<s.length/\s.length<=8:=by
 unfold gV at h;simp only [aht,decide_eq_true_eq] at h;exact h.1
theorem Ed{s:bd}(h:gV s=true):Zp.Wd s:=by
 have h1:=cI h;unfold gV at h;simp only [aht,ahM] at h;refine⟨fun e=>by subst e;simp at h1,fun b hb=>?_⟩;have:=h.2 b hb;unfold yW at this;simp only [decide_eq_true_eq] at this;exact Zp.sg ae ae
def ia(d:Dl):List Int:=[d.2.2.1,d.2.2.2.1,d.2.2.2.2.1,d.2.2.2.2.2.1]
def oT(d:Dl):Nat->bd
 | 0=>[100,32]++d.1++[32]++d.2.1
 | k+1=>oT d k++([32]++Lib.itoa ((ia d).getD k 0))
def gz(d:Dl)(w:bd):bd:=oT d 4++[32]++w
def gA(s:bd)(m:Int):bd:=[111,32]++s++[32]++Lib.itoa m
abbrev UH(d:Dl)(w:bd):List bd:=[[100],d.1,d.2.1,Lib.itoa d.2.2.1,Lib.itoa d.2.2.2.1,Lib.itoa d.2.2.2.2.1,Lib.itoa d.2.2.2.2.2.1,w]
abbrev QS(s:bd)(m:Int):List bd:=[[111],s,Lib.itoa m]
theorem Ee(d:Dl)(w:bd):gz d w=Zp.jn (UH d w):=by simp [gz,oT,ia,Zp.jn,UH]
theorem xa(s:bd)(m:Int):gA s m=Zp.jn (QS s m):=by simp [gA,Zp.jn,QS]
theorem si{d:Dl}(h:ue d):∀ n∈ia d,0<=n/\n<=1000000:=by
 intro n hn;have h1:=h.num;have h2:=h.much;have h3:=h.fee;have h4:=h.size;simp only [ia,ah1,aiK,or_false] at hn;rcases hn with rfl|rfl|rfl|rfl<;>omega
theorem sj{d:Dl}(h:ue d):∀ k,k<=4->(oT d k).length<=19+8*k
 | 0,_=>by
  have h1:=cI h.f;have h2:=cI h.t;simp only [oT,ahC,ahI,aim] at *;omega
 | k+1,hk=>by
  have ih:=sj h k ae;have hg:(ia d)[k]?=some (ia d)[k]:=ahn (by simp [ia];omega);have hn:=si h _ (ahH hg);have:=Zp.fB _ hn.1 hn.2;simp only [oT,ahK,hg,ah8,ahC,ahI,aim] at *;omega
theorem jr{d:Dl}{w:bd}(h:ue d)(hw:w.length<=8):(gz d w).length<=60:=by
 have:=sj h 4 ae;unfold gz;simp only [ahC,ahI,aim];omega
theorem FU{d:Dl}{k:Nat}{n:Int}(h:(ia d)[k]?=some n):oT d (k+1)=oT d k++([32]++Lib.itoa n):=by
 rw [oT,ahK,h];rfl
theorem FV(d:Dl)(w:bd)(hd:ue d)(hw:w.length<=8):FnSpec Sy.P 101 [bL d,.str w] [bL d,.str w] (.str (gz d w)):=by
 have h1:=cI hd.f;have h2:=cI hd.t;refine bQ func101 ntmps101 fun v0=>?_;repeat' first|refine aG ?_|(refine aK ?_ ?_<;>intro _<;>try exact aE)|fail
 refine CW.loop (fun k:Nat=>[(1,.av (.str w)),(5,.av (.str (oT d k))),(23,.av (.sl true 1 ((ia d).map .int))),(24,.av (.int (4))),(25,.av (.int (k)))]) (fun k=>k<=4) (fun k=>4-k) (0) ?_ (ck) ?_
 ·exact ahQ _
 intro k hk;have hl:=sj hd k hk;by_cases aA:k<4
 ·have hg:(ia d)[k]?=some (ia d)[k]:=ahn aA;have hs:=FU hg;have hn:=si hd _ (ahH hg);have qb:(ia d).length=4:=rfl;generalize (ia d)[k]=n at *;have hI:=e8 n ae ae;have y8:=Zp.fB n hn.1 hn.2;generalize oT d k=r at *;generalize Lib.itoa n=z at *;generalize ia d=ds at *;repeat' first|refine aG ?_|refine aF (hI) ?_|(refine aK ?_ ?_<;>intro _<;>try exact aE)|fail
  all_goals try exact aE
  refine⟨k+1,?_,fM,by(repeat' (first|exact ky|refine And.intro ?_ ?_|(rw [hs])))⟩;exact aA
 ·obtain rfl:k=4:=ae;have e:gz d w=oT d 4++[32]++w:=rfl;rw [e];generalize oT d 4=r at *;generalize ia d=ds at *;repeat' first|refine aG ?_|(refine aK ?_ ?_<;>intro _<;>try exact aE)|fail
  all_goals exact bw
theorem sk(l:List bd)(hN:l.length<=1000)(hl:(Zp.jn l).length<=1000):FnSpec Sy.P 15 [.sl false 1 (l.map .str)] [.sl false 1 (l.map .str)] (.str (Zp.jn l)):=by
 rw [<- Zp.Ec] at hl ⊢;have hJ:=FP l [32] ae ae;refine bQ func15 ntmps15 fun v0=>?_;repeat' first|refine aG ?_|refine aF (hJ) ?_|fail
 exact .mk rfl rfl rfl
theorem zt(d:Dl)(w:bd)(hd:ue d)(hw:w.length<=8):FnSpec Sy.P 20 [bL d,.str w] [bL d,.str w] (.str (gz d w)):=by
 have h0:=jr hd hw;rw [Ee] at h0 ⊢;have hW:=sk (UH d w) ag ae;have n1:=hd.num;have n2:=hd.much;have n3:=hd.fee;have n4:=hd.size;have i1:=e8 d.2.2.1 ae ae;have i2:=e8 d.2.2.2.1 ae ae;have i3:=e8 d.2.2.2.2.1 ae ae;have i4:=e8 d.2.2.2.2.2.1 ae ae;refine bQ func20 ntmps20 fun v0=>?_;repeat' first|((with_reducible refine CW.T7 3 ?_ ?_ ?_);kernel_rfl;rfl;simp only [ahI,aim,Nat.reduceAdd,Nat.reduceSub,aiu,List.take_zero,List.drop_succ_cons,List.drop_zero])|refine aG ?_|refine aF (i1) ?_|refine aF (i2) ?_|refine aF (i3) ?_|refine aF (i4) ?_|refine aF (hW) ?_|fail
 exact .mk rfl rfl rfl
end Go.Proofs.YtmbbagbhmjaedaaGreatDoor
