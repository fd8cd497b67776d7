/- A struct that owns what a field of it points to; a struct within a struct. No program in sight. -/
import Derived.Test.YtkkcnppgcnmikaaGreatDoorAbj
import Derived.Test.YtkkcnppgcnmikaaGreatDoorAbf
import Derived.Test.YtkkcnppgcnmikaaGreatDoorAbc
namespace FM
open Go Go.RowKit
set_option linter.all false
section
variable {S:Sys} {σ:St} {d:Nat} {ty:Nat} {pos:String} {aft:Array Edge} {g:Option (Nat×Bool)}
theorem s_ldFb{t s o:Nat}{ti:TI}{x:Operand}{y:AV}{cs:List AV}(hx:ov σ x=.fpt s o y)(hs:FM.get σ s=.av (.pt true cs))(hT:S.T t=some ti)(hyo:cs[o]?=some y)(hf:y.fits ti=true)(hy:y≠.dead)(h1:y.cells=[y])(hsd:Nat.beq s d=false) :
  Step S ⟨some d,.load t x,ty,pos,aft,g⟩ σ (σ.put d (.rref s o y)):=by
 intro w0 L0 N a w hN ⟨L,hR⟩
 have hh:=hR.hold s (own_lt hR hs (by simp))
 rw [hs] at hh
 simp only [Hold] at hh
 obtain⟨b,hL,hpv,hlt,hcs⟩:=pt_at hh
 obtain⟨_,⟨b',hL',hev,_⟩,_⟩:=hold_plain hR hx (by simp)
 have:=hR.lok.inj _ _ _ hL hL'
 subst this
 obtain⟨v,h2,h3,h4⟩:=load_core (S.ok t ti hT) hf (off:=o) hlt (fun cs e=>by
  subst e
  exfalso
  have h2:SizeOf.sizeOf cs=SizeOf.sizeOf [AV.agg cs]:=congrArg SizeOf.sizeOf h1
  simp at h2
  omega) (π:=fun j=>some ([s]++[o+j])) (fun j z hz=>by
   rw [h1] at hz
   cases j with
   | zero=>simp only [List.getElem?_cons_zero,Option.some.injEq] at hz;subst hz;exact hcs o y hyo
   | succ j=>simp at hz)
 exact⟨v,fun w' e=>by simp only [execOp,hev,Instr.loadAt,Instr.sureAddr];simp [h2 w' e],Rel.putPlain (n:=d) hR (hN d rfl) rfl hsd ⟨b,hL,h4 h1,fun _=>by simpa using h3⟩⟩
theorem s_fadM{t sz by_ i off fty s:Nat}{fs:List (Nat×Nat)}{zz cs ys:List AV}{tif:TI}{x:Operand}(hq:x=.tmp s)(hs:FM.get σ s=.av (.pt true cs))(hT:S.T t=some ⟨.struct fs,sz,by_,zz⟩)(hf:fs[i]?=some (off,fty))(hF:S.T fty=some tif)(hc:Nat.beq tif.size 0=false)(hy:(cs.drop off).take tif.size=ys)(h12:Nat.blt 1 tif.size=true)(hsd:Nat.beq s d=false) :
  Step S ⟨some d,.fieldAddr t x i,ty,pos,aft,g⟩ σ (σ.put d (.fpt s off (.agg ys))):=by
 subst hq
 intro w0 L0 N a w hN ⟨L,hR⟩
 have hh:=hR.hold s (own_lt hR hs (by simp))
 rw [hs] at hh
 simp only [Hold] at hh
 obtain⟨b,hL,hp,_,hcs⟩:=pt_at hh
 obtain⟨fields,f,hu,hfi,h2,h3⟩:=(S.ok t _ hT).fld hf
 have hev:a.eval (.tmp s)=.pointer (some ⟨b,0,none⟩):=hp
 have hsz:=(S.ok fty _ hF).size
 rw [← h3] at hsz
 refine⟨.pointer (some ⟨b,0+f.offset,none⟩),fun w' _=>?_,Rel.putPlain (n:=d) hR (hN d rfl) rfl hsd ⟨b,hL,by rw [h2];simp,fun _ j z hz=>?_⟩⟩
 ·simp only [execOp,hev,Sem.run_bind,run_fieldAt hu hfi hsz (of_not_beq hc)];rfl
 ·have hz:ys[j]?=some z:=hz
  rw [← hy,List.getElem?_take] at hz
  split at hz
  ·rw [List.getElem?_drop] at hz;exact hcs (off+j) z hz
  ·cases hz
theorem w_fadM{t sz by_ i off fty s:Nat}{fs:List (Nat×Nat)}{zz cs ys:List AV}{tif:TI}{x:Operand}(hq:x=.tmp s)(hs:FM.get σ s=.av (.pt true cs))(hT:S.T t=some ⟨.struct fs,sz,by_,zz⟩)(hf:fs[i]?=some (off,fty))(hF:S.T fty=some tif)(hc:Nat.beq tif.size 0=false)(hy:(cs.drop off).take tif.size=ys)(h12:Nat.blt 1 tif.size=true)(hsd:Nat.beq s d=false) :
  StepW S ⟨some d,.fieldAddr t x i,ty,pos,aft,g⟩ σ (σ.put d (.fpt s off (.agg ys))):=by
 subst hq
 intro w0 L0 N a w hN ⟨L,hR⟩
 have hh:=hR.hold s (own_lt hR hs (by simp))
 rw [hs] at hh
 simp only [Hold] at hh
 obtain⟨b,hL,hp,_,hcs⟩:=pt_at hh
 obtain⟨fields,f,hu,hfi,h2,h3⟩:=(S.ok t _ hT).fld hf
 have hev:a.eval (.tmp s)=.pointer (some ⟨b,0,none⟩):=hp
 have hsz:=(S.ok fty _ hF).size
 rw [← h3] at hsz
 refine⟨.pointer (some ⟨b,0+f.offset,none⟩),fun w'=>?_,Rel.putPlain (n:=d) hR (hN d rfl) rfl hsd ⟨b,hL,by rw [h2];simp,fun _ j z hz=>?_⟩⟩
 ·simp only [execOp,hev,Sem.run_bind,run_fieldAt hu hfi hsz (of_not_beq hc)];rfl
 ·have hz:ys[j]?=some z:=hz
  rw [← hy,List.getElem?_take] at hz
  split at hz
  ·rw [List.getElem?_drop] at hz;exact hcs (off+j) z hz
  ·cases hz
theorem w_fadO{t sz by_ i off fty s:Nat}{fs:List (Nat×Nat)}{zz cs:List AV}{tif:TI}{y:AV}(hs:FM.get σ s=.av (.pt true cs))(hT:S.T t=some ⟨.struct fs,sz,by_,zz⟩)(hf:fs[i]?=some (off,fty))(hF:S.T fty=some tif)(hc:Nat.beq tif.size 0=false)(hy:cs[off]?=some y)(h1:y.cells=[y])(hsd:Nat.beq s d=false) :
  StepW S ⟨some d,.fieldAddr t (.tmp s) i,ty,pos,aft,g⟩ σ (σ.put d (.fpt s off y)):=by
 intro w0 L0 N a w hN ⟨L,hR⟩
 have hh:=hR.hold s (own_lt hR hs (by simp))
 rw [hs] at hh
 simp only [Hold] at hh
 obtain⟨b,hL,hp,_,hcs⟩:=pt_at hh
 obtain⟨fields,f,hu,hfi,h2,h3⟩:=(S.ok t _ hT).fld hf
 have hev:a.eval (.tmp s)=.pointer (some ⟨b,0,none⟩):=hp
 have hsz:=(S.ok fty _ hF).size
 rw [← h3] at hsz
 refine⟨.pointer (some ⟨b,0+f.offset,none⟩),fun w'=>?_,Rel.putPlain (n:=d) hR (hN d rfl) rfl hsd ⟨b,hL,by rw [h2];simp,fun _ j z hz=>?_⟩⟩
 ·simp only [execOp,hev,Sem.run_bind,run_fieldAt hu hfi hsz (of_not_beq hc)];rfl
 ·rw [h1] at hz
  cases j with
  | zero=>simp only [List.getElem?_cons_zero,Option.some.injEq] at hz;subst hz;simpa using hcs off _ hy
  | succ j=>simp at hz
theorem s_fadFF{t sz by_ i off fty s o:Nat}{fs:List (Nat×Nat)}{zz cs:List AV}{tif:TI}{y:AV}{x:Operand}(hx:ov σ x=.fpt s o (.agg cs))(hT:S.T t=some ⟨.struct fs,sz,by_,zz⟩)(hf:fs[i]?=some (off,fty))(hF:S.T fty=some tif)(hc:Nat.beq tif.size 0=false)(hy:cs[off]?=some y)(h1:y.cells=[y])(hsd:Nat.beq s d=false) :
  Step S ⟨some d,.fieldAddr t x i,ty,pos,aft,g⟩ σ (σ.put d (.fpt s (o+off) y)):=by
 intro w0 L0 N a w hN ⟨L,hR⟩
 obtain⟨_,⟨b,hL,hev,hcs⟩,_⟩:=hold_plain hR hx (by simp)
 obtain⟨fields,f,hu,hfi,h2,h3⟩:=(S.ok t _ hT).fld hf
 have hsz:=(S.ok fty _ hF).size
 rw [← h3] at hsz
 refine⟨.pointer (some ⟨b,o+f.offset,none⟩),fun w' _=>?_,Rel.putPlain (n:=d) hR (hN d rfl) rfl hsd ⟨b,hL,by rw [h2],fun _ j z hz=>?_⟩⟩
 ·simp only [execOp,hev,Sem.run_bind,run_fieldAt hu hfi hsz (of_not_beq hc)];rfl
 ·rw [h1] at hz
  cases j with
  | zero=>simp only [List.getElem?_cons_zero,Option.some.injEq] at hz;subst hz;simpa using hcs AV.noConfusion off _ hy
  | succ j=>simp at hz
theorem e_stFle{t s o:Nat}{ti:TI}{x v:Operand}{cs:List AV}{y0 z z':AV}(hx:ov σ x=.fpt s o y0)(hs:FM.get σ s=.av (.pt true cs))(hT:S.T t=some ti)(hv:ov σ v=.av z)(hle:AV.le z z')(hz:z.isOwn=false)(hok:z.varOk=true)(h1:z.cells=[z])(h1':z'.cells=[z'])(hc2:Nat.beq ti.size 1=true)(ho:Nat.blt o cs.length=true) :
  EStep S ⟨none,.store t x v,ty,pos,aft,g⟩ σ (σ.upd false s (.av (.pt true (cs.set o z')))):=by
 intro w0 L0 N a w _ ⟨L,hR⟩
 have hc3:=Nat.eq_of_beq_eq_true hc2
 have ho:o<cs.length:=by have:=Nat.le_of_ble_eq_true ho;omega
 obtain⟨_,⟨b,hL,hp,_⟩,_⟩:=hold_plain hR hx (by simp)
 have hsN:=own_lt hR hs (by simp)
 have hh:=hR.hold s hsN
 rw [hs] at hh
 simp only [Hold] at hh
 obtain⟨v1,v2,v3⟩:=val_cells hR hv hz hok
 obtain⟨W,hrun,hsz,ho',ht,hu,hother,hrep⟩:=pt_core hT (off:=o) (zs:=[z']) (cs':=cs.set o z') hL hR.lok.inj hh (by simp;omega) (by rw [hc3];rfl) (by rw [h1] at v1;exact v1) v2 (fun j y hy=>by
  cases j with
  | zero =>
   simp only [List.getElem?_cons_zero,Option.some.injEq] at hy;subst hy
   obtain⟨u,hu1,hu2⟩:=v3 0 z (by rw [h1];rfl)
   exact⟨u,hu1,Rep.le hle hu2⟩
  | succ j=>simp at hy) (by simp) (fun j y hy=>by
  rw [List.getElem?_set] at hy
  by_cases hoj:o=j
  ·subst hoj
   rw [if_pos rfl,if_pos ho] at hy
   exact .inl ⟨Nat.le_refl _,by simp,by simpa using hy⟩
  ·rw [if_neg hoj] at hy
   exact .inr ⟨by simp;omega,hy⟩)
 exact⟨undef,W,.inr ⟨by simp only [execOp,hp,Sem.run_bind,hrun];rfl,rfl⟩,L,hR.write (b:=b) (q0:=[]) hsN hL hsz ho' ht hu hother hrep false (fun h=>by cases h)⟩
theorem e_st42{t s:Nat}{ti:TI}{x v:Operand}{y0 c0 c1 c2 c3 z0 z1:AV}(hx:ov σ x=.fpt s 2 y0)(hs:FM.get σ s=.av (.pt true [c0,c1,c2,c3]))(hT:S.T t=some ti)(hv:ov σ v=.av (.agg [z0,z1]))(hok:(AV.agg [z0,z1]).varOk=true)(hc2:Nat.beq ti.size 2=true) :
  EStep S ⟨none,.store t x v,ty,pos,aft,g⟩ σ (σ.upd false s (.av (.pt true [c0,c1,z0,z1]))):=by
 intro w0 L0 N a w _ ⟨L,hR⟩
 have hc3:=Nat.eq_of_beq_eq_true hc2
 obtain⟨_,⟨b,hL,hp,_⟩,_⟩:=hold_plain hR hx (by simp)
 have hsN:=own_lt hR hs (by simp)
 have hh:=hR.hold s hsN
 rw [hs] at hh
 simp only [Hold] at hh
 obtain⟨v1,v2,v3⟩:=val_cells hR hv rfl hok
 obtain⟨W,hrun,hsz,ho',ht,hu,hother,hrep⟩:=pt_core hT (off:=2) (zs:=[z0,z1]) (cs':=[c0,c1,z0,z1]) hL hR.lok.inj hh (by simp) (by rw [hc3];rfl) v1 v2 v3 (by simp) (fun j y hy=>by
  match j with
  | 0=>exact .inr ⟨by simp,hy⟩
  | 1=>exact .inr ⟨by simp,hy⟩
  | 2=>exact .inl ⟨by simp,by simp,hy⟩
  | 3=>exact .inl ⟨by simp,by simp,hy⟩
  | j+4=>simp at hy)
 exact⟨undef,W,.inr ⟨by simp only [execOp,hp,Sem.run_bind,hrun];rfl,rfl⟩,L,hR.write (b:=b) (q0:=[]) hsN hL hsz ho' ht hu hother hrep false (fun h=>by cases h)⟩
end
theorem StepW.ext{S:Sys}{σ σ':St}{d ty i:Nat}{x:Operand}{pos:String}{aft:Array Edge}{g:Option (Nat×Bool)}(h:Step S ⟨some d,.extract x i,ty,pos,aft,g⟩ σ σ'):StepW S ⟨some d,.extract x i,ty,pos,aft,g⟩ σ σ':=by
 intro w0 L0 N a w hN hR
 obtain⟨v,h1,h2⟩:=h w0 L0 N a w hN hR
 refine⟨v,fun w'=>?_,h2⟩
 have h3:=h1 w (Ext.refl w)
 simp only [execOp] at h3 ⊢
 unfold Instr.extract at h3 ⊢
 cases hx:a.eval x with
 | tuple us =>
  rw [hx] at h3
  cases hu:us[i]? with
  | some u=>simp [hu] at h3 ⊢;exact h3
  | none=>simp [hu] at h3
 | _=>rw [hx] at h3;simp at h3
theorem CW.regU{S:Sys}{N:Nat}{σ:St}{l:List Oper}{id:Nat}{Q:Exit→St→Prop}(n gg:Nat)(hg:l.length-n=gg)(fin:List Bool)(hB:headB l n fin=true)(hd:dstOk S N l=true)(h:J true S N l.toArray (l.take n) (JA S N l.toArray gg fin (Q .normal)) σ):CW S N (.region id l.toArray true) Q σ:=by
 subst hg
 exact CW.regT n fin hB hd h
theorem J.callFld{S:Sys}{N:Nat}{σ:St}{P:Program}{f:Nat}{x x' a0 b0:AV}{rest:List AV}{r:AV}{xs:List Operand}{ops:Array Oper}{l:List Oper}{K:St→Prop}{d s t ty:Nat}{ts:Array Nat}{pos:String}{aft:Array Edge}{g:Option (Nat×Bool)}(hs:FnSpec P f (x::rest) (x'::rest) r)(hP:P=S.P)(hg:live ops g σ=some true)
  (h1:FM.get σ t=.rref s 2 x) (h2:FM.get σ s=.av (.pt true [a0,b0,x])) (hx:x≠.dead) (h3:Nat.beq t d=false) (h4:Nat.beq s d=false) (h5:Nat.beq s t=false) (ha:ArgsM S N ((σ.upd false s (.av (.pt true [a0,b0,.dead]))).put t (.av x)) [(t,0)] 1 xs rest) (hr:NoSh r) (hn:NoSh x') (hc:x'.cells=[x'])
  (h:J false S N ops l K ((((((σ.upd false s (.av (.pt true [a0,b0,.dead]))).put t (.av x)).put d (.av r)).put t (.av x')).put t .none).upd false s (.av (.pt true [a0,b0,x'])))) :
  J false S N ops (⟨some d,.call ⟨.value (.func f),(.tmp t::xs).toArray,ts⟩,ty,pos,aft,g⟩::l) K σ:=by
 subst hP
 unfold J at *
 intro hdo w0 L0 Q a w hQ hR
 obtain⟨g1,g2⟩:=dstOk_cons hdo
 have hd:=g1 d rfl
 have hw:=live_wanted (o:=⟨some d,.call ⟨.value (.func f),(.tmp t::xs).toArray,ts⟩,ty,pos,aft,g⟩) hg hR
 simp only [wpList,hw,if_true]
 refine .inl ?_
 unfold Oper.wp
 rw [run_call (xs:=.tmp t::xs) hs.ok rfl rfl w,Oper.upon_enter]
 obtain⟨L,hR⟩:=hR
 have hst:=of_not_beq h5
 have htd:=of_not_beq h3
 have hsd:=of_not_beq h4
 have hsN:=own_lt hR h2 (by simp)
 have htN:=own_lt hR h1 (by simp)
 have hR1:RelL S w0 L0 N ((σ.upd false s (.av (.pt true [a0,b0,.dead]))).put t (.av x)) a w (mvl [s,2] t L):=hR.takeBox (i:=2) h2 h1 hx hst (by simp)
 have hs0:=hR.hold s hsN
 rw [h2] at hs0
 simp only [Hold] at hs0
 obtain⟨b1,hLb,hpv,hlt,_⟩:=pt_at hs0
 have ht0:=hR.hold t htN
 rw [h1] at ht0
 obtain⟨b2,hLb2,hcell,_⟩:=ht0
 have hbb:=hR.lok.inj _ _ _ hLb2 hLb
 subst hbb
 have e1:FM.get ((σ.upd false s (.av (.pt true [a0,b0,.dead]))).put t (.av x)) t=.av x:=by simp [FM.get,Nat.beq_refl]
 have hlen:=ha.length
 have hms:MOk d (xs.length+1) [(t,0)]:=.one h3 (by simp [Nat.blt])
 have ha':ArgsM S N ((σ.upd false s (.av (.pt true [a0,b0,.dead]))).put t (.av x)) [(t,0)] 0 (.tmp t::xs) (x::rest):=.cons (.mu (s:=t) (by unfold slotAt;simp only [e1]) e1 (by simp [idxM,Nat.beq_refl])) ha
 have hLm:inM [(t,0)] (mvl [s,2] t L) b2=.sh:=inM_no (t:=s) (q:=[]) (mvl_keep hLb hst (by simp [strip])) (by simp [idxM,not_beq (fun e=>hst e.symm:t≠s)])
 have mem:∀ {s' i:Nat},idxM [(t,0)] s'=some i→s'=t∧i=0:=fun{s' i} hi=>by
  simp only [idxM] at hi
  cases hb:Nat.beq t s' with
  | true=>rw [hb,cond_true] at hi;injection hi with hi;exact⟨(Nat.eq_of_beq_eq_true hb).symm,hi.symm⟩
  | false=>rw [hb,cond_false] at hi;cases hi
 have hlr:(x::rest).length=xs.length+1:=by rw [List.length_cons,hlen]
 have hcalls:=hs.calls w (inM [(t,0)] (mvl [s,2] t L)) ((Operand.tmp t::xs).map a.eval) (by rw [List.length_map,List.length_cons,hlen];rfl)
 rw [hlr] at hcalls
 refine(hcalls ⟨fun b p hb=>?_,fun b p hb=>?_,fun b b' p hb hb'=>?_,fun b hge hf=>?_,hR1.globNow.move (Nat.le_refl _) fun b _ h=>⟨inM_sh h,rfl⟩⟩ (fun i y v hy hv=>?_)).mono fun e w' ⟨v,L',he,hB⟩=>?_
 ·obtain⟨t',i,q,h3,_,_⟩:=inM_my hb;exact hR1.lok.lt b _ h3
 ·obtain⟨t',i,q,_,h3,h4⟩:=inM_my hb;exact⟨i,q,h4,hms.lt _ _ h3⟩
 ·obtain⟨t1,i,q,h3,h4,h5⟩:=inM_my hb
  obtain⟨t',i',q',h3',h4',h5'⟩:=inM_my hb'
  rw [h5] at h5';cases h5'
  have e1:=hms.inv _ _ h4
  have e2:=hms.inv _ _ h4'
  rw [e1] at e2;cases e2
  exact hR1.lok.inj _ _ _ h3 h3'
 ·have:=inM_fo.1 hf
  exact hR1.lok.new b (Nat.le_trans hR1.keep.size hge) this
 ·rw [List.getElem?_map,Option.map_eq_some_iff] at hv
  obtain⟨y',hy',rfl⟩:=hv
  have:=(ha'.get i y' y hy' hy).rep hR1
  rwa [Nat.zero_add] at this
 ·subst he
  obtain⟨L2,hR2⟩:=after_callM hR1 hd hms hB hr fun s' i hi=>by
   obtain⟨rfl,rfl⟩:=mem hi
   exact⟨htN,rfl,x',rfl,hn⟩
  have hblk:w'.heap[b2]?=w.heap[b2]?:=hB.keep.block b2 hlt fun q hq=>by rw [hLm] at hq;cases hq
  have gs:FM.get (putM [(t,0)] (x'::rest) (((σ.upd false s (.av (.pt true [a0,b0,.dead]))).put t (.av x)).put d (.av r))) s=.av (.pt true [a0,b0,.dead]):=by
   simp [putM,FM.get,not_beq (fun e=>hst e.symm:t≠s),not_beq (fun e=>hsd e.symm:d≠s),Nat.beq_refl,TV.kill]
  have gt:FM.get (putM [(t,0)] (x'::rest) (((σ.upd false s (.av (.pt true [a0,b0,.dead]))).put t (.av x)).put d (.av r))) t=.av x':=by
   simp [putM,FM.get,Nat.beq_refl]
  have hR3:=hR2.intoBox (s:=s) (i:=2) (t0:=t) gs gt hc (fun e=>hst e.symm) (by simp) (fun b hb=>by
   have hh:=hR2.hold s hsN
   rw [gs] at hh
   simp only [Hold] at hh
   obtain⟨b3,h31,h32,_,_⟩:=pt_at hh
   have e3:(a.put (some d) v).tmps.getD s undef=a.tmps.getD s undef:=getD_set_other (fun e=>hsd e.symm)
   have e4:(a.put (some d) v).tmps.getD t undef=a.tmps.getD t undef:=getD_set_other (fun e=>htd e.symm)
   rw [e3,hpv] at h32
   have h33:b2=b3:=by injection h32 with h;injection h with h;injection h
   have:=hR2.lok.inj _ _ _ hb h31
   subst this
   rw [e4,←h33,cell_of_heap hblk]
   exact hcell)
  exact h g2 w0 L0 Q _ w' hQ ⟨_,hR3⟩
theorem J.bldBox{S:Sys}{N:Nat}{σ:St}{t by_ c1 c2:Nat}{fs:List (Nat×Nat)}{u0:Value}{xs:List AV}{ops:Array Oper}{l:List Oper}{K:St→Prop}{d d3 s ty ty2:Nat}{pos pos2:String}{aft aft2:Array Edge}
  (hT:S.T t=some ⟨.struct fs,3,by_,[.nil,.nil,.val u0]⟩) (hf:ones1 S.T fs 0=true) (hl:Nat.beq fs.length 3=true) (hs:FM.get σ s=.av (.pt true xs)) (h1:Nat.beq s d=false) (h2:Nat.beq s d3=false) (h3:Nat.beq d d3=false)
  (h:J false S N ops l K ((((σ.put d .none).put d3 (.av (.pt true [.sl false c1 [],.sl false c2 [],.dead]))).put s .none).upd false d3 (.av (.pt true [.sl false c1 [],.sl false c2 [],.pt true xs])))) :
  J false S N ops (⟨some d,.build t #[(2,.tmp s)],ty,pos,aft,none⟩::⟨some d3,.box t (.tmp d),ty2,pos2,aft2,none⟩::l) K σ:=by
 unfold J at *
 intro hdo w0 L0 Q a w hQ ⟨L,hR⟩
 obtain⟨g1,g2⟩:=dstOk_cons hdo
 obtain⟨g3,g4⟩:=dstOk_cons g2
 have hd:=g1 d rfl
 have hd3:=g3 d3 rfl
 have hsN:=own_lt hR hs (by simp)
 have hsd:=of_not_beq h1
 have hsd3:=of_not_beq h2
 have hdd:=of_not_beq h3
 have hh:=hR.hold s hsN
 rw [hs] at hh
 simp only [Hold] at hh
 obtain⟨bs,hLs,hps,_,_⟩:=pt_at hh
 obtain⟨u,hu⟩:∃ u,u=Value.pointer (some ⟨bs,0,none⟩):=⟨_,rfl⟩
 rw [← hu] at hps
 have huc:(AV.val u).cellOk=true:=by rw [hu];rfl
 have hg1:FM.get (ofL [(s,.av (.val u))]) s=.av (.val u):=by simp [ofL,FM.get,Nat.beq_refl]
 have hRv:RelL S w0 L0 N (ofL [(s,.av (.val u))]) a w L:=⟨hR.defers,hR.size,hR.keep,hR.lok,fun n hn=>by
   by_cases e:s=n
   ·subst e;rw [hg1];simp only [Hold];rw [hps];exact .val
   ·simp only [ofL,FM.get,not_beq e,cond_false];trivial,fun n hn=>by
   have:s≠n:=by omega
   simp only [ofL,FM.get,not_beq this,cond_false];rfl,hR.fix,hR.glob⟩
 obtain⟨v,hv1,L1,hv2⟩:=s_bldS (S:=S) (σ:=ofL [(s,.av (.val u))]) (d:=d) (ty:=ty) (pos:=pos) (aft:=aft) (g:=none) (ps:=#[(2,.tmp s)]) (ys:=[.nil,.nil,.val u]) hT hf hl (.zero (.zero (.part rfl hg1 huc rfl .nil))) w0 L0 N a w g1 ⟨L,hRv⟩
 have hv3:=hv2.hold d hd.lt
 rw [show FM.get ((ofL [(s,.av (.val u))]).put d (.av (.agg [.nil,.nil,.val u]))) d=.av (.agg [.nil,.nil,.val u]) by simp [FM.get,Nat.beq_refl]] at hv3
 simp only [Hold] at hv3
 rw [show(a.put (some d) v).tmps.getD d undef=v from getD_set_same (by rw [hR.size];exact hd.lt)] at hv3
 have hve:∀ (L:Nat→Lab) (w:World) π,Rep L w π (.agg [.sl false c1 [],.sl false c2 [],.val u]) v:=by
  generalize v=vv at hv3
  cases hv3 with
  | @agg _ _ vs hl h =>
   match vs,hl,h with
   | [x,y,z],_,h =>
    have e0:=h 0 _ _ rfl rfl
    have e1:=h 1 _ _ rfl rfl
    have e2:=h 2 _ _ rfl rfl
    cases e0;cases e1;cases e2
    intro L w π
    refine .agg rfl fun i x v hx hv=>?_
    match i with
    | 0=>simp only [List.getElem?_cons_zero,Option.some.injEq] at hx hv;subst hx;subst hv;exact .slE (fun h=>by cases h)
    | 1=>simp only [List.getElem?_cons_succ,List.getElem?_cons_zero,Option.some.injEq] at hx hv;subst hx;subst hv;exact .slE (fun h=>by cases h)
    | 2=>simp only [List.getElem?_cons_succ,List.getElem?_cons_zero,Option.some.injEq] at hx hv;subst hx;subst hv;exact .val
    | i+3=>simp at hx
 have hR2:RelL S w0 L0 N (σ.put d (.av (.agg [.sl false c1 [],.sl false c2 [],.val u]))) (a.put (some d) v) w (clear d L):=hR.put hd (hve _ _ _)
 have hgd:FM.get (σ.put d (.av (.agg [.sl false c1 [],.sl false c2 [],.val u]))) d=.av (.agg [.sl false c1 [],.sl false c2 [],.val u]):=by simp [FM.get,Nat.beq_refl]
 obtain⟨v3,w3,hv4,L3,hR3⟩:=e_box (S:=S) (σ:=σ.put d (.av (.agg [.sl false c1 [],.sl false c2 [],.val u]))) (d:=d3) (ty:=ty2) (pos:=pos2) (aft:=aft2) (g:=none) (t:=t) (v:=.tmp d) (z:=.agg [.sl false c1 [],.sl false c2 [],.val u]) hgd rfl (by rw [hu];rfl) w0 L0 N (a.put (some d) v) w g3 ⟨_,hR2⟩
 have es:((a.put (some d) v).put (some d3) v3).tmps.getD s undef=u:=by
  rw [show((a.put (some d) v).put (some d3) v3).tmps.getD s undef=(a.put (some d) v).tmps.getD s undef from getD_set_other (fun e=>hsd3 e.symm),show(a.put (some d) v).tmps.getD s undef=a.tmps.getD s undef from getD_set_other (fun e=>hsd e.symm),hps]
 have k1:FM.get ((σ.put d (.av (.agg [.sl false c1 [],.sl false c2 [],.val u]))).put d3 (.av (.pt true (AV.agg [.sl false c1 [],.sl false c2 [],.val u]).cells))) d3=.av (.pt true [.sl false c1 [],.sl false c2 [],.val u]):=by simp [FM.get,Nat.beq_refl,AV.cells]
 have k2:FM.get ((σ.put d (.av (.agg [.sl false c1 [],.sl false c2 [],.val u]))).put d3 (.av (.pt true (AV.agg [.sl false c1 [],.sl false c2 [],.val u]).cells))) s=.av (.pt true xs):=by
  simp [FM.get,not_beq (fun e=>hsd e.symm:d≠s),not_beq (fun e=>hsd3 e.symm:d3≠s),hs,TV.kill]
 have hR4:=hR3.intoBox (s:=d3) (i:=2) (t0:=s) k1 k2 rfl hsd3 (by simp) (fun b hb=>by
  have hh:=hR3.hold d3 hd3.lt
  rw [k1] at hh
  simp only [Hold] at hh
  obtain⟨b3,h31,h32,_,h34⟩:=pt_at hh
  have:=hR3.lok.inj _ _ _ hb h31
  subst this
  obtain⟨q,hq1,hq2⟩:=h34 2 _ rfl
  cases hq2
  rw [es]
  exact hq1)
 have hR5:Rel S w0 L0 N ((((σ.put d .none).put d3 (.av (.pt true [.sl false c1 [],.sl false c2 [],.dead]))).put s .none).upd false d3 (.av (.pt true [.sl false c1 [],.sl false c2 [],.pt true xs]))) ((a.put (some d) v).put (some d3) v3) w3:=by
  refine Rel.weaken (fun n=>?_) ⟨_,hR4⟩
  simp only [FM.get]
  by_cases e1:d3=n
  ·subst e1;left;simp only [Nat.beq_refl,cond_true];rfl
  ·simp only [not_beq e1,cond_false]
   by_cases e2:s=n
   ·subst e2;left;simp only [Nat.beq_refl,cond_true]
   ·simp only [not_beq e2,cond_false]
    by_cases e3:d=n
    ·subst e3;right;simp [Nat.beq_refl,TV.kill,TV.stale]
    ·simp only [not_beq e3,cond_false];left;trivial
 have hk:wpList S.P ops Q (⟨some d3,.box t (.tmp d),ty2,pos2,aft2,none⟩::l) (a.put (some d) v) w:=by
  rw [wpList,if_pos (live_wanted (ops:=ops) (o:=⟨some d3,.box t (.tmp d),ty2,pos2,aft2,none⟩) (b:=true) rfl ⟨_,hR2⟩)]
  refine .inl ?_
  unfold Oper.wp
  rcases hv4 with e|⟨e,rfl⟩
  ·rw [e];exact h g4 w0 L0 Q _ w3 hQ hR5
  ·rw [e];exact h g4 w0 L0 Q _ w3 hQ hR5
 rw [wpList,if_pos (live_wanted (ops:=ops) (o:=⟨some d,.build t #[(2,.tmp s)],ty,pos,aft,none⟩) (b:=true) rfl ⟨_,hR⟩)]
 refine .inl ?_
 unfold Oper.wp
 rw [hv1 w (Ext.refl w)]
 exact hk
theorem w9f{A B:Prop}{P:Program}{f:Nat}{x y:AV}{rest:List AV}{r:AV}(hs:FnSpec P f (x::rest) (y::rest) r)(g:B)(h:FnSpec P f (x::rest) (y::rest) r→Wr B→A:=by intro hs9 g9;first|exact J.callFld hs9 rfl rfl rfl rfl AV.noConfusion rfl rfl rfl (by repeat' (first|exact ArgsM.nil|apply ArgsM.cons|exact ArgM.pl rfl rfl)) NoShI.out NoShI.out rfl g9.out|fail):A:=h hs ⟨g⟩
theorem JA.oneK{S:Sys}{N:Nat}{l:List Oper}{fuel:Nat}{listed:List Bool}{K:St→Prop}{σ:St}{i:Nat}{oi:Oper}(_:K9 fuel i)(hr:readyL l listed=[i])(ho:l[i]?=some oi)(h:(J false S N l.toArray [oi] (JA S N l.toArray fuel (listed.set i true) K) σ)):JA S N l.toArray (fuel+1) listed K σ:=.one hr ho h
theorem JA.twoK{S:Sys}{N:Nat}{l:List Oper}{fuel:Nat}{listed:List Bool}{K:St→Prop}{σ:St}{i j:Nat}{oi oj:Oper}(_:K92 fuel i j)(hr:readyL l listed=[i,j])(ho:l[i]?=some oi)(ho':l[j]?=some oj)(h:(J false S N l.toArray [oi] (JA S N l.toArray fuel (listed.set i true) K) σ))(h':(J false S N l.toArray [oj] (JA S N l.toArray fuel (listed.set j true) K) σ)):JA S N l.toArray (fuel+1) listed K σ:=.two hr ho ho' h h'
theorem JA.threeK{S:Sys}{N:Nat}{l:List Oper}{fuel:Nat}{listed:List Bool}{K:St→Prop}{σ:St}{i j k:Nat}{oi oj ok:Oper}(_:K93 fuel i j k)(hr:readyL l listed=[i,j,k])(h1:l[i]?=some oi)(h2:l[j]?=some oj)(h3:l[k]?=some ok)(g1:(J false S N l.toArray [oi] (JA S N l.toArray fuel (listed.set i true) K) σ))(g2:(J false S N l.toArray [oj] (JA S N l.toArray fuel (listed.set j true) K) σ))(g3:(J false S N l.toArray [ok] (JA S N l.toArray fuel (listed.set k true) K) σ)):JA S N l.toArray (fuel+1) listed K σ:=.three hr h1 h2 h3 g1 g2 g3
theorem w9J0{A B:Prop}(g:B)(h:Wr B→A:=by intro g9;first|((apply JA.done (fuel:=0));decide +kernel;exact g9.out)|fail):A:=h ⟨g⟩
theorem w9J1{A B:Prop}(f i:Nat)(g:B)(h:K9 f i→Wr B→A:=by intro k9 g9;first|((apply JA.oneK k9);decide +kernel;rfl;exact g9.out)|fail):A:=h ⟨⟩ ⟨g⟩
theorem w9J2{A B C:Prop}(f i j:Nat)(g:B)(g':C)(h:K92 f i j→Wr B→Wr C→A:=by intro k9 g9 c9;first|((apply JA.twoK k9);decide +kernel;rfl;rfl;exact g9.out;exact c9.out)|fail):A:=h ⟨⟩ ⟨g⟩ ⟨g'⟩
theorem w9J3{A B C D:Prop}(f i j k:Nat)(g:B)(g':C)(g'':D)(h:K93 f i j k→Wr B→Wr C→Wr D→A:=by intro k9 g9 c9 d9;first|((apply JA.threeK k9);decide +kernel;rfl;rfl;rfl;exact g9.out;exact c9.out;exact d9.out)|fail):A:=h ⟨⟩ ⟨g⟩ ⟨g'⟩ ⟨g''⟩
theorem JA.takeK{S:Sys}{N:Nat}{l:List Oper}{fuel:Nat}{listed:List Bool}{K:St→Prop}{σ:St}{σ':St}{i:Nat}{o:Oper}{x:Operand}(_:K9 fuel i)(ho:l[i]?=some o)(hx:o.op=.move x∨o.op=.assign x)(hg:o.guard=none)(hB:(Region.noSelect l.toArray&&Region.free .any l.toArray listed.toArray i&&(readyL l listed).contains i)=true)(hs:Step S o σ σ')(h:JA S N l.toArray fuel (listed.set i true) K σ'):JA S N l.toArray (fuel+1) listed K σ:=.take ho hx hg hB hs h
theorem JA.takeWK{S:Sys}{N:Nat}{l:List Oper}{fuel:Nat}{listed:List Bool}{K:St→Prop}{σ:St}{σ':St}{i:Nat}{o:Oper}(_:K9 fuel i)(ho:l[i]?=some o)(hg:o.guard=none)(hB:(Region.noSelect l.toArray&&Region.free .any l.toArray listed.toArray i&&(readyL l listed).contains i)=true)(hs:StepW S o σ σ')(h:JA S N l.toArray fuel (listed.set i true) K σ'):JA S N l.toArray (fuel+1) listed K σ:=.takeW ho hg hB hs h
theorem w9Jt{A B:Prop}(f i:Nat)(g:B)(h:K9 f i→Wr B→A:=by intro k9 g9;first|((apply JA.takeK k9);rfl;(first|exact .inl rfl|exact .inr rfl);rfl;decide +kernel;exact FM.st;exact g9.out)|fail):A:=h ⟨⟩ ⟨g⟩
theorem w9Jw{A B:Prop}(f i:Nat)(g:B)(h:K9 f i→Wr B→A:=by intro k9 g9;first|((apply JA.takeWK k9);rfl;rfl;decide +kernel;(first|exact(StepW.ext FM.st)|exact(StepW.mov (.inl rfl) FM.st)|exact(StepW.mov (.inr rfl) FM.st)|((with_reducible apply w_ixaSh)<;>exact w9l)|exact(w_nilR rfl rfl rfl)|((with_reducible apply w_strAdd)<;>(first|rfl|exact w9l))|((with_reducible apply w_add)<;>(first|rfl|exact InR.mk (by omega)))|exact w_fadM rfl rfl rfl rfl rfl rfl rfl rfl rfl|exact w_fadO rfl rfl rfl rfl rfl rfl rfl rfl|exact w_fadR rfl rfl rfl rfl rfl rfl rfl rfl rfl|exact w_fadDh rfl rfl rfl rfl rfl rfl rfl);exact g9.out)|fail):A:=h ⟨⟩ ⟨g⟩
theorem CW.regUK{S:Sys}{N:Nat}{σ:St}{l:List Oper}{id:Nat}{Q:Exit→St→Prop}{n gg:Nat}(_:K9 n gg)(hg:l.length-n=gg)(hB:headB l n (List.replicate n true++List.replicate gg false)=true)(hd:dstOk S N l=true)(h:J true S N l.toArray (l.take n) (JA S N l.toArray gg (List.replicate n true++List.replicate gg false) (Q .normal)) σ):CW S N (.region id l.toArray true) Q σ:=.regU n gg hg _ hB hd h
theorem w9U{A B:Prop}(n m:Nat)(g:B)(h:K9 n m→Wr B→A:=by intro k9 g9;first|((refine CW.regUK k9 ?_ ?_ ?_ ?_);rfl;decide +kernel;rfl;simp only [List.take_succ_cons,List.take_zero];exact g9.out)|fail):A:=h ⟨⟩ ⟨g⟩
end FM
