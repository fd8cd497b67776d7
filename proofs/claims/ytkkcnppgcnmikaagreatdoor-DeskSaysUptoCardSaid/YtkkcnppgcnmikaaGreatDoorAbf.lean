/- Calls that turn what the caller owns and hand out what is shared: nothing else of the caller's is read. No program in sight. -/
import Derived.Test.YtkkcnppgcnmikaaGreatDoorAbe
import Derived.OrdersHeld
namespace FM
open Go Go.RowKit
set_option linter.all false
def inH(ms:List (Nat×Nat))(L:Nat→Lab):Nat→Lab:=fun b=>match L b with
 | .my (t::q)=>match idxM ms t with
  | some i=>.my (i::q)
  | none=>.fo
 | .my []=>.fo
 | l=>l
theorem inH_my{ms:List (Nat×Nat)}{L:Nat→Lab}{b:Nat}{p:List Nat}(h:inH ms L b=.my p):∃ t i q,L b=.my (t::q)∧idxM ms t=some i∧p=i::q:=by
 unfold inH at h
 cases hL:L b with
 | my p' =>
  rw [hL] at h
  cases p' with
  | nil=>cases h
  | cons t q =>
   simp only at h
   cases hi:idxM ms t with
   | some i=>rw [hi] at h;injection h with h;exact⟨t,i,q,rfl,hi,h.symm⟩
   | none=>rw [hi] at h;cases h
 | sh=>rw [hL] at h;cases h
 | fo=>rw [hL] at h;cases h
theorem inH_to{ms:List (Nat×Nat)}{L:Nat→Lab}{b t i:Nat}{q:List Nat}(h:L b=.my (t::q))(hi:idxM ms t=some i):inH ms L b=.my (i::q):=by simp only [inH,h,hi]
theorem inH_no{ms:List (Nat×Nat)}{L:Nat→Lab}{b t:Nat}{q:List Nat}(h:L b=.my (t::q))(hi:idxM ms t=none):inH ms L b=.fo:=by simp only [inH,h,hi]
theorem inH_sh{ms:List (Nat×Nat)}{L:Nat→Lab}{b:Nat}(h:L b=.sh):inH ms L b=.sh:=by simp only [inH,h]
theorem inH_fo{ms:List (Nat×Nat)}{L:Nat→Lab}{b:Nat}(h:L b=.fo):inH ms L b=.fo:=by simp only [inH,h]
theorem inH_fo'{ms:List (Nat×Nat)}{L:Nat→Lab}{b:Nat}(h:inH ms L b=.fo):L b=.fo∨∃ p,L b=.my p:=by
 unfold inH at h
 cases hL:L b with
 | my p=>exact .inr ⟨p,rfl⟩
 | sh=>rw [hL] at h;cases h
 | fo=>exact .inl rfl
section
variable {S:Sys} {N:Nat} {σ:St}
theorem after_callH{w0:World}{L0:Nat→Lab}{a:Act}{w:World}{L:Nat→Lab}(hR:RelL S w0 L0 N σ a w L){d:Nat}(hd:DOk S N d){n:Nat}{ms:List (Nat×Nat)}(hms:MOk d n ms){xs9':List AV}{r:AV}{vs:List Value}{v:Value}{w':World}{L':Nat→Lab}(hB:Back n xs9' r (inH ms L) w vs v w' L')
  (hm:∀ s i,idxM ms s=some i→s<N∧vs[i]?=some (a.tmps.getD s undef)∧∃ y,xs9'[i]?=some y):Rel S w0 L0 N (putM ms xs9' (σ.put d (.av r))) (a.put (some d) v) w':=by
 have hin:∀ b p,b<w.heap.size→L' b=.my p→∃ q,inH ms L b=.my q:=hB.lok.old
 have hnmy:∀ b,b<w.heap.size→(∀ q,inH ms L b≠.my q)→(∀ q,L' b≠.my q)∧w'.heap[b]?=w.heap[b]?:=fun b hb hno=>⟨fun q hq=>by obtain⟨q',hq'⟩:=hin b q hb hq;exact hno q' hq',hB.keep.block b hb hno⟩
 have hsh:∀ b,L b=.sh→b<w.heap.size→outM n d ms w.heap.size L L' b=.sh∧w'.heap[b]?=w.heap[b]?:=fun b hb hlt=>by
  obtain⟨h1,h2⟩:=hnmy b hlt (fun q hq=>by rw [inH_sh hb] at hq;cases hq)
  exact⟨outM_sh hb h1,h2⟩
 have hshr:∀ b,L' b=.sh→outM n d ms w.heap.size L L' b=.sh:=fun b hb=>by
  unfold outM
  rw [hb]
  dsimp only
  split
  ·rename_i hlt
   have hno:inH ms L b≠.fo:=fun e=>by have:=(hB.lok.fo b hlt).2 e;rw [hb] at this;cases this
   cases hL:L b with
   | my p =>
    cases p with
    | nil=>rfl
    | cons t q =>
     cases hi:idxM ms t with
     | none=>exact absurd (inH_no hL hi) hno
     | some i=>simp [hi]
   | sh=>rfl
   | fo=>exact absurd (inH_fo hL) hno
  ·rfl
 have hold:∀ b t q,L b=.my (t::q)→(t≠d∧idxM ms t=none)→outM n d ms w.heap.size L L' b=.my (t::q)∧w'.heap[b]?=w.heap[b]?:=fun b t q hb ⟨h1,h2⟩=>by
  have hlt:=hR.lok.lt b _ hb
  obtain⟨h3,h4⟩:=hnmy b hlt (fun q hq=>by rw [inH_no hb h2] at hq;cases hq)
  exact⟨outM_old hb hlt h3 h1 h2,h4⟩
 have htm:∀ t,t≠d→(a.put (some d) v).tmps.getD t undef=a.tmps.getD t undef:=fun t ht=>getD_set_other (fun e=>ht e.symm)
 refine⟨outM n d ms w.heap.size L L',hR.defers,by simp [Act.put,hR.size],⟨hB.keep.os.trans hR.keep.os,hB.keep.tape.trans hR.keep.tape,hB.keep.output.trans hR.keep.output,Nat.le_trans hR.keep.size hB.keep.size,fun b hb hno=>?_⟩,
  ⟨fun b p hb=>?_,fun b b' p hb hb'=>?_,fun b p hb=>?_,fun b p hlt hb=>?_,fun b hlt=>?_,fun b hge hf=>?_⟩,fun m hm'=>?_,fun m hm'=>?_,fun i hi=>(getD_set_other (hd.ne hi)).trans (hR.fix i hi),hR.glob⟩
 ·have hlt:=Nat.lt_of_lt_of_le hb hR.keep.size
  refine(hB.keep.block b hlt fun p hp=>?_).trans (hR.keep.block b hb hno)
  obtain⟨t,i,q,h1,_,_⟩:=inH_my hp
  obtain⟨q',h2⟩:=hR.lok.old b _ hb h1
  exact hno q' h2
 ·rcases outM_my hb with⟨q,h1,_⟩|⟨k,s,q,h1,_⟩|⟨h1,_⟩
  ·exact hB.lok.lt b _ h1
  ·exact hB.lok.lt b _ h1
  ·exact Nat.lt_of_lt_of_le h1 hB.keep.size
 ·rcases outM_my hb with⟨q,h1,h2⟩|⟨k,s,q,h1,h2,h3,h4⟩|⟨h1,h2,t,q,h3,h4,h5,h6⟩<;>rcases outM_my hb' with⟨q',h1',h2'⟩|⟨k',s',q',h1',h2',h3',h4'⟩|⟨h1',h2',t',q',h3',h4',h5',h6'⟩
  ·rw [h2] at h2';cases h2';exact hB.lok.inj _ _ _ h1 h1'
  ·rw [h2] at h4';cases h4';have:=hms.inv' _ _ h3';rw [hms.nd] at this;cases this
  ·rw [h2] at h6';cases h6';exact absurd rfl h4'
  ·rw [h4] at h2';cases h2';have:=hms.inv' _ _ h3;rw [hms.nd] at this;cases this
  ·rw [h4] at h4';cases h4'
   have e1:=hms.inv' _ _ h3
   have e2:=hms.inv' _ _ h3'
   rw [e1] at e2;cases e2
   exact hB.lok.inj _ _ _ h1 h1'
  ·rw [h4] at h6';cases h6';have:=hms.inv' _ _ h3;rw [h5'] at this;cases this
  ·rw [h6] at h2';cases h2';exact absurd rfl h4
  ·rw [h6] at h4';cases h4';have:=hms.inv' _ _ h3';rw [h5] at this;cases this
  ·rw [h6] at h6';cases h6';exact hR.lok.inj _ _ _ h3 h3'
 ·rcases outM_my hb with⟨q,_,h2⟩|⟨k,s,q,_,_,_,h2⟩|⟨_,_,t,q,_,_,_,h2⟩<;>(subst h2;simp)
 ·have hlt':=Nat.lt_of_lt_of_le hlt hR.keep.size
  have up:∀ p',L' b=.my p'→∃ q,L0 b=.my q:=fun p' hp'=>by
   obtain⟨q,hq⟩:=hin b _ hlt' hp'
   obtain⟨t,i,q2,h1,_,_⟩:=inH_my hq
   exact hR.lok.old b _ hlt h1
  rcases outM_my hb with⟨q,h1,_⟩|⟨k,s,q,h1,_⟩|⟨_,_,t,q,h1,_⟩
  ·exact up _ h1
  ·exact up _ h1
  ·exact hR.lok.old b _ hlt h1
 ·have hlt':=Nat.lt_of_lt_of_le hlt hR.keep.size
  refine⟨fun h=>(hR.lok.fo b hlt).1 (outM_fo h).2,fun h=>?_⟩
  have h1:=(hR.lok.fo b hlt).2 h
  have h2:=(hB.lok.fo b hlt').2 (inH_fo h1)
  exact outM_fo' h1 hlt' (fun q hq=>by rw [h2] at hq;cases hq)
 ·obtain⟨_,h2⟩:=outM_fo hf
  exact hR.lok.new b hge h2
 ·rcases getM (xs9:=xs9') (σ:=σ.put d (.av r)) (n:=m) (ms:=ms) with⟨i,h1,h2⟩|⟨h1,h2|⟨h2,h3⟩⟩
  ·obtain⟨hsN,hvi,y,hy⟩:=hm m i h1
   rw [h2,List.getD_eq_getElem?_getD,hy]
   have hmd:m≠d:=fun e=>by subst e;rw [hms.nd] at h1;cases h1
   rw [htm m hmd]
   have h0:=hB.args i y _ hy hvi
   have hin':=hms.lt m i h1
   exact h0.frame (Nat.le_refl _) rfl rfl rfl (fun b hb _=>⟨hshr b hb,rfl⟩) _ fun p hp=>by
    cases hp
    exact⟨[m],rfl,fun b q hb=>⟨outM_arg hb (by omega) (hms.inv _ _ h1),rfl⟩⟩
  ·rw [h2];trivial
  ·rw [h2]
   simp only [FM.get,kill_eq] at h3 ⊢
   by_cases hmd:d=m
   ·subst hmd
    rw [Nat.beq_refl,cond_true]
    have:(a.put (some d) v).tmps.getD d undef=v:=getD_set_same (by rw [hR.size];exact hd.lt)
    rw [this]
    exact hB.res.frame (Nat.le_refl _) rfl rfl rfl (fun b hb _=>⟨hshr b hb,rfl⟩) _ fun p hp=>by
     cases hp
     exact⟨[d],rfl,fun b q hb=>⟨outM_res hb,rfl⟩⟩
   ·rw [not_beq hmd,cond_false] at h3 ⊢
    cases hdep:(FM.get σ m).dep d with
    | true=>trivial
    | false =>
     rw [hdep,cond_false] at h3
     rw [cond_false,htm m (fun e=>hmd e.symm)]
     have hg:∀ t,(FM.get σ m).dep t=true→t≠d∧idxM ms t=none:=fun t ht=>by
      refine⟨fun e=>?_,?_⟩
      ·subst e;rw [hdep] at ht;cases ht
      ·cases hi:idxM ms t with
       | none=>rfl
       | some i=>have:=h3 t (by rw [hi];rfl);rw [this] at ht;cases ht
     exact Hold.relab (good:=fun t=>t≠d∧idxM ms t=none) hB.keep.size hB.keep.os hB.keep.tape hB.keep.output hsh hold (fun t ht=>htm t ht.1) ⟨fun e=>hmd e.symm,h1⟩ hg (hR.hold m hm')
 ·rcases getM (xs9:=xs9') (σ:=σ.put d (.av r)) (n:=m) (ms:=ms) with⟨i,h1,h2⟩|⟨h1,h2|⟨h2,h3⟩⟩
  ·have:=(hm m i h1).1;omega
  ·exact h2
  ·rw [h2]
   simp only [FM.get,kill_eq]
   rw [not_beq (show d≠m by have:=hd.lt;omega),cond_false,hR.out m hm'];rfl
theorem J.callH{P:Program}{f:Nat}{x x':AV}{rest:List AV}{r:AV}{op:Operand}{xs:List Operand}{ops:Array Oper}{l:List Oper}{K:St→Prop}{d s ty:Nat}{ts:Array Nat}{pos:String}{aft:Array Edge}{g:Option (Nat×Bool)}(hs:FnSpec P f (x::rest) (x'::rest) r)(hP:P=S.P)(hg:live ops g σ=some true)
  (h1:slotAt σ op=some s) (h2:FM.get σ s=.av x) (h3:Nat.beq s d=false) (ha:ArgsOk S N σ xs false rest) (h:J false S N ops l K ((σ.put d (.av r)).put s (.av x'))) :
  J false S N ops (⟨some d,.call ⟨.value (.func f),(op::xs).toArray,ts⟩,ty,pos,aft,g⟩::l) K σ:=by
 subst hP
 unfold J at *
 intro hdo w0 L0 Q a w hQ hR
 obtain⟨g1,g2⟩:=dstOk_cons hdo
 have hd:=g1 d rfl
 have hw:=live_wanted (o:=⟨some d,.call ⟨.value (.func f),(op::xs).toArray,ts⟩,ty,pos,aft,g⟩) hg hR
 simp only [wpList,hw,if_true]
 refine .inl ?_
 unfold Oper.wp
 rw [run_call (xs:=op::xs) hs.ok rfl rfl w,Oper.upon_enter]
 obtain⟨L,hR⟩:=hR
 have hlen:=ha.length
 have hms:MOk d (xs.length+1) [(s,0)]:=.one h3 (by simp [Nat.blt])
 have hi0:idxM [(s,0)] s=some 0:=by simp [idxM,Nat.beq_refl]
 have mem:∀ {s' i:Nat},idxM [(s,0)] s'=some i→s'=s∧i=0:=fun{s' i} hi=>by
  simp only [idxM] at hi
  cases hb:Nat.beq s s' with
  | true=>rw [hb,cond_true] at hi;injection hi with hi;exact⟨(Nat.eq_of_beq_eq_true hb).symm,hi.symm⟩
  | false=>rw [hb,cond_false] at hi;cases hi
 obtain⟨e1,e2,e3⟩:=slotAt_ev h1 h2 hR
 have hcalls:=hs.calls w (inH [(s,0)] L) ((op::xs).map a.eval) (by rw [List.length_map,List.length_cons,List.length_cons,hlen])
 rw [show(x::rest).length=xs.length+1 by rw [List.length_cons,hlen]] at hcalls
 refine(hcalls ⟨fun b p hb=>?_,fun b p hb=>?_,fun b b' p hb hb'=>?_,fun b hge hf=>?_,hR.globNow.move (Nat.le_refl _) fun b _ h=>⟨inH_sh h,rfl⟩⟩ (fun i y v hy hv=>?_)).mono fun e w' ⟨v,L',he,hB⟩=>?_
 ·obtain⟨t,i,q,h3,_,_⟩:=inH_my hb;exact hR.lok.lt b _ h3
 ·obtain⟨t,i,q,_,h3,h4⟩:=inH_my hb;exact⟨i,q,h4,hms.lt _ _ h3⟩
 ·obtain⟨t,i,q,h3,h4,h5⟩:=inH_my hb
  obtain⟨t',i',q',h3',h4',h5'⟩:=inH_my hb'
  rw [h5] at h5';cases h5'
  have e1:=hms.inv _ _ h4
  have e2:=hms.inv _ _ h4'
  rw [e1] at e2;cases e2
  exact hR.lok.inj _ _ _ h3 h3'
 ·rcases inH_fo' hf with h|⟨p,h⟩
  ·exact hR.lok.new b (Nat.le_trans hR.keep.size hge) h
  ·have:=hR.lok.lt b _ h;omega
 ·cases i with
  | zero =>
   simp only [List.map_cons,List.getElem?_cons_zero,Option.some.injEq] at hy hv
   subst hy;subst hv
   exact e3.frame (Nat.le_refl _) rfl rfl rfl (fun b hb _=>⟨inH_sh hb,rfl⟩) _ fun p hp=>by
    cases hp
    exact⟨[0],rfl,fun b q hb=>⟨inH_to hb hi0,rfl⟩⟩
  | succ i =>
   simp only [List.map_cons,List.getElem?_cons_succ,List.getElem?_map,Option.map_eq_some_iff] at hy hv
   obtain⟨z,hz,rfl⟩:=hv
   obtain⟨c,h5,h6⟩:=ha.get i z y hz hy
   have hc:=h6 rfl
   subst hc
   exact(h5.readS hR fun b _ hb=>inH_sh hb).any _
 ·subst he
  have:=after_callH hR hd hms hB fun s' i hi=>by
   obtain⟨rfl,rfl⟩:=mem hi
   exact⟨e1,by simp [e2],x',rfl⟩
  exact h g2 w0 L0 Q _ w' hQ this
end
theorem StepW.mov{S:Sys}{σ σ':St}{o:Oper}{x:Operand}(hx:o.op=.move x∨o.op=.assign x)(h:Step S o σ σ'):StepW S o σ σ':=by
 intro w0 L0 N a w hN hR
 obtain⟨v,h1,h2⟩:=h w0 L0 N a w hN hR
 refine⟨v,fun w'=>?_,h2⟩
 have hrun:∀ w,(execOp a.eval o).run S.P w=.ok (.value (a.eval x)) w:=fun w=>by rcases hx with hx|hx<;>simp [execOp,hx]
 have h3:=h1 w (Ext.refl w)
 rw [hrun] at h3 ⊢
 cases h3;rfl
section
variable {S:Sys} {σ:St} {d:Nat} {ty:Nat} {pos:String} {aft:Array Edge} {g:Option (Nat×Bool)}
theorem w_ixaSh{t e c sz by_:Nat}{z:List AV}{ti:TI}{x i:Operand}{xs:List AV}{n:Int}{y:AV}(hx:ov σ x=.av (.sl false c xs))(hi:ov σ i=.av (.int n))(hT:S.T t=some ⟨.slice e,sz,by_,z⟩)(hE:S.T e=some ti)(hc:ti.size=c)
  (h0:0≤n) (hy:xs[n.toNat]?=some y):StepW S ⟨some d,.indexAddr t x i,ty,pos,aft,g⟩ σ (σ.put d (.dptr y)):=by
 intro w0 L0 N a w hN ⟨L,hR⟩
 obtain⟨m,hm⟩:=ev_av hR hx
 obtain⟨b,off,cap,hv,hb,hlt,⟨_,hL,hcs⟩|⟨h,_⟩⟩:=elem_cells hm hy
 ·refine⟨.pointer (some ⟨b,off+n.toNat*c,none⟩),fun w'=>?_,Rel.putPlain (n:=d) hR (hN d rfl) rfl rfl ⟨b,off+n.toNat*c,rfl,hL,hb,hcs⟩⟩
  subst hc
  simp only [execOp,hv,ev_int hR hi,Sem.run_bind,run_indexAt (S.ok t _ hT).slice (S.ok e _ hE).size h0 hlt]
  rfl
 ·cases h
theorem w_fadR{t sz by_ i off fty s q:Nat}{fs:List (Nat×Nat)}{zz cs:List AV}{tif:TI}{y:AV}(hq:get σ q=.ref s)(hs:get σ s=.av (.pt true cs))(hT:S.T t=some ⟨.struct fs,sz,by_,zz⟩)(hf:fs[i]?=some (off,fty))(hF:S.T fty=some tif)(hc:Nat.beq tif.size 0=false)(hy:cs[off]?=some y)(h1:y.cells=[y])(hsd:Nat.beq s d=false) :
  StepW S ⟨some d,.fieldAddr t (.tmp q) i,ty,pos,aft,g⟩ σ (σ.put d (.fpt s off y)):=by
 intro w0 L0 N a w hN ⟨L,hR⟩
 have hh:=hR.hold s (own_lt hR hs (by simp))
 have hh2:=hR.hold q (own_lt hR hq (by simp))
 rw [hs] at hh
 rw [hq] at hh2
 simp only [Hold] at hh hh2
 obtain⟨b,hL,hp,_,hcs⟩:=pt_at hh
 obtain⟨fields,f,hu,hfi,h2,h3⟩:=(S.ok t _ hT).fld hf
 have hev:a.eval (.tmp q)=.pointer (some ⟨b,0,none⟩):=hh2.trans hp
 have hsz:=(S.ok fty _ hF).size
 rw [← h3] at hsz
 refine⟨.pointer (some ⟨b,0+f.offset,none⟩),fun w'=>?_,Rel.putPlain (n:=d) hR (hN d rfl) rfl hsd ⟨b,hL,by rw [h2];simp,fun _ j z hz=>?_⟩⟩
 ·simp only [execOp,hev,Sem.run_bind,run_fieldAt hu hfi hsz (of_not_beq hc)];rfl
 ·rw [h1] at hz
  cases j with
  | zero=>simp only [List.getElem?_cons_zero,Option.some.injEq] at hz;subst hz;simpa using hcs off _ hy
  | succ j=>simp at hz
theorem w_nilR{x:Operand}{s:Nat}{o:Bool}{cs:List AV}(hx:ov σ x=.ref s)(hs:get σ s=.av (.pt o cs))(hsd:Nat.beq s d=false):StepW S ⟨some d,.nilCheck x,ty,pos,aft,g⟩ σ (σ.put d (.ref s)):=by
 intro w0 L0 N a w hN ⟨L,h⟩
 obtain⟨m,hm,_⟩:=hold_plain h hx (by simp)
 simp only [Hold] at hm
 have hh:=h.hold s (own_lt h hs (by simp))
 rw [hs,←hm] at hh
 obtain⟨ad,hv⟩:∃ ad,a.eval x=.pointer (some ad):=by generalize a.eval x=v at hh;cases hh<;>exact⟨_,rfl⟩
 refine⟨a.eval x,fun w'=>?_,_,h.put (hN d rfl) ?_⟩
 ·simp [execOp,hv]
 ·simp only [Hold]
  rw [hm,getD_set_other (fun e=>of_not_beq hsd e.symm)]
theorem w_strAdd{t t2:Nat}{x y:Operand}{a b:List UInt8}(hx:ov σ x=.av (.str a))(hy:ov σ y=.av (.str b))(hl:a.length+b.length≤9223372036854775807):StepW S ⟨some d,.binOp .add t x y t2,ty,pos,aft,g⟩ σ (σ.put d (.av (.str (a++b)))):=fun w0 L0 N c w hN ⟨L,hR⟩ =>
 ⟨.string ⟨(a++b).toArray⟩,fun w'=>by
  have h0:¬ (((a.length+b.length:Nat):Int)>IntKind.i64.max):=by simp only [IntKind.max,IntKind.signed,IntKind.bits,if_true];omega
  have e:(⟨a.toArray⟩:ByteArray)++⟨b.toArray⟩=⟨(a++b).toArray⟩:=by apply ByteArray.ext;simp
  simp only [execOp,ev_str hR hx,ev_str hR hy,Sem.run_bind,eqGuard,binOp,Op.stringOp,mk_size,h0,if_false,e]
  rfl,Rel.putPlain (n:=d) hR (hN d rfl) rfl rfl .str⟩
theorem w_fadDh{t sz by_ i off fty:Nat}{fs:List (Nat×Nat)}{zz cs:List AV}{tif:TI}{y:AV}{x:Operand}(hx:ov σ x=.dptr (.agg cs))(hT:S.T t=some ⟨.struct fs,sz,by_,zz⟩)(hf:fs[i]?=some (off,fty))(hF:S.T fty=some tif)(hc:Nat.beq tif.size 0=false)(hy:cs[off]?=some y)(h1:y.cells=[y]) :
  StepW S ⟨some d,.fieldAddr t x i,ty,pos,aft,g⟩ σ (σ.put d (.dptr y)):=by
 intro w0 L0 N a w hN ⟨L,hR⟩
 obtain⟨_,⟨b,o,hv,hb,hlt,hcs⟩,_⟩:=hold_plain hR hx (by simp)
 obtain⟨fields,f,hu,hfi,h2,h3⟩:=(S.ok t _ hT).fld hf
 have hsz:=(S.ok fty _ hF).size
 rw [← h3] at hsz
 refine⟨.pointer (some ⟨b,o+f.offset,none⟩),fun w'=>?_,Rel.putPlain (n:=d) hR (hN d rfl) rfl rfl ⟨b,o+f.offset,rfl,hb,hlt,fun j z hz=>?_⟩⟩
 ·simp only [execOp,hv,Sem.run_bind,run_fieldAt hu hfi hsz (of_not_beq hc)];rfl
 ·rw [h1] at hz
  cases j with
  | zero=>simp only [List.getElem?_cons_zero,Option.some.injEq] at hz;subst hz;rw [h2];exact hcs off _ hy
  | succ j=>simp at hz
end
section
variable {S:Sys} {N:Nat} {σ:St} {K:St→Prop} {l:List Oper} {listed:List Bool} {fuel:Nat}
theorem JA.three{i j k:Nat}{o1 o2 o3:Oper}(hr:readyL l listed=[i,j,k])(h1:l[i]?=some o1)(h2:l[j]?=some o2)(h3:l[k]?=some o3)(g1:J false S N l.toArray [o1] (JA S N l.toArray fuel (listed.set i true) K) σ)(g2:J false S N l.toArray [o2] (JA S N l.toArray fuel (listed.set j true) K) σ)(g3:J false S N l.toArray [o3] (JA S N l.toArray fuel (listed.set k true) K) σ):JA S N l.toArray (fuel+1) listed K σ :=
 .all [i,j,k] hr rfl fun x hx=>by
  simp only [List.mem_cons,List.not_mem_nil,or_false] at hx
  rcases hx with rfl|rfl|rfl
  ·exact⟨_,h1,g1⟩
  ·exact⟨_,h2,g2⟩
  ·exact⟨_,h3,g3⟩
end
theorem w9i{S:Sys}{N:Nat}{ops:Array Oper}{f:Nat}{L:List Bool}{K:St→Prop}{σ:St}(h:JA S N ops f L K σ):JA S N ops f L K σ:=h
theorem ArgsOk.consF{S:Sys}{N:Nat}{σ:St}{x:Operand}{xs:List Operand}{y:AV}{ys:List AV}(h:ArgOk S N σ x false y)(r:ArgsOk S N σ xs false ys):ArgsOk S N σ (x::xs) false (y::ys):=.cons h r
theorem w9h{A B:Prop}{P:Program}{f:Nat}{x y:AV}{rest:List AV}{r:AV}(hs:FnSpec P f (x::rest) (y::rest) r)(g:B)(h:FnSpec P f (x::rest) (y::rest) r→Wr B→A:=by intro hs9 g9;first|exact J.callH hs9 rfl rfl rfl rfl rfl (by repeat' (first|exact ArgsOk.nil|apply ArgsOk.consF|exact ArgOk.pl rfl rfl)) g9.out|fail):A:=h hs ⟨g⟩
theorem RelL.rebase{S:Sys}{w0:World}{L0:Nat→Lab}{N:Nat}{σ:St}{a:Act}{w:World}{L:Nat→Lab}(h:RelL S w0 L0 N σ a w L):RelL S w L N σ a w L :=
 ⟨h.defers,h.size,⟨rfl,rfl,rfl,Nat.le_refl _,fun _ _ _=>rfl⟩,⟨h.lok.lt,h.lok.inj,h.lok.head,fun b p _ hb=>⟨p,hb⟩,fun _ _=>Iff.rfl,fun b hb=>h.lok.new b (Nat.le_trans h.keep.size hb)⟩,h.hold,h.out,h.fix,h.globNow⟩
theorem RelL.unbase{S:Sys}{w0:World}{L0:Nat→Lab}{N:Nat}{σ σ':St}{a a':Act}{w w':World}{L L':Nat→Lab}(h:RelL S w0 L0 N σ a w L)(h':RelL S w L N σ' a' w' L'):RelL S w0 L0 N σ' a' w' L':=by
 have hlt:∀ b,b<w0.heap.size→b<w.heap.size:=fun b hb=>Nat.lt_of_lt_of_le hb h.keep.size
 refine⟨h'.defers,h'.size,⟨h'.keep.os.trans h.keep.os,h'.keep.tape.trans h.keep.tape,h'.keep.output.trans h.keep.output,Nat.le_trans h.keep.size h'.keep.size,fun b hb hn=>?_⟩,⟨h'.lok.lt,h'.lok.inj,h'.lok.head,fun b p hb hp=>?_,fun b hb=>?_,fun b hb=>?_⟩,h'.hold,h'.out,h'.fix,h.glob⟩
 ·refine(h'.keep.block b (hlt b hb) fun p hp=>?_).trans (h.keep.block b hb hn)
  obtain⟨q,hq⟩:=h.lok.old b p hb hp
  exact hn q hq
 ·obtain⟨q,hq⟩:=h'.lok.old b p (hlt b hb) hp
  exact h.lok.old b q hb hq
 ·exact(h'.lok.fo b (hlt b hb)).trans (h.lok.fo b hb)
 ·rcases Nat.lt_or_ge b w.heap.size with hlt'|hge
  ·intro e
   exact h.lok.new b hb ((h'.lok.fo b hlt').1 e)
  ·exact h'.lok.new b hge
def StepS(S:Sys)(o:Oper)(σ σ':St):Prop :=
 ∀ (w0:World) (L0:Nat→Lab) (N:Nat) (a:Act) (w:World) (L:Nat→Lab),(∀ d:Nat,o.dst=some d→DOk S N d)→RelL S w0 L0 N σ a w L →
  ∃ v,(∀ w',(∀ b,b<w.heap.size→L b=.sh→w'.heap[b]?=w.heap[b]?)→(execOp a.eval o).run S.P w'=.ok (.value v) w')∧Rel S w0 L0 N σ' (a.put o.dst v) w
theorem StepW.toS{S:Sys}{o:Oper}{σ σ':St}(h:StepW S o σ σ'):StepS S o σ σ':=fun w0 L0 N a w L hd hR=>by
 obtain⟨v,h1,h2⟩:=h w0 L0 N a w hd ⟨L,hR⟩
 exact⟨v,fun w' _=>h1 w',h2⟩
theorem load_coreS{P:Program}{t:Nat}{ti:TI}(h:TOk P t ti){y:AV}(hf:y.fits ti=true){b off:Nat}{w:World}{L:Nat→Lab}(hno:∀ cs,y=.agg cs→∀ (j:Nat) (z:AV),cs[j]?=some z→z.isOwn=false)
  (hc:∀ j z,y.cells[j]?=some z→∃ u,w.cell? ⟨b,off+j,none⟩=some u∧Rep L w none z u) :
  ∃ v,(∀ w',w'.heap[b]?=w.heap[b]?→(loadVar t ⟨b,off,none⟩).run P w'=.ok v w')∧Rep L w none y v:=by
 obtain⟨us,hl,hus⟩:=gather (R:=fun j z u=>w.cell? ⟨b,off+j,none⟩=some u∧Rep L w none z u) y.cells 0 (by simpa using hc)
 simp only [Nat.zero_add] at hus
 refine⟨_,fun w' e=>run_loadVar_cells h hf us hl fun j u hu=>?_,?_⟩
 ·have hj:j<y.cells.length:=by rw [← hl];exact(List.getElem?_eq_some_iff.1 hu).1
  rw [cell_of_heap e]
  exact(hus j _ u (List.getElem?_eq_getElem hj) hu).1
 ·cases y with
  | agg cs =>
   exact .agg hl fun i x v hx hv=>(hus i x v hx hv).2
  | _ =>
   cases us with
   | nil=>simp [AV.cells] at hl
   | cons u us=>exact(hus 0 _ u rfl rfl).2
section
variable {S:Sys} {σ:St} {d ty:Nat} {pos:String} {aft:Array Edge} {g:Option (Nat×Bool)}
theorem h_ldD{t:Nat}{ti:TI}{x:Operand}{y:AV}(hx:ov σ x=.dptr y)(hT:S.T t=some ti)(hf:y.fits ti=true)(hp:y.isOwn=false)(hn:y.noOwn=true):StepS S ⟨some d,.load t x,ty,pos,aft,g⟩ σ (σ.put d (.av y)):=by
 intro w0 L0 N a w L hN hR
 obtain⟨m,⟨b,off,hv,hL,hb,hc⟩,_⟩:=hold_plain hR hx (by simp)
 obtain⟨v,h1,h2⟩:=load_coreS (S.ok t ti hT) hf (noOwn_spec hn) hc
 exact⟨v,fun w' e=>by simp only [execOp,hv,Instr.loadAt,Instr.sureAddr];simp [h1 w' (e b hb hL)],Rel.putPlain (n:=d) hR (hN d rfl) (by simp [TV.plain,hp]) rfl (h2.any _)⟩
theorem h_ldS{t:Nat}{ti:TI}{cs:List AV}{y:AV}{x:Operand}(hx:ov σ x=.av (.pt false cs))(hT:S.T t=some ti)(hy:y.cells=cs)(hf:y.fits ti=true)(hp:y.isOwn=false)(hn:y.noOwn=true):StepS S ⟨some d,.load t x,ty,pos,aft,g⟩ σ (σ.put d (.av y)):=by
 intro w0 L0 N a w L hN hR
 obtain⟨n,hn'⟩:=ev_av hR hx
 generalize hev:a.eval x=v at hn'
 cases hn' with
 | @ptS _ _ b o u hb hlt hcell hr =>
  obtain⟨v,h1,h2⟩:=load_coreS (S.ok t ti hT) hf (off:=o) (noOwn_spec hn) (fun j z hz=>by rw [hy] at hz;exact⟨u j,hcell j (List.getElem?_eq_some_iff.1 hz).1,hr j z hz⟩)
  exact⟨v,fun w' e=>by simp only [execOp,hev,Instr.loadAt,Instr.sureAddr];simp [h1 w' (e b hlt hb)],Rel.putPlain (n:=d) hR (hN d rfl) (by simp [TV.plain,hp]) rfl (h2.any _)⟩
theorem h_ldSA{t:Nat}{ti:TI}{cs:List AV}{x:Operand}(hx:ov σ x=.av (.pt false cs))(hT:S.T t=some ti)(hf:(AV.agg cs).fits ti=true)(hn:(AV.agg cs).noOwn=true):StepS S ⟨some d,.load t x,ty,pos,aft,g⟩ σ (σ.put d (.av (.agg cs))):=h_ldS hx hT rfl hf rfl hn
theorem s_ldSA{t:Nat}{ti:TI}{cs:List AV}{x:Operand}(hx:ov σ x=.av (.pt false cs))(hT:S.T t=some ti)(hf:(AV.agg cs).fits ti=true)(hn:(AV.agg cs).noOwn=true):Step S ⟨some d,.load t x,ty,pos,aft,g⟩ σ (σ.put d (.av (.agg cs))):=s_ldS hx hT rfl hf rfl hn
theorem w_fadS{t sz by_ i off fty:Nat}{fs:List (Nat×Nat)}{zz cs:List AV}{tif:TI}{y:AV}{x:Operand}(hx:ov σ x=.av (.pt false cs))(hT:S.T t=some ⟨.struct fs,sz,by_,zz⟩)(hf:fs[i]?=some (off,fty))(hF:S.T fty=some tif)(hc:Nat.beq tif.size 0=false)(hy:cs[off]?=some y)(h1:y.cells=[y]) :
  StepW S ⟨some d,.fieldAddr t x i,ty,pos,aft,g⟩ σ (σ.put d (.dptr y)):=by
 intro w0 L0 N a w hN ⟨L,hR⟩
 obtain⟨n,hn⟩:=ev_av hR hx
 generalize hev:a.eval x=v at hn
 cases hn with
 | @ptS _ _ b o u hb hlt hcell hr =>
  obtain⟨fields,f,hu,hfi,h2,h3⟩:=(S.ok t _ hT).fld hf
  have hsz:=(S.ok fty _ hF).size
  rw [← h3] at hsz
  refine⟨.pointer (some ⟨b,o+f.offset,none⟩),fun w'=>?_,Rel.putPlain (n:=d) hR (hN d rfl) rfl rfl ⟨b,o+f.offset,rfl,hb,hlt,fun j z hz=>?_⟩⟩
  ·simp only [execOp,hev,Sem.run_bind,run_fieldAt hu hfi hsz (of_not_beq hc)];rfl
  ·rw [h1] at hz
   cases j with
   | zero=>simp only [List.getElem?_cons_zero,Option.some.injEq] at hz;subst hz;rw [h2];exact⟨_,hcell off (List.getElem?_eq_some_iff.1 hy).1,hr off _ hy⟩
   | succ j=>simp at hz
theorem w_fadSM{t sz by_ i off fty:Nat}{fs:List (Nat×Nat)}{zz cs ys:List AV}{tif:TI}{x:Operand}(hx:ov σ x=.av (.pt false cs))(hT:S.T t=some ⟨.struct fs,sz,by_,zz⟩)(hf:fs[i]?=some (off,fty))(hF:S.T fty=some tif)(hc:Nat.beq tif.size 0=false)(hy:(cs.drop off).take tif.size=ys)(h12:Nat.blt 1 tif.size=true) :
  StepW S ⟨some d,.fieldAddr t x i,ty,pos,aft,g⟩ σ (σ.put d (.dptr (.agg ys))):=by
 intro w0 L0 N a w hN ⟨L,hR⟩
 obtain⟨n,hn⟩:=ev_av hR hx
 generalize hev:a.eval x=v at hn
 cases hn with
 | @ptS _ _ b o u hb hlt hcell hr =>
  obtain⟨fields,f,hu,hfi,h2,h3⟩:=(S.ok t _ hT).fld hf
  have hsz:=(S.ok fty _ hF).size
  rw [← h3] at hsz
  refine⟨.pointer (some ⟨b,o+f.offset,none⟩),fun w'=>?_,Rel.putPlain (n:=d) hR (hN d rfl) rfl rfl ⟨b,o+f.offset,rfl,hb,hlt,fun j z hz=>?_⟩⟩
  ·simp only [execOp,hev,Sem.run_bind,run_fieldAt hu hfi hsz (of_not_beq hc)];rfl
  ·have hz:ys[j]?=some z:=hz
   rw [← hy,List.getElem?_take] at hz
   split at hz
   ·rw [List.getElem?_drop] at hz
    rw [h2,Nat.add_assoc]
    exact⟨_,hcell (off+j) (List.getElem?_eq_some_iff.1 hz).1,hr (off+j) z hz⟩
   ·cases hz
theorem RelL.unbaseD{S:Sys}{w0:World}{L0:Nat→Lab}{N:Nat}{σ:St}{a:Act}{w w':World}{L:Nat→Lab}{ch:List PanicEntry}(h:RelL S w0 L0 N σ a w L)(h':Dies S w L ch w'):Dies S w0 L0 ch w':=by
 obtain⟨L',ps,hx,hk,hl,hr⟩:=h'
 have hlt:∀ b,b<w0.heap.size→b<w.heap.size:=fun b hb=>Nat.lt_of_lt_of_le hb h.keep.size
 refine⟨L',ps,hx,⟨hk.os.trans h.keep.os,hk.tape.trans h.keep.tape,hk.output.trans h.keep.output,Nat.le_trans h.keep.size hk.size,fun b hb hn=>?_⟩,⟨hl.lt,hl.inj,hl.head,fun b p hb hp=>?_,fun b hb=>?_,fun b hb=>?_⟩,hr⟩
 ·refine(hk.block b (hlt b hb) fun p hp=>?_).trans (h.keep.block b hb hn)
  obtain⟨q,hq⟩:=h.lok.old b p hb hp
  exact hn q hq
 ·obtain⟨q,hq⟩:=hl.old b p (hlt b hb) hp
  exact h.lok.old b q hb hq
 ·exact(hl.fo b (hlt b hb)).trans (h.lok.fo b hb)
 ·rcases Nat.lt_or_ge b w.heap.size with hlt'|hge
  ·intro e
   exact h.lok.new b hb ((hl.fo b hlt').1 e)
  ·exact hl.new b hge
end
/-! ### the orders, while shared memory is held -/
@[irreducible] def JAS (S:Sys) (N:Nat) (ops:Array Oper) (fuel:Nat) (listed:List Bool) (K:St→Prop) (σ:St):Prop :=
 dstOk S N ops.toList=true→∀ (w0:World) (L0:Nat→Lab) (Q:Exit→Act→World→Prop) (a:Act) (w:World),(∀ c (a:Act) (d:Option Nat) v w,(∀ t:Nat,d=some t→DOk S N t)→Q (.panic c) (a.put d v) w→Q (.panic c) a w) →
  OutJ S N w0 L0 K Q→Rel S w0 L0 N σ a w→Go.wpAnyH S.P .any ops Q (Keep L0 w0) fuel listed.toArray a w
@[irreducible] def JAF (S:Sys) (N:Nat) (ops:Array Oper) (fuel:Nat) (listed:List Bool) (K:St→Prop) (σ:St):Prop :=
 dstOk S N ops.toList=true→∀ (w0:World) (L0:Nat→Lab) (Q:Exit→Act→World→Prop) (a:Act) (w:World) (L:Nat→Lab),(∀ c (a:Act) (d:Option Nat) v w,(∀ t:Nat,d=some t→DOk S N t)→Q (.panic c) (a.put d v) w→Q (.panic c) a w) →
  OutJ S N w0 L0 K Q→RelL S w0 L0 N σ a w L→∃ Lf,(∀ b,L b=.sh→Lf b=.sh)∧Go.wpAnyH S.P .any ops Q (Keep Lf w) fuel listed.toArray a w
section
variable {S:Sys} {N:Nat} {σ:St} {K:St→Prop} {l:List Oper} {listed:List Bool} {fuel:Nat}
theorem JA.held(h:JAF S N l.toArray fuel listed K σ):JA S N l.toArray fuel listed K σ:=by
 unfold JAF at h
 unfold JA
 intro hdo w0 L0 Q a w hp hQ ⟨L,hR⟩
 obtain⟨Lf,_,h1⟩:=h hdo w0 L0 Q a w L hp hQ hR
 exact Go.wpAny_of_held _ _ _ _ h1
theorem JAF.go(h:JAS S N l.toArray fuel listed K σ):JAF S N l.toArray fuel listed K σ:=by
 unfold JAS at h
 unfold JAF
 intro hdo w0 L0 Q a w L hp hQ hR
 exact⟨L,fun _ hb=>hb,h hdo w L Q a w hp ⟨fun σ' a' w' hk ⟨L',hr⟩=>hQ σ' a' w' hk ⟨L',hR.unbase hr⟩,fun ch a' w' hd=>hQ.die ch a' w' ⟨hd.defers,hd.size,hd.fix,hR.unbaseD hd.dies⟩⟩ ⟨L,hR.rebase⟩⟩
theorem JAF.take{σ':St}{i:Nat}{o:Oper}(ho:l[i]?=some o)(hg:live l.toArray o.guard σ=some true)(hB:(Region.noSelect l.toArray&&Region.free .any l.toArray listed.toArray i&&(readyL l listed).contains i)=true)(hs:StepS S o σ σ')(h:JAF S N l.toArray fuel (listed.set i true) K σ') :
  JAF S N l.toArray (fuel+1) listed K σ:=by
 unfold JAF at h ⊢
 intro hdo w0 L0 Q a w L hp hQ hR
 simp only [Bool.and_eq_true] at hB
 have hd1:=(dstOk_cons (dstOk_mem (by simpa using hdo) (List.mem_of_getElem? ho))).1
 obtain⟨v,hv,L',hR'⟩:=hs w L N a w L hd1 hR.rebase
 obtain⟨Lf,h1,h2⟩:=h hdo w0 L0 Q _ w L' hp hQ (hR.unbase hR')
 have hsh:∀ b,b<w.heap.size→L b=.sh→L' b=.sh:=fun b hb hL=>by
  cases hL':L' b with
  | sh=>rfl
  | my p=>obtain⟨q,hq⟩:=hR'.lok.old b p hb hL';rw [hL] at hq;cases hq
  | fo=>have:=(hR'.lok.fo b hb).1 hL';rw [hL] at this;cases this
 have hw:=live_wanted (o:=o) hg ⟨L,hR⟩
 refine⟨fun b=>if b<w.heap.size then Lf b else .sh,fun b hb=>?_,?_⟩
 ·by_cases hlt:b<w.heap.size
  ·simp only [hlt,if_true];exact h1 b (hsh b hlt hb)
  ·simp only [hlt,if_false]
 ·have e:listed.toArray.setIfInBounds i true=(listed.set i true).toArray:=by simp
  have conv:∀ w',Keep (fun b=>if b<w.heap.size then Lf b else .sh) w w'↔Keep Lf w w':=fun w' =>
   ⟨fun k=>⟨k.os,k.tape,k.output,k.size,fun b hb hn=>k.block b hb (by simpa only [hb,if_true] using hn)⟩,fun k=>⟨k.os,k.tape,k.output,k.size,fun b hb hn=>k.block b hb (by simpa only [hb,if_true] using hn)⟩⟩
  have eS:Keep (fun b=>if b<w.heap.size then Lf b else .sh) w=Keep Lf w:=funext fun w'=>propext (conv w')
  rw [eS]
  refine Go.wpAnyH_take (by simpa using ho) hB.1.1 hB.1.2 (by rw [readyL_eq];exact hB.2) (fun c a w h=>hp c a _ _ w hd1 h) (.inl ⟨hw,fun w' hw'=>hv w' fun b hb hL=>hw'.block b hb fun p hpb=>?_⟩) ⟨rfl,rfl,rfl,Nat.le_refl _,fun _ _ _=>rfl⟩ (by rw [e];exact h2)
  rw [h1 b (hsh b hb hL)] at hpb;cases hpb
theorem JAS.done(hr:(readyL l listed).isEmpty=true)(h:K σ):JAS S N l.toArray fuel listed K σ:=by
 unfold JAS
 intro _ w0 L0 Q a w _ hQ hR
 exact Go.wpAnyH_done (by rw [readyL_eq];simpa using hr) (hQ σ a w h hR) fuel
theorem JAS.op{i:Nat}{o:Oper}(ho:l[i]?=some o)(h:J false S N l.toArray [o] (JAS S N l.toArray fuel (listed.set i true) K) σ)(hd:dstOk S N l=true){w0:World}{L0:Nat→Lab}{Q:Exit→Act→World→Prop}{a:Act}{w:World}(hp:∀ c (a:Act) (d:Option Nat) v w,(∀ t:Nat,d=some t→DOk S N t)→Q (.panic c) (a.put d v) w→Q (.panic c) a w)
  (hQ:OutJ S N w0 L0 K Q) (hR:Rel S w0 L0 N σ a w):wpOp S.P l.toArray Q i (fun a' w'=>Keep L0 w0 w'∧Go.wpAnyH S.P .any l.toArray Q (Keep L0 w0) fuel (listed.toArray.setIfInBounds i true) a' w') a w:=by
 unfold J at h
 have h1:=h (dstOk_mem hd (List.mem_of_getElem? ho)) w0 L0 (fun e a w=>match e with
  | .normal=>Keep L0 w0 w∧Go.wpAnyH S.P .any l.toArray Q (Keep L0 w0) fuel (listed.set i true).toArray a w
  | e=>Q e a w) a w ⟨fun σ' a' w' hK hR'=>by
   unfold JAS at hK
   obtain⟨L',hr'⟩:=id hR'
   exact⟨hr'.keep,hK hd w0 L0 Q a' w' hp hQ hR'⟩,fun ch a' w' hd=>hQ.die ch a' w' hd⟩ hR
 unfold wpOp
 have ho':l.toArray[i]?=some o:=by simpa using ho
 simp only [ho']
 have e:listed.toArray.setIfInBounds i true=(listed.set i true).toArray:=by simp
 rw [e]
 unfold wpList at h1
 exact h1
theorem JAS.all(rs:List Nat)(hr:readyL l listed=rs)(hne:rs.isEmpty=false)(h:∀ i∈rs,∃ o,l[i]?=some o∧J false S N l.toArray [o] (JAS S N l.toArray fuel (listed.set i true) K) σ):JAS S N l.toArray (fuel+1) listed K σ:=by
 unfold JAS
 intro hd w0 L0 Q a w hp hQ hR
 have hd':dstOk S N l=true:=by simpa using hd
 refine Go.wpAnyH_all (rs:=rs) (by rw [readyL_eq];exact hr) (fun e=>by subst e;cases hne) fun i hi=>?_
 obtain⟨o,ho,hj⟩:=h i hi
 exact JAS.op ho hj hd' hp hQ hR
theorem JAS.one{i:Nat}{o:Oper}(hr:readyL l listed=[i])(ho:l[i]?=some o)(h:J false S N l.toArray [o] (JAS S N l.toArray fuel (listed.set i true) K) σ):JAS S N l.toArray (fuel+1) listed K σ :=
 .all [i] hr rfl fun j hj=>by simp only [List.mem_singleton] at hj;subst hj;exact⟨o,ho,h⟩
theorem JAS.two{i j:Nat}{o o':Oper}(hr:readyL l listed=[i,j])(ho:l[i]?=some o)(ho':l[j]?=some o')(h:J false S N l.toArray [o] (JAS S N l.toArray fuel (listed.set i true) K) σ)(h':J false S N l.toArray [o'] (JAS S N l.toArray fuel (listed.set j true) K) σ):JAS S N l.toArray (fuel+1) listed K σ :=
 .all [i,j] hr rfl fun k hk=>by
  simp only [List.mem_cons,List.not_mem_nil,or_false] at hk
  rcases hk with rfl|rfl
  ·exact⟨o,ho,h⟩
  ·exact⟨o',ho',h'⟩
theorem JAS.takeW{σ':St}{i:Nat}{o:Oper}(ho:l[i]?=some o)(hg:live l.toArray o.guard σ=some true)(hB:(Region.noSelect l.toArray&&Region.free .any l.toArray listed.toArray i&&(readyL l listed).contains i)=true)(hs:StepW S o σ σ')(h:JAS S N l.toArray fuel (listed.set i true) K σ') :
  JAS S N l.toArray (fuel+1) listed K σ:=by
 unfold JAS at h ⊢
 intro hdo w0 L0 Q a w hp hQ hR
 simp only [Bool.and_eq_true] at hB
 have hd1:=(dstOk_cons (dstOk_mem (by simpa using hdo) (List.mem_of_getElem? ho))).1
 obtain⟨v,hv,hR'⟩:=hs w0 L0 N a w hd1 hR
 have h1:=h hdo w0 L0 Q _ w hp hQ hR'
 obtain⟨L,hr⟩:=id hR
 refine Go.wpAnyH_take (by simpa using ho) hB.1.1 hB.1.2 (by rw [readyL_eq];exact hB.2) (fun c a w h=>hp c a _ _ w hd1 h) (Yields.yieldsIf (.inl ⟨live_wanted (o:=o) hg hR,hv⟩)) hr.keep ?_
 have e:listed.toArray.setIfInBounds i true=(listed.set i true).toArray:=by simp
 rw [e]
 exact h1
end
theorem JAS.oneK{S:Sys}{N:Nat}{l:List Oper}{fuel:Nat}{listed:List Bool}{K:St→Prop}{σ:St}{i:Nat}{oi:Oper}(_:K9 fuel i)(hr:readyL l listed=[i])(ho:l[i]?=some oi)(h:(J false S N l.toArray [oi] (JAS S N l.toArray fuel (listed.set i true) K) σ)):JAS S N l.toArray (fuel+1) listed K σ:=.one hr ho h
theorem JAS.twoK{S:Sys}{N:Nat}{l:List Oper}{fuel:Nat}{listed:List Bool}{K:St→Prop}{σ:St}{i j:Nat}{oi oj:Oper}(_:K92 fuel i j)(hr:readyL l listed=[i,j])(ho:l[i]?=some oi)(ho':l[j]?=some oj)(h:(J false S N l.toArray [oi] (JAS S N l.toArray fuel (listed.set i true) K) σ))(h':(J false S N l.toArray [oj] (JAS S N l.toArray fuel (listed.set j true) K) σ)):JAS S N l.toArray (fuel+1) listed K σ:=.two hr ho ho' h h'
theorem w9H0{A B:Prop}(g:B)(h:Wr B→A:=by intro g9;first|((apply JAS.done (fuel:=0));decide +kernel;exact g9.out)|fail):A:=h ⟨g⟩
theorem w9H1{A B:Prop}(f i:Nat)(g:B)(h:K9 f i→Wr B→A:=by intro k9 g9;first|((apply JAS.oneK k9);decide +kernel;rfl;exact g9.out)|fail):A:=h ⟨⟩ ⟨g⟩
theorem w9H2{A B C:Prop}(f i j:Nat)(g:B)(g':C)(h:K92 f i j→Wr B→Wr C→A:=by intro k9 g9 c9;first|((apply JAS.twoK k9);decide +kernel;rfl;rfl;exact g9.out;exact c9.out)|fail):A:=h ⟨⟩ ⟨g⟩ ⟨g'⟩
theorem JAF.takeK{S:Sys}{N:Nat}{l:List Oper}{fuel:Nat}{listed:List Bool}{K:St→Prop}{σ:St}{σ':St}{i:Nat}{o:Oper}(_:K9 fuel i)(ho:l[i]?=some o)(hg:live l.toArray o.guard σ=some true)(hB:(Region.noSelect l.toArray&&Region.free .any l.toArray listed.toArray i&&(readyL l listed).contains i)=true)(hs:StepS S o σ σ')(h:JAF S N l.toArray fuel (listed.set i true) K σ'):JAF S N l.toArray (fuel+1) listed K σ:=.take ho hg hB hs h
theorem JAS.takeWK{S:Sys}{N:Nat}{l:List Oper}{fuel:Nat}{listed:List Bool}{K:St→Prop}{σ:St}{σ':St}{i:Nat}{o:Oper}(_:K9 fuel i)(ho:l[i]?=some o)(hg:live l.toArray o.guard σ=some true)(hB:(Region.noSelect l.toArray&&Region.free .any l.toArray listed.toArray i&&(readyL l listed).contains i)=true)(hs:StepW S o σ σ')(h:JAS S N l.toArray fuel (listed.set i true) K σ'):JAS S N l.toArray (fuel+1) listed K σ:=.takeW ho hg hB hs h
theorem w9Ft{A B:Prop}(f i:Nat)(g:B)(h:K9 f i→Wr B→A:=by intro k9 g9;first|((apply JAF.takeK k9);rfl;rfl;decide +kernel;(first|((with_reducible apply h_ldD)<;>rfl)|((with_reducible apply h_ldSA)<;>rfl)|((with_reducible apply h_ldS)<;>rfl)|(exact(StepW.toS (by first|exact(StepW.ext FM.st)|exact(StepW.mov (.inl rfl) FM.st)|exact(StepW.mov (.inr rfl) FM.st)|((with_reducible apply w_ixaSh)<;>exact w9l)|exact(w_nilR rfl rfl rfl)|((with_reducible apply w_strAdd)<;>(first|rfl|exact w9l))|((with_reducible apply w_add)<;>(first|rfl|exact InR.mk (by omega)))|((with_reducible apply w_fadSM)<;>rfl)|((with_reducible apply w_fadS)<;>rfl)|exact w_fadM rfl rfl rfl rfl rfl rfl rfl rfl rfl|exact w_fadO rfl rfl rfl rfl rfl rfl rfl rfl|exact w_fadR rfl rfl rfl rfl rfl rfl rfl rfl rfl|exact w_fadDh rfl rfl rfl rfl rfl rfl rfl|fail)))|fail);exact g9.out)|fail):A:=h ⟨⟩ ⟨g⟩
theorem w9Hw{A B:Prop}(f i:Nat)(g:B)(h:K9 f i→Wr B→A:=by intro k9 g9;first|((apply JAS.takeWK k9);rfl;rfl;decide +kernel;(first|exact(StepW.ext FM.st)|exact(StepW.mov (.inl rfl) FM.st)|exact(StepW.mov (.inr rfl) FM.st)|((with_reducible apply w_ixaSh)<;>exact w9l)|exact(w_nilR rfl rfl rfl)|((with_reducible apply w_strAdd)<;>(first|rfl|exact w9l))|((with_reducible apply w_add)<;>(first|rfl|exact InR.mk (by omega)))|((with_reducible apply w_fadSM)<;>rfl)|((with_reducible apply w_fadS)<;>rfl)|exact w_fadM rfl rfl rfl rfl rfl rfl rfl rfl rfl|exact w_fadO rfl rfl rfl rfl rfl rfl rfl rfl|exact w_fadR rfl rfl rfl rfl rfl rfl rfl rfl rfl|exact w_fadDh rfl rfl rfl rfl rfl rfl rfl);exact g9.out)|fail):A:=h ⟨⟩ ⟨g⟩
end FM
