/- A struct of one pointer: a call that turns what it owns; laid in a new variable. No program in sight. -/
import Derived.Test.YtkkcnppgcnmikaaGreatDoorAca
import Derived.Test.YtkkcnppgcnmikaaGreatDoorAbf
import Derived.Test.YtkkcnppgcnmikaaGreatDoorAbc
import Derived.Test.YtkkcnppgcnmikaaGreatDoorAbh
namespace FM
open Go Go.RowKit
set_option linter.all false
theorem J.callFld1{S:Sys}{N:Nat}{σ:St}{P:Program}{f:Nat}{x x':AV}{rest:List AV}{r:AV}{xs:List Operand}{ops:Array Oper}{l:List Oper}{K:St→Prop}{d s t ty:Nat}{ts:Array Nat}{pos:String}{aft:Array Edge}{g:Option (Nat×Bool)}(hs:FnSpec P f (x::rest) (x'::rest) r)(hP:P=S.P)(hg:live ops g σ=some true)
  (h1:FM.get σ t=.rref s 0 x) (h2:FM.get σ s=.av (.pt true [x])) (hx:x≠.dead) (h3:Nat.beq t d=false) (h4:Nat.beq s d=false) (h5:Nat.beq s t=false) (ha:ArgsOk S N ((σ.upd false s (.av (.pt true [.dead]))).put t (.av x)) xs false rest) (hc:x'.cells=[x'])
  (h:J false S N ops l K ((((((σ.upd false s (.av (.pt true [.dead]))).put t (.av x)).put d (.av r)).put t (.av x')).put t .none).upd false s (.av (.pt true [x'])))) :
  J false S N ops (⟨some d,.call ⟨.value (.func f),(.tmp t::xs).toArray,ts⟩,ty,pos,aft,g⟩::l) K σ:=by
 subst hP
 unfold J at *
 intro hdo w0 L0 Q a w hQ hR
 obtain⟨g1,g2⟩:=dstOk_cons hdo
 have hd:=g1 d rfl
 have hw:=live_wanted (o:=⟨some d,.call ⟨.value (.func f),(.tmp t::xs).toArray,ts⟩,ty,pos,aft,g⟩) hg hR
 simp only [wpList,hw,if_true]
 refine .inl ?_
 unfold Oper.wp
 rw [run_call (xs:=.tmp t::xs) hs.ok rfl rfl w,Oper.upon_enter]
 obtain⟨L,hR⟩:=hR
 have hst:=of_not_beq h5
 have htd:=of_not_beq h3
 have hsd:=of_not_beq h4
 have hsN:=own_lt hR h2 (by simp)
 have htN:=own_lt hR h1 (by simp)
 have hR1:RelL S w0 L0 N ((σ.upd false s (.av (.pt true [.dead]))).put t (.av x)) a w (mvl [s,0] t L):=hR.takeBox (i:=0) h2 h1 hx hst (by simp)
 have hs0:=hR.hold s hsN
 rw [h2] at hs0
 simp only [Hold] at hs0
 obtain⟨b1,hLb,hpv,hlt,_⟩:=pt_at hs0
 have ht0:=hR.hold t htN
 rw [h1] at ht0
 obtain⟨b2,hLb2,hcell,_⟩:=ht0
 have hbb:=hR.lok.inj _ _ _ hLb2 hLb
 subst hbb
 have e1:FM.get ((σ.upd false s (.av (.pt true [.dead]))).put t (.av x)) t=.av x:=by simp [FM.get,Nat.beq_refl]
 have hlen:=ha.length
 have hms:MOk d (xs.length+1) [(t,0)]:=.one h3 (by simp [Nat.blt])
 have hi0:idxM [(t,0)] t=some 0:=by simp [idxM,Nat.beq_refl]
 have hLm:inH [(t,0)] (mvl [s,0] t L) b2=.fo:=inH_no (t:=s) (q:=[]) (mvl_keep hLb hst (by simp [strip])) (by simp [idxM,not_beq (fun e=>hst e.symm:t≠s)])
 have mem:∀ {s' i:Nat},idxM [(t,0)] s'=some i→s'=t∧i=0:=fun{s' i} hi=>by
  simp only [idxM] at hi
  cases hb:Nat.beq t s' with
  | true=>rw [hb,cond_true] at hi;injection hi with hi;exact⟨(Nat.eq_of_beq_eq_true hb).symm,hi.symm⟩
  | false=>rw [hb,cond_false] at hi;cases hi
 obtain⟨f1,f2,f3⟩:=slotAt_ev (x:=.tmp t) (t:=t) (by unfold slotAt;simp only [e1]) e1 hR1
 have hlr:(x::rest).length=xs.length+1:=by rw [List.length_cons,hlen]
 have hcalls:=hs.calls w (inH [(t,0)] (mvl [s,0] t L)) ((Operand.tmp t::xs).map a.eval) (by rw [List.length_map,List.length_cons,List.length_cons,hlen])
 rw [hlr] at hcalls
 refine(hcalls ⟨fun b p hb=>?_,fun b p hb=>?_,fun b b' p hb hb'=>?_,fun b hge hf=>?_,hR1.globNow.move (Nat.le_refl _) fun b _ h=>⟨inH_sh h,rfl⟩⟩ (fun i y v hy hv=>?_)).mono fun e w' ⟨v,L',he,hB⟩=>?_
 ·obtain⟨t',i,q,h3,_,_⟩:=inH_my hb;exact hR1.lok.lt b _ h3
 ·obtain⟨t',i,q,_,h3,h4⟩:=inH_my hb;exact⟨i,q,h4,hms.lt _ _ h3⟩
 ·obtain⟨t1,i,q,h3,h4,h5⟩:=inH_my hb
  obtain⟨t',i',q',h3',h4',h5'⟩:=inH_my hb'
  rw [h5] at h5';cases h5'
  have e1:=hms.inv _ _ h4
  have e2:=hms.inv _ _ h4'
  rw [e1] at e2;cases e2
  exact hR1.lok.inj _ _ _ h3 h3'
 ·rcases inH_fo' hf with h|⟨p,h⟩
  ·exact hR1.lok.new b (Nat.le_trans hR1.keep.size hge) h
  ·have:=hR1.lok.lt b _ h;omega
 ·cases i with
  | zero =>
   simp only [List.map_cons,List.getElem?_cons_zero,Option.some.injEq] at hy hv
   subst hy;subst hv
   exact f3.frame (Nat.le_refl _) rfl rfl rfl (fun b hb _=>⟨inH_sh hb,rfl⟩) _ fun p hp=>by
    cases hp
    exact⟨[0],rfl,fun b q hb=>⟨inH_to hb hi0,rfl⟩⟩
  | succ i =>
   simp only [List.map_cons,List.getElem?_cons_succ,List.getElem?_map,Option.map_eq_some_iff] at hy hv
   obtain⟨z,hz,rfl⟩:=hv
   obtain⟨c,h5,h6⟩:=ha.get i z y hz hy
   have hc:=h6 rfl
   subst hc
   exact(h5.readS hR1 fun b _ hb=>inH_sh hb).any _
 ·subst he
  obtain⟨L2,hR2⟩:=after_callH hR1 hd hms hB fun s' i hi=>by
   obtain⟨rfl,rfl⟩:=mem hi
   exact⟨htN,rfl,x',rfl⟩
  have hblk:w'.heap[b2]?=w.heap[b2]?:=hB.keep.block b2 hlt fun q hq=>by rw [hLm] at hq;cases hq
  have gs:FM.get (putM [(t,0)] (x'::rest) (((σ.upd false s (.av (.pt true [.dead]))).put t (.av x)).put d (.av r))) s=.av (.pt true [.dead]):=by
   simp [putM,FM.get,not_beq (fun e=>hst e.symm:t≠s),not_beq (fun e=>hsd e.symm:d≠s),Nat.beq_refl,TV.kill]
  have gt:FM.get (putM [(t,0)] (x'::rest) (((σ.upd false s (.av (.pt true [.dead]))).put t (.av x)).put d (.av r))) t=.av x':=by
   simp [putM,FM.get,Nat.beq_refl]
  have hR3:=hR2.intoBox (s:=s) (i:=0) (t0:=t) gs gt hc (fun e=>hst e.symm) (by simp) (fun b hb=>by
   have hh:=hR2.hold s hsN
   rw [gs] at hh
   simp only [Hold] at hh
   obtain⟨b3,h31,h32,_,_⟩:=pt_at hh
   have e3:(a.put (some d) v).tmps.getD s undef=a.tmps.getD s undef:=getD_set_other (fun e=>hsd e.symm)
   have e4:(a.put (some d) v).tmps.getD t undef=a.tmps.getD t undef:=getD_set_other (fun e=>htd e.symm)
   rw [e3,hpv] at h32
   have h33:b2=b3:=by injection h32 with h;injection h with h;injection h
   have:=hR2.lok.inj _ _ _ hb h31
   subst this
   rw [e4,←h33,cell_of_heap hblk]
   exact hcell)
  exact h g2 w0 L0 Q _ w' hQ ⟨_,hR3⟩
theorem J.bldBox1{S:Sys}{N:Nat}{σ:St}{t by_:Nat}{fs:List (Nat×Nat)}{u0:Value}{xs:List AV}{ops:Array Oper}{l:List Oper}{K:St→Prop}{d d3 s ty ty2:Nat}{pos pos2:String}{aft aft2:Array Edge}
  (hT:S.T t=some ⟨.struct fs,1,by_,[.val u0]⟩) (hf:ones1 S.T fs 0=true) (hl:Nat.beq fs.length 1=true) (hs:FM.get σ s=.av (.pt true xs)) (h1:Nat.beq s d=false) (h2:Nat.beq s d3=false) (h3:Nat.beq d d3=false)
  (h:J false S N ops l K ((((σ.put d .none).put d3 (.av (.pt true [.dead]))).put s .none).upd false d3 (.av (.pt true [.pt true xs])))) :
  J false S N ops (⟨some d,.build t #[(0,.tmp s)],ty,pos,aft,none⟩::⟨some d3,.box t (.tmp d),ty2,pos2,aft2,none⟩::l) K σ:=by
 unfold J at *
 intro hdo w0 L0 Q a w hQ ⟨L,hR⟩
 obtain⟨g1,g2⟩:=dstOk_cons hdo
 obtain⟨g3,g4⟩:=dstOk_cons g2
 have hd:=g1 d rfl
 have hd3:=g3 d3 rfl
 have hsN:=own_lt hR hs (by simp)
 have hsd:=of_not_beq h1
 have hsd3:=of_not_beq h2
 have hdd:=of_not_beq h3
 have hh:=hR.hold s hsN
 rw [hs] at hh
 simp only [Hold] at hh
 obtain⟨bs,hLs,hps,_,_⟩:=pt_at hh
 obtain⟨u,hu⟩:∃ u,u=Value.pointer (some ⟨bs,0,none⟩):=⟨_,rfl⟩
 rw [← hu] at hps
 have huc:(AV.val u).cellOk=true:=by rw [hu];rfl
 have hg1:FM.get (ofL [(s,.av (.val u))]) s=.av (.val u):=by simp [ofL,FM.get,Nat.beq_refl]
 have hRv:RelL S w0 L0 N (ofL [(s,.av (.val u))]) a w L:=⟨hR.defers,hR.size,hR.keep,hR.lok,fun n hn=>by
   by_cases e:s=n
   ·subst e;rw [hg1];simp only [Hold];rw [hps];exact .val
   ·simp only [ofL,FM.get,not_beq e,cond_false];trivial,fun n hn=>by
   have:s≠n:=by omega
   simp only [ofL,FM.get,not_beq this,cond_false];rfl,hR.fix,hR.glob⟩
 obtain⟨v,hv1,L1,hv2⟩:=s_bldS (S:=S) (σ:=ofL [(s,.av (.val u))]) (d:=d) (ty:=ty) (pos:=pos) (aft:=aft) (g:=none) (ps:=#[(0,.tmp s)]) (ys:=[.val u]) hT hf hl (.part rfl hg1 huc rfl .nil) w0 L0 N a w g1 ⟨L,hRv⟩
 have hv3:=hv2.hold d hd.lt
 rw [show FM.get ((ofL [(s,.av (.val u))]).put d (.av (.agg [.val u]))) d=.av (.agg [.val u]) by simp [FM.get,Nat.beq_refl]] at hv3
 simp only [Hold] at hv3
 rw [show(a.put (some d) v).tmps.getD d undef=v from getD_set_same (by rw [hR.size];exact hd.lt)] at hv3
 have hve:∀ (L:Nat→Lab) (w:World) π,Rep L w π (.agg [.val u]) v:=by
  generalize v=vv at hv3
  cases hv3 with
  | @agg _ _ vs hl h =>
   match vs,hl,h with
   | [z],_,h =>
    have e2:=h 0 _ _ rfl rfl
    cases e2
    intro L w π
    refine .agg rfl fun i x v hx hv=>?_
    match i with
    | 0=>simp only [List.getElem?_cons_zero,Option.some.injEq] at hx hv;subst hx;subst hv;exact .val
    | i+1=>simp at hx
 have hR2:RelL S w0 L0 N (σ.put d (.av (.agg [.val u]))) (a.put (some d) v) w (clear d L):=hR.put hd (hve _ _ _)
 have hgd:FM.get (σ.put d (.av (.agg [.val u]))) d=.av (.agg [.val u]):=by simp [FM.get,Nat.beq_refl]
 obtain⟨v3,w3,hv4,L3,hR3⟩:=e_box (S:=S) (σ:=σ.put d (.av (.agg [.val u]))) (d:=d3) (ty:=ty2) (pos:=pos2) (aft:=aft2) (g:=none) (t:=t) (v:=.tmp d) (z:=.agg [.val u]) hgd rfl (by rw [hu];rfl) w0 L0 N (a.put (some d) v) w g3 ⟨_,hR2⟩
 have es:((a.put (some d) v).put (some d3) v3).tmps.getD s undef=u:=by
  rw [show((a.put (some d) v).put (some d3) v3).tmps.getD s undef=(a.put (some d) v).tmps.getD s undef from getD_set_other (fun e=>hsd3 e.symm),show(a.put (some d) v).tmps.getD s undef=a.tmps.getD s undef from getD_set_other (fun e=>hsd e.symm),hps]
 have k1:FM.get ((σ.put d (.av (.agg [.val u]))).put d3 (.av (.pt true (AV.agg [.val u]).cells))) d3=.av (.pt true [.val u]):=by simp [FM.get,Nat.beq_refl,AV.cells]
 have k2:FM.get ((σ.put d (.av (.agg [.val u]))).put d3 (.av (.pt true (AV.agg [.val u]).cells))) s=.av (.pt true xs):=by
  simp [FM.get,not_beq (fun e=>hsd e.symm:d≠s),not_beq (fun e=>hsd3 e.symm:d3≠s),hs,TV.kill]
 have hR4:=hR3.intoBox (s:=d3) (i:=0) (t0:=s) k1 k2 rfl hsd3 (by simp) (fun b hb=>by
  have hh:=hR3.hold d3 hd3.lt
  rw [k1] at hh
  simp only [Hold] at hh
  obtain⟨b3,h31,h32,_,h34⟩:=pt_at hh
  have:=hR3.lok.inj _ _ _ hb h31
  subst this
  obtain⟨q,hq1,hq2⟩:=h34 0 _ rfl
  cases hq2
  rw [es]
  exact hq1)
 have hR5:Rel S w0 L0 N ((((σ.put d .none).put d3 (.av (.pt true [.dead]))).put s .none).upd false d3 (.av (.pt true [.pt true xs]))) ((a.put (some d) v).put (some d3) v3) w3:=by
  refine Rel.weaken (fun n=>?_) ⟨_,hR4⟩
  simp only [FM.get]
  by_cases e1:d3=n
  ·subst e1;left;simp only [Nat.beq_refl,cond_true];rfl
  ·simp only [not_beq e1,cond_false]
   by_cases e2:s=n
   ·subst e2;left;simp only [Nat.beq_refl,cond_true]
   ·simp only [not_beq e2,cond_false]
    by_cases e3:d=n
    ·subst e3;right;simp [Nat.beq_refl,TV.kill,TV.stale]
    ·simp only [not_beq e3,cond_false];left;trivial
 have hk:wpList S.P ops Q (⟨some d3,.box t (.tmp d),ty2,pos2,aft2,none⟩::l) (a.put (some d) v) w:=by
  rw [wpList,if_pos (live_wanted (ops:=ops) (o:=⟨some d3,.box t (.tmp d),ty2,pos2,aft2,none⟩) (b:=true) rfl ⟨_,hR2⟩)]
  refine .inl ?_
  unfold Oper.wp
  rcases hv4 with e|⟨e,rfl⟩
  ·rw [e];exact h g4 w0 L0 Q _ w3 hQ hR5
  ·rw [e];exact h g4 w0 L0 Q _ w3 hQ hR5
 rw [wpList,if_pos (live_wanted (ops:=ops) (o:=⟨some d,.build t #[(0,.tmp s)],ty,pos,aft,none⟩) (b:=true) rfl ⟨_,hR⟩)]
 refine .inl ?_
 unfold Oper.wp
 rw [hv1 w (Ext.refl w)]
 exact hk
theorem w9f1{A B:Prop}{P:Program}{f:Nat}{x y:AV}{rest:List AV}{r:AV}(hs:FnSpec P f (x::rest) (y::rest) r)(g:B)(h:FnSpec P f (x::rest) (y::rest) r→Wr B→A:=by intro hs9 g9;first|exact J.callFld1 hs9 rfl rfl rfl rfl AV.noConfusion rfl rfl rfl (by repeat' (first|exact ArgsOk.nil|apply ArgsOk.consF|exact ArgOk.pl rfl rfl)) rfl g9.out|fail):A:=h hs ⟨g⟩
end FM
namespace Go.Proofs.YtkkcnppgcnmikaaGreatDoor
open Go FM
set_option linter.all false
def st1(y:Nat):Nat:=if shr y 15=1 then sl16 y 1 ^^^ 4129 else sl16 y 1
def st1s(y:Nat):Nat→Nat
 | 0=>y
 | j+1=>st1 (st1s y j)
def st2(c x i:Nat):Nat:=if x / 32768 ^^^ (shr c i%2)=1 then(x*2%65536) ^^^ 4129 else x*2%65536
def st2s(c x:Nat):Nat→Nat
 | 0=>x
 | j+1=>st2 c (st2s c x j) (7-j)
theorem shl_xor{a b:Nat}:(a ^^^ b)*2%65536=(a*2%65536) ^^^ (b*2%65536):=by
 have h1:(a ^^^ b)*2=a*2 ^^^ b*2:=by
  have:=Nat.shiftLeft_xor_distrib (a:=a) (b:=b) (i:=1)
  simpa [Nat.shiftLeft_eq] using this
 have h2:=Nat.xor_mod_two_pow (a:=a*2) (b:=b*2) (n:=16)
 rw [h1];exact h2
theorem st2_lt{c x i:Nat}:st2 c x i<65536:=by
 unfold st2;split
 ·exact xor_u16 (by omega) (by omega)
 ·omega
theorem st1_lt{y:Nat}:st1 y<65536:=by
 unfold st1;split
 ·exact xor_u16 (sl16_lt _ _) (by decide)
 ·exact sl16_lt _ _
theorem st2s_lt{c x:Nat}(h:x<65536):∀ j,st2s c x j<65536
 | 0=>h
 | j+1=>st2_lt
theorem st1s_lt{y:Nat}(h:y<65536):∀ j,st1s y j<65536
 | 0=>h
 | j+1=>st1_lt
theorem top_bit:∀ c,c<256→∀ j,j<8→(c*2 ^ (8+j)%65536) / 2 ^ 15=c / 2 ^ (7-j)%2∧(c*2 ^ (8+j)%65536)*2%65536=c*2 ^ (9+j)%65536:=by decide +kernel
theorem st_both{c x:Nat}(hc:c<256)(hx:x<65536):∀ j,j≤8→st1s (x ^^^ sl16 c 8) j=st2s c x j ^^^ (c*2 ^ (8+j)%65536)
 | 0,_=>rfl
 | j+1,hj=>by
  have ih:=st_both hc hx j (by omega)
  obtain⟨t1,t2⟩:=top_bit c hc j (by omega)
  have hlt:=st2s_lt (c:=c) hx j
  show st1 (st1s _ j)=st2 c (st2s c x j) (7-j) ^^^ _
  rw [ih]
  generalize st2s c x j=X at *
  generalize c*2 ^ (8+j)%65536=C at *
  have e1:(X ^^^ C) / 2 ^ 15=X / 32768 ^^^ (c / 2 ^ (7-j)%2):=by rw [Nat.xor_div_two_pow,t1]
  have e2:(X ^^^ C)*2 ^ 1%65536=(X*2%65536) ^^^ (c*2 ^ (8+(j+1))%65536):=by
   rw [Nat.pow_one,shl_xor,t2,show 9+j=8+(j+1) by omega]
  unfold st1 st2 shr sl16
  rw [e1,e2]
  split
  ·rw [Nat.xor_assoc,Nat.xor_comm (c*2 ^ (8+(j+1))%65536),←Nat.xor_assoc]
  ·rfl
theorem st_eq{c x:Nat}(hc:c<256)(hx:x<65536):st1s (x ^^^ sl16 c 8) 8=st2s c x 8:=by
 rw [st_both hc hx 8 (Nat.le_refl _)]
 have:c*2 ^ (8+8)%65536=0:=by omega
 rw [this,Nat.xor_zero]
def crc(s:List UInt8):Nat:=s.foldl (fun x c=>st2s c.toNat x 8) 65535
theorem crc_lt(s:List UInt8):crc s<65536:=by
 unfold crc
 have:∀ (s:List UInt8) x,x<65536→s.foldl (fun x c=>st2s c.toNat x 8) x<65536:=fun s=>by
  induction s with
  | nil=>intro x h;exact h
  | cons c s ih=>intro x h;exact ih _ (st2s_lt h 8)
 exact this s _ (by decide)
theorem crc_take{s:List UInt8}{k:Nat}(h:k<s.length):crc (s.take (k+1))=st2s s[k].toNat (crc (s.take k)) 8:=by
 unfold crc;rw [List.take_succ_eq_append_getElem h,List.foldl_append];rfl
theorem crc_take1{s:List UInt8}{k:Nat}(h:k<s.length):crc (s.take (k+1))=st1s (crc (s.take k) ^^^ sl16 s[k].toNat 8) 8:=by
 rw [crc_take h,st_eq s[k].toNat_lt (crc_lt _)]
def body(rec:List UInt8):List UInt8:=[UInt8.ofNat (rec.length%256)]++rec
def hiB(x:Nat):UInt8:=UInt8.ofNat (x / 256%256)
def loB(x:Nat):UInt8:=UInt8.ofNat (x%256)
def frm(rec:List UInt8):List UInt8:=body rec++[hiB (crc (body rec)),loB (crc (body rec))]
theorem frm_length(rec:List UInt8):(frm rec).length=rec.length+3:=by simp [frm,body]
def nx:List UInt8→Option (List UInt8)
 | []=>none
 | b::r=>if 64<b.toNat∨r.length<b.toNat+2 then none else if frm (r.take b.toNat)=(b::r).take (b.toNat+3) then some (r.take b.toNat) else none
theorem nx_cons(b:UInt8)(r:List UInt8):nx (b::r)=if 64<b.toNat∨r.length<b.toNat+2 then none else if frm (r.take b.toNat)=(b::r).take (b.toNat+3) then some (r.take b.toNat) else none:=rfl
theorem nx_some{s rec:List UInt8}(h:nx s=some rec):rec.length≤64∧rec.length+3≤s.length∧s.take (rec.length+3)=frm rec:=by
 cases s with
 | nil=>cases h
 | cons b r =>
  rw [nx_cons] at h
  split at h
  ·cases h
  ·split at h
   ·rename_i h1 h2
    injection h with h
    subst h
    have hl:(r.take b.toNat).length=b.toNat:=by rw [List.length_take];omega
    rw [hl,List.length_cons]
    exact⟨by omega,by omega,h2.symm⟩
   ·cases h
def scn:Nat→List UInt8→List (List UInt8)×Nat
 | 0,_=>([],0)
 | f+1,s=>match nx s with
  | none=>([],0)
  | some rec=>(rec::(scn f (s.drop (rec.length+3))).1,(scn f (s.drop (rec.length+3))).2+(rec.length+3))
abbrev scan(s:List UInt8):List (List UInt8)×Nat:=scn s.length s
theorem scn_fuel:∀ (f g:Nat) (s:List UInt8),s.length≤f→s.length≤g→scn f s=scn g s
 | 0,0,_,_,_=>rfl
 | 0,g+1,s,h,_=>by
  have:s=[]:=List.eq_nil_of_length_eq_zero (by omega)
  subst this;rfl
 | f+1,0,s,_,h=>by
  have:s=[]:=List.eq_nil_of_length_eq_zero (by omega)
  subst this;rfl
 | f+1,g+1,s,h1,h2=>by
  unfold scn
  cases h:nx s with
  | none=>rfl
  | some rec =>
   have:=nx_some h
   simp only
   rw [scn_fuel f g (s.drop (rec.length+3)) (by rw [List.length_drop];omega) (by rw [List.length_drop];omega)]
theorem scan_none{s:List UInt8}(h:nx s=none):scan s=([],0):=by
 unfold scan
 cases hs:s.length with
 | zero=>rfl
 | succ n=>unfold scn;rw [h]
theorem scan_some{s rec:List UInt8}(h:nx s=some rec):scan s=(rec::(scan (s.drop (rec.length+3))).1,(scan (s.drop (rec.length+3))).2+(rec.length+3)):=by
 have h1:=nx_some h
 unfold scan
 cases hs:s.length with
 | zero=>omega
 | succ n =>
  rw [scn,h]
  simp only
  rw [scn_fuel n (s.drop (rec.length+3)).length _ (by rw [List.length_drop];omega) (Nat.le_refl _)]
theorem scan_le:∀ (n:Nat) (s:List UInt8),s.length≤n→(scan s).2≤s.length
 | 0,s,h=>by
  have:s=[]:=List.eq_nil_of_length_eq_zero (by omega)
  subst this;exact Nat.le_refl _
 | n+1,s,h=>by
  cases hn:nx s with
  | none=>rw [scan_none hn];exact Nat.zero_le _
  | some rec =>
   have h1:=nx_some hn
   have ih:=scan_le n (s.drop (rec.length+3)) (by rw [List.length_drop];omega)
   rw [scan_some hn]
   rw [List.length_drop] at ih
   simp only;omega
theorem nx_test{s:List UInt8}{b:UInt8}{p q:UInt8}(h0:s[0]?=some b)(h1:¬ 64<b.toNat)(h2:b.toNat+3≤s.length)(hp:s[b.toNat+1]?=some p)(hq:s[b.toNat+2]?=some q) :
  (p=hiB (crc (s.take (b.toNat+1)))∧q=loB (crc (s.take (b.toNat+1)))→nx s=some ((s.take (b.toNat+1)).drop 1))∧(¬ (p=hiB (crc (s.take (b.toNat+1)))∧q=loB (crc (s.take (b.toNat+1))))→nx s=none):=by
 cases s with
 | nil=>cases h0
 | cons b' r =>
  simp only [List.getElem?_cons_zero,Option.some.injEq] at h0
  subst h0
  rw [List.length_cons] at h2
  rw [List.getElem?_cons_succ] at hp hq
  have hl:(r.take b'.toNat).length=b'.toNat:=by rw [List.length_take];omega
  have hb:body (r.take b'.toNat)=(b'::r).take (b'.toNat+1):=by
   unfold body
   rw [hl,List.take_succ_cons]
   have:UInt8.ofNat (b'.toNat%256)=b':=by rw [Nat.mod_eq_of_lt b'.toNat_lt];exact UInt8.ofNat_toNat
   rw [this];rfl
  have ht:(b'::r).take (b'.toNat+3)=(b'::r).take (b'.toNat+1)++[p,q]:=by
   rw [show b'.toNat+3=b'.toNat+2+1 by omega,List.take_succ_cons,List.take_succ_cons]
   have e1:r.take (b'.toNat+1)=r.take b'.toNat++[p]:=by rw [List.take_succ,hp];rfl
   have e2:r.take (b'.toNat+1+1)=r.take (b'.toNat+1)++[q]:=by rw [List.take_succ,hq];rfl
   rw [show b'.toNat+2=b'.toNat+1+1 by omega,e2,e1]
   simp
  have hd:((b'::r).take (b'.toNat+1)).drop 1=r.take b'.toNat:=by rw [List.take_succ_cons];rfl
  have hiff:frm (r.take b'.toNat)=(b'::r).take (b'.toNat+3)↔(p=hiB (crc ((b'::r).take (b'.toNat+1)))∧q=loB (crc ((b'::r).take (b'.toNat+1)))):=by
   unfold frm
   rw [hb,ht,List.append_cancel_left_eq]
   constructor
   ·intro h;injection h with h1 h2;injection h2 with h2 _;exact⟨h1.symm,h2.symm⟩
   ·rintro⟨rfl,rfl⟩;rfl
  rw [nx_cons,if_neg (by omega)]
  constructor
  ·intro h;rw [if_pos (hiff.2 h),hd]
  ·intro h;rw [if_neg (fun e=>h (hiff.1 e))]
def dk:List (List UInt8)→List UInt8
 | []=>[]
 | r::l=>frm r++dk l
theorem dk_append:∀ a b:List (List UInt8),dk (a++b)=dk a++dk b
 | [],b=>rfl
 | r::a,b=>by rw [List.cons_append,dk,dk_append a b,dk,List.append_assoc]
theorem dk_one(r:List UInt8):dk [r]=frm r:=List.append_nil _
theorem dk_take_drop(l:List (List UInt8))(j:Nat):dk (l.take j)++dk (l.drop j)=dk l:=by rw [← dk_append,List.take_append_drop]
theorem dk_take(l:List (List UInt8))(j:Nat):(dk l).take (dk (l.take j)).length=dk (l.take j):=by
 rw [← dk_take_drop l j];exact List.take_left' rfl
theorem dk_len:∀ l:List (List UInt8),l.length≤(dk l).length
 | []=>Nat.le_refl _
 | r::l=>by
  have:=dk_len l
  rw [dk,List.length_append,frm_length,List.length_cons];omega
theorem frm_cons(r:List UInt8):frm r=UInt8.ofNat (r.length%256)::(r++[hiB (crc (body r)),loB (crc (body r))]):=by
 unfold frm body;simp
theorem nx_frm{r:List UInt8}(s:List UInt8)(h:r.length≤64):nx (frm r++s)=some r:=by
 have hb:(UInt8.ofNat (r.length%256)).toNat=r.length:=by rw [UInt8.toNat_ofNat'];omega
 have e:frm r++s=UInt8.ofNat (r.length%256)::(r++([hiB (crc (body r)),loB (crc (body r))]++s)):=by rw [frm_cons];simp
 have h2:(frm r++s).take (r.length+3)=frm r:=List.take_left' (frm_length r)
 rw [e] at h2 ⊢
 rw [nx_cons,hb,if_neg (by simp only [List.length_append,List.length_cons,List.length_nil];omega),List.take_left' rfl,h2,if_pos rfl]
theorem nx_cut{r:List UInt8}(s:List UInt8)(h:r.length≤64){m:Nat}(hm:m<r.length+3):nx ((frm r++s).take m)=none:=by
 have hb:(UInt8.ofNat (r.length%256)).toNat=r.length:=by rw [UInt8.toNat_ofNat'];omega
 rw [frm_cons,List.cons_append]
 cases m with
 | zero=>rfl
 | succ m=>rw [List.take_succ_cons,nx_cons,hb,if_pos (.inr (by rw [List.length_take];omega))]
theorem scan_cut:∀ (l:List (List UInt8)) (m:Nat),(∀ r∈l,r.length≤64)→m≤(dk l).length →
  ∃ j,j≤l.length∧(scan ((dk l).take m)).1=l.take j∧(scan ((dk l).take m)).2=(dk (l.take j)).length∧(dk (l.take j)).length≤m∧(m=(dk l).length→j=l.length)
 | [],m,_,hm=>⟨0,Nat.le_refl _,by
   have:(dk []).take m=[]:=by cases m<;>rfl
   rw [this];exact⟨rfl,rfl,Nat.zero_le _,fun _=>rfl⟩⟩
 | r::l,m,h,hm=>by
  have hr:=h r (List.mem_cons_self ..)
  have hdl:(dk (r::l)).length=r.length+3+(dk l).length:=by rw [dk,List.length_append,frm_length]
  by_cases hc:m<r.length+3
  ·refine⟨0,Nat.zero_le _,?_⟩
   rw [dk,scan_none (nx_cut _ hr hc)]
   refine⟨rfl,rfl,Nat.zero_le _,fun e=>?_⟩
   rw [List.length_append,frm_length] at e;omega
  ·obtain⟨j,h1,h2,h3,h4,h5⟩:=scan_cut l (m-(r.length+3)) (fun r hr=>h r (List.mem_cons_of_mem _ hr)) (by rw [hdl] at hm;omega)
   have e:(dk (r::l)).take m=frm r++(dk l).take (m-(r.length+3)):=by
    rw [dk,List.take_append,frm_length,List.take_of_length_le (by rw [frm_length];omega)]
   refine⟨j+1,by simpa using h1,?_⟩
   rw [e,scan_some (nx_frm _ hr),List.drop_left' (frm_length r),List.take_succ_cons,dk,List.length_append,frm_length,h2,h3]
   refine⟨rfl,?_,by omega,fun e=>?_⟩
   ·show(dk (l.take j)).length+(r.length+3)=_;omega
   ·rw [h5 (by have:(dk (r::l)).length=_:=hdl;omega)];rfl
theorem scan_dk{l:List (List UInt8)}(h:∀ r∈l,r.length≤64):scan (dk l)=(l,(dk l).length):=by
 obtain⟨j,h1,h2,h3,h4,h5⟩:=scan_cut l (dk l).length h (Nat.le_refl _)
 have:=h5 rfl
 subst this
 rw [List.take_length,List.take_length] at h2 h3
 exact Prod.ext h2 h3
end Go.Proofs.YtkkcnppgcnmikaaGreatDoor
namespace Go.Proofs.YtkkcnppgcnmikaaGreatDoor
open Go FM Go.Proofs
set_option maxRecDepth 10000
set_option maxHeartbeats 3200000
set_option linter.all false
abbrev Ac:=Str×Int×Int×Unit
abbrev acA(a:Ac):AV:=.agg [.str a.1,.int a.2.1,.int a.2.2.1]
abbrev Dl:=Str×Str×Int×Int×Int×Int×Unit
abbrev dlA(d:Dl):AV:=.agg [.str d.1,.str d.2.1,.int d.2.2.1,.int d.2.2.2.1,.int d.2.2.2.2.1,.int d.2.2.2.2.2.1]
def wiB(x:Int):Bool:=decide (0≤x∧x≤1000000)
def noW(x:Int):Bool:=decide (x<0∨1000000<x)
theorem noW_wiB(x:Int):noW x=!(wiB x):=by
 unfold noW wiB
 rw [Bool.eq_iff_iff]
 simp only [decide_eq_true_eq,Bool.not_eq_true',decide_eq_false_iff_not]
 omega
theorem within1_spec(x:Int):FnSpec Sy.P 136 [.int x] [.int x] (.bool (noW x)):=by
 unfold noW
 refine enT Tryz.func136 Tryz.ntmps136 fun v0=>?_
 by_cases c:x<0∨1000000<x
 ·rw [decide_eq_true c]
  repeat' first|refine w9x ?_|(refine w9c ?_ ?_<;>intro _<;>try exact w9o)|fail
  all_goals first|exact .mk rfl rfl rfl|exact .mk rfl (congrArg AV.bool (by simp;omega)) rfl
 ·rw [decide_eq_false c]
  repeat' first|refine w9x ?_|(refine w9c ?_ ?_<;>intro _<;>try exact w9o)|fail
  all_goals first|exact .mk rfl rfl rfl|exact .mk rfl (congrArg AV.bool (by simp;omega)) rfl
theorem within1_arg{m:Nat}{v:Nat→Value}{N:Nat}{σ:St}:ArgOk (Sy.fixed m v) N σ (.func 136) true (fnI Sy.P (fun _=>True) noW) :=
 .funI (within1_spec 0).ok fun x _=>within1_spec x
theorem any_noW(l:List Int):(!(l.any noW))=l.all wiB:=by
 rw [List.not_any_eq_all_not]
 exact congrArg l.all (funext fun x=>by rw [noW_wiB,Bool.not_not])
theorem within_spec(l:List Int)(hl:l.length≤9223372036854775807):FnSpec Sy.P 79 [.sl false 1 ((l).map .int)] [.sl false 1 ((l).map .int)] (.bool (l.all wiB)):=by
 have hA:=containsI_spec l (fun _=>True) noW hl (fun _ _=>trivial)
 rw [← any_noW]
 refine enT Tryz.func79 Tryz.ntmps79 fun v0=>?_
 repeat' first|refine w9x ?_|((with_reducible first|apply J.callP (hA)|apply J.callPQ (hA));rfl;rfl;(repeat' (first|exact ArgsOk.nil|exact within1_arg|apply ArgsOk.cons|exact ArgOk.pl rfl rfl|exact ArgOk.br rfl AV.noConfusion (by first|rfl|exact sh_int|exact sh_rows|exact sh_rowsO|exact sh_box|exact sh_map (fun _=>rfl))));(first|rfl|exact gn0|exact gnI))
 exact .mk rfl rfl rfl
/-! ### deals -/
def dlE(d:Dl):Int:=if nmB d.1=false∨nmB d.2.1=false∨d.1=d.2.1 then 3 else if (wiB d.2.2.1&&(wiB d.2.2.2.1&&(wiB d.2.2.2.2.1&&true)))=false∨d.2.2.2.2.2.1<1∨100<d.2.2.2.2.2.1 then 1 else 0
theorem wiB_iff{x:Int}:wiB x=true↔0≤x∧x≤1000000:=by unfold wiB;rw [decide_eq_true_eq]
theorem wiB_no{x:Int}:wiB x=false↔x<0∨1000000<x:=by unfold wiB;rw [decide_eq_false_iff_not];omega
theorem right_spec(d:Dl)(h1:d.1.length≤9223372036854775807)(h2:d.2.1.length≤9223372036854775807):FnSpec Sy.P 67 [dlA d] [dlA d] (.int (dlE d)):=by
 have hN1:=named_spec d.1 h1
 have hN2:=named_spec d.2.1 h2
 unfold dlE
 obtain⟨fr,tw,num,much,fee,size,u⟩:=d
 dsimp only [dlA] at hN1 hN2 ⊢
 refine enT Tryz.func67 Tryz.ntmps67 fun v0=>?_
 cases b1:nmB fr with
 | false =>
  rw [b1] at hN1
  rw [if_pos (.inl rfl)]
  repeat' first|refine w9x ?_|refine w9p (hN1) ?_|refine w9p (hN2) ?_|(refine w9c ?_ ?_<;>intro _<;>try exact w9o)|fail
  all_goals exact w9e
 | true =>
 rw [b1] at hN1
 cases b2:nmB tw with
 | false =>
  rw [b2] at hN2
  rw [if_pos (.inr (.inl rfl))]
  repeat' first|refine w9x ?_|refine w9p (hN1) ?_|refine w9p (hN2) ?_|(refine w9c ?_ ?_<;>intro _<;>try exact w9o)|fail
  all_goals exact w9e
 | true =>
 rw [b2] at hN2
 by_cases b3:fr=tw
 ·rw [if_pos (.inr (.inr b3))]
  repeat' first|refine w9x ?_|refine w9p (hN1) ?_|refine w9p (hN2) ?_|(refine w9c ?_ ?_<;>intro _<;>try exact w9o)|fail
  all_goals exact w9e
 rw [if_neg (by rintro(h|h|h)<;>first|exact b3 h|cases h)]
 have fin:∀ (P:Prop) [Decidable P] (n:Int),(P↔(num<0∨1000000<num∨much<0∨1000000<much∨fee<0∨1000000<fee∨size<1∨100<size))→(if P then(1:Int) else 0)=if (num<0∨1000000<num∨much<0∨1000000<much∨fee<0∨1000000<fee∨size<1∨100<size) then 1 else 0:=fun P _ n h=>by
  by_cases hP:P
  ·rw [if_pos hP,if_pos (h.1 hP)]
  ·rw [if_neg hP,if_neg (fun hh=>hP (h.2 hh))]
 rw [fin _ 0 (by
  simp only [Bool.and_true,Bool.and_eq_false_iff,wiB_no]
  constructor
  ·rintro((h|h|h)|h|h)<;>omega
  ·intro h;omega)]
 by_cases c:num<0∨1000000<num∨much<0∨1000000<much∨fee<0∨1000000<fee∨size<1∨100<size
 ·rw [if_pos c]
  repeat' first|refine w9x ?_|refine w9p (hN1) ?_|refine w9p (hN2) ?_|(refine w9c ?_ ?_<;>intro _<;>try exact w9o)|fail
  all_goals exact w9e
 ·rw [if_neg c]
  repeat' first|refine w9x ?_|refine w9p (hN1) ?_|refine w9p (hN2) ?_|(refine w9c ?_ ?_<;>intro _<;>try exact w9o)|fail
  all_goals exact w9e
theorem dealErr_spec(d:Dl)(h1:d.1.length≤9223372036854775807)(h2:d.2.1.length≤9223372036854775807):FnSpec Sy.P 85 [dlA d] [dlA d] (.int (dlE d)):=by
 have hN1:=namedR_spec d.1 h1
 have hN2:=namedR_spec d.2.1 h2
 have hW:=within_spec [d.2.2.1,d.2.2.2.1,d.2.2.2.2.1] (by simp)
 unfold dlE
 obtain⟨fr,tw,num,much,fee,size,u⟩:=d
 simp only [List.all_cons,List.all_nil] at hW
 dsimp only [dlA] at hN1 hN2 hW ⊢
 generalize (wiB num&&(wiB much&&(wiB fee&&true)))=wb at *
 refine enT Tryz.func85 Tryz.ntmps85 fun v0=>?_
 cases b1:nmB fr with
 | false =>
  rw [b1] at hN1
  rw [if_pos (.inl rfl)]
  repeat' first|refine w9x ?_|refine w9p (hN1) ?_|refine w9p (hN2) ?_|refine w9p (hW) ?_|(refine w9c ?_ ?_<;>intro _<;>try exact w9o)|(refine w9d ?_ ?_<;>intro _<;>try exact w9s)|fail
  all_goals exact w9e
 | true =>
 rw [b1] at hN1
 cases b2:nmB tw with
 | false =>
  rw [b2] at hN2
  rw [if_pos (.inr (.inl rfl))]
  repeat' first|refine w9x ?_|refine w9p (hN1) ?_|refine w9p (hN2) ?_|refine w9p (hW) ?_|(refine w9c ?_ ?_<;>intro _<;>try exact w9o)|(refine w9d ?_ ?_<;>intro _<;>try exact w9s)|fail
  all_goals exact w9e
 | true =>
 rw [b2] at hN2
 by_cases b3:fr=tw
 ·rw [if_pos (.inr (.inr b3))]
  repeat' first|refine w9x ?_|refine w9p (hN1) ?_|refine w9p (hN2) ?_|refine w9p (hW) ?_|(refine w9c ?_ ?_<;>intro _<;>try exact w9o)|(refine w9d ?_ ?_<;>intro _<;>try exact w9s)|fail
  all_goals exact w9e
 rw [if_neg (by rintro(h|h|h)<;>first|exact b3 h|cases h)]
 cases wb with
 | false =>
  rw [if_pos (.inl rfl)]
  repeat' first|refine w9x ?_|refine w9p (hN1) ?_|refine w9p (hN2) ?_|refine w9p (hW) ?_|(refine w9c ?_ ?_<;>intro _<;>try exact w9o)|(refine w9d ?_ ?_<;>intro _<;>try exact w9s)|fail
  all_goals exact w9e
 | true =>
  by_cases c:size<1∨100<size
  ·rw [if_pos (.inr c)]
   repeat' first|refine w9x ?_|refine w9p (hN1) ?_|refine w9p (hN2) ?_|refine w9p (hW) ?_|(refine w9c ?_ ?_<;>intro _<;>try exact w9o)|(refine w9d ?_ ?_<;>intro _<;>try exact w9s)|fail
   all_goals exact w9e
  ·rw [if_neg (by rintro(h|h);cases h;exact c h)]
   repeat' first|refine w9x ?_|refine w9p (hN1) ?_|refine w9p (hN2) ?_|refine w9p (hW) ?_|(refine w9c ?_ ?_<;>intro _<;>try exact w9o)|(refine w9d ?_ ?_<;>intro _<;>try exact w9s)|fail
   all_goals exact w9e
end Go.Proofs.YtkkcnppgcnmikaaGreatDoor
