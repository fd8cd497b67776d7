/- An abstract machine over the kit's rules, part 9: stores, variables in memory, ghost steps. -/
import Derived.Test.YtkkcnppgcnmikaaGreatDoorAai
import Derived.StillTail
namespace FM
open Go Go.RowKit
section
variable {S:Sys} {N:Nat} {σ:St}
theorem RelL.write{w0:World}{L0:Nat→Lab}{a:Act}{w w':World}{L:Nat→Lab}(hR:RelL S w0 L0 N σ a w L){s b:Nat}{q0:List Nat}{x':AV}(hs:s<N)(hb:L b=.my (s::q0))(hsz:w'.heap.size=w.heap.size)(ho:w'.os=w.os)(ht:w'.tape=w.tape)(hu:w'.output=w.output)(hblk:∀ k,k≠b→w'.heap[k]?=w.heap[k]?)
  (hx:Rep L w' (some [s]) x' (a.tmps.getD s undef)) (deep:Bool) (hdeep:deep=true→q0≠[]):RelL S w0 L0 N (σ.upd deep s (.av x')) a w' L:=by
 have hne:∀ k p,L k=.my p→p≠s::q0→k≠b:=fun k p hk hp e=>by subst e;rw [hb] at hk;injection hk with hk;exact hp hk.symm
 have hnsh:∀ k,L k=.sh→k≠b:=fun k hk e=>by subst e;rw [hb] at hk;cases hk
 refine⟨hR.defers,hR.size,⟨ho.trans hR.keep.os,ht.trans hR.keep.tape,hu.trans hR.keep.output,by rw [hsz];exact hR.keep.size,fun k hk hn=>?_⟩,⟨fun k p hk=>by rw [hsz];exact hR.lok.lt k p hk,hR.lok.inj,hR.lok.head,hR.lok.old,hR.lok.fo,hR.lok.new⟩,fun n hn=>?_,fun n hn=>?_,hR.fix,hR.glob⟩
 ·refine(hblk k (fun e=>?_)).trans (hR.keep.block k hk hn)
  subst e
  obtain⟨q,hq⟩:=hR.lok.old k _ hk hb;exact hn q hq
 ·simp only [get]
  by_cases hsn:s=n
  ·subst hsn;rw [Nat.beq_refl,cond_true];exact hx
  ·rw [not_beq hsn,cond_false]
   have hh:=hR.hold n hn
   have key:∀ tv:TV,tv.dep s=false→Hold L w a.tmps n tv (a.tmps.getD n undef)→Hold L w' a.tmps n tv (a.tmps.getD n undef):=fun tv hd hh =>
    Hold.relab (good:=fun m=>m≠s) (by omega) ho ht hu (fun k h1 _=>⟨h1,hblk k (hnsh k h1)⟩) (fun k m q h1 h2=>⟨h1,hblk k (hne k _ h1 (fun e=>by injection e with e _;exact h2 e))⟩)
     (fun _ _=>rfl) (fun e=>hsn e.symm) (fun m hm e=>by subst e;rw [hd] at hm;cases hm) hh
   generalize get σ n=tv at hh
   cases tv with
   | none=>trivial
   | av x=>exact key _ rfl hh
   | ref s'=>exact hh
   | rref s' r y =>
    simp only [TV.stale]
    cases hb':Nat.beq s' s with
    | false=>exact key _ hb' hh
    | true =>
     have:=Nat.eq_of_beq_eq_true hb';subst this
     cases deep with
     | false=>trivial
     | true =>
      obtain⟨k,h1,h2,_⟩:=hh
      exact⟨k,h1,by rw [cell_of_heap (hblk k (hne k _ h1 (fun e=>hdeep rfl (by injection e with _ e;exact e.symm))))];exact h2,fun h=>absurd rfl h⟩
   | ptr s' r c y =>
    simp only [TV.stale]
    cases hb':Nat.beq s' s with
    | false=>exact key _ hb' hh
    | true=>obtain⟨k,h1,h2,_⟩:=hh;exact⟨k,h1,h2,fun h=>absurd rfl h⟩
   | fpt s' o y =>
    simp only [TV.stale]
    cases hb':Nat.beq s' s with
    | false=>exact key _ hb' hh
    | true=>obtain⟨k,h1,h2,_⟩:=hh;exact⟨k,h1,h2,fun h=>absurd rfl h⟩
   | rptr s' r j y =>
    simp only [TV.stale]
    cases hb':Nat.beq s' s with
    | false=>exact key _ hb' hh
    | true =>
     cases deep with
     | false=>trivial
     | true=>obtain⟨k,h1,h2,_⟩:=hh;exact⟨k,h1,h2,fun h=>absurd rfl h⟩
   | dptr x=>exact key _ rfl hh
   | bdp s' x =>
    simp only [TV.stale]
    cases hb':Nat.beq s' s with
    | false=>exact key _ hb' hh
    | true=>trivial
   | bor s' x =>
    simp only [TV.stale]
    cases hb':Nat.beq s' s with
    | false=>exact key _ hb' hh
    | true=>trivial
   | clo f caps=>exact hh
 ·simp only [get]
  rw [not_beq (show s≠n by omega),cond_false,hR.out n hn];rfl
theorem run_store_at{t:Nat}{ti:TI}(hT:S.T t=some ti){b off e:Nat}{cur:Array Value}{w:World}{v:Value}(hb:w.heap[b]?=some (.cells cur e (0,0)))(hsz:v.cells.size=ti.size)(h1:∀ u∈v.cells.toList,u.oneCell'=true)(hfit:off+v.cells.size≤cur.size) :
  (Instr.storeAt t (.pointer (some ⟨b,off,none⟩)) v).run S.P w=.ok () (w.setRow b (cur.toList.take off++v.cells.toList++cur.toList.drop (off+v.cells.size)).toArray):=by
 obtain⟨f,hf1,hf2⟩:=(S.ok t ti hT).size
 have hst:=run_storeCells_at S.P b off e v.cells.toList 0 cur w hb (by simpa using hfit) h1
 simp only [Nat.add_zero,Array.length_toList] at hst
 have hne:v.cells.size=f.size:=by rw [hsz,hf2]
 simp [Instr.storeAt,Instr.sureAddr,storeVar,Go.sizeOf,typeInfo,hf1,hne,hst]
theorem getElem?_splice(cur vs:List Value)(off j:Nat)(h:off+vs.length≤cur.length):(cur.take off++vs++cur.drop (off+vs.length))[j]?=if off≤j∧j<off+vs.length then vs[j-off]? else cur[j]?:=by
 by_cases h1:j<off
 ·rw [List.append_assoc,List.getElem?_append_left (by simp;omega),List.getElem?_take,if_pos h1,if_neg (by omega)]
 ·by_cases h2:j<off+vs.length
  ·rw [List.getElem?_append_left (by simp;omega),List.getElem?_append_right (by simp;omega),if_pos (by omega)]
   congr 1;simp;omega
  ·rw [List.getElem?_append_right (by simp;omega),if_neg (by omega),List.getElem?_drop]
   congr 1;simp;omega
theorem flat_set{c:Nat}:∀ {xs:List AV} {i:Nat} {z:AV},(∀ x∈xs,x.cells.length=c)→z.cells.length=c→∀ (o:Nat) y,(flat (xs.set i z))[o]?=some y→(i*c≤o∧o<i*c+c∧i<xs.length∧z.cells[o-i*c]?=some y)∨(¬ (i*c≤o∧o<i*c+c)∧(flat xs)[o]?=some y):=by
 intro xs i z hc hz o y hy
 by_cases hi:i<xs.length
 ·have hc':∀ x∈xs.set i z,x.cells.length=c:=fun x hx=>by
   rcases List.mem_or_eq_of_mem_set hx with h|h
   ·exact hc x h
   ·rw [h];exact hz
  obtain⟨i',j,x,h1,h2,h3,h4⟩:=flat_split hc' hy
  rw [List.getElem?_set] at h1
  by_cases hii:i=i'
  ·subst hii
   rw [if_pos rfl,if_pos hi] at h1
   injection h1 with h1
   subst h1
   left
   refine⟨by omega,by omega,hi,?_⟩
   rw [h3,show i*c+j-i*c=j by omega];exact h2
  ·rw [if_neg hii] at h1
   right
   have hf:=flat_get hc h1 h2
   rw [← h3] at hf
   refine⟨fun h=>?_,hf⟩
   rcases Nat.lt_or_gt_of_ne hii with h'|h'
   ·have:(i+1)*c≤i'*c:=Nat.mul_le_mul_right _ (by omega)
    rw [Nat.add_mul] at this;omega
   ·have:(i'+1)*c≤i*c:=Nat.mul_le_mul_right _ (by omega)
    rw [Nat.add_mul] at this;omega
 ·rw [List.set_eq_of_length_le (by omega)] at hy
  refine .inr ⟨fun h=>?_,hy⟩
  have:=(List.getElem?_eq_some_iff.1 hy).1
  rw [flat_length hc] at this
  have:xs.length*c≤i*c:=Nat.mul_le_mul_right _ (by omega)
  omega
theorem val_cells{w0:World}{L0:Nat→Lab}{a:Act}{w:World}{L:Nat→Lab}(hR:RelL S w0 L0 N σ a w L){v:Operand}{z:AV}(hv:ov σ v=.av z)(hz:z.isOwn=false)(hok:z.varOk=true) :
  (a.eval v).cells.size=z.cells.length∧(∀ u∈(a.eval v).cells.toList,u.oneCell'=true)∧∀ (j:Nat) y,z.cells[j]?=some y→∃ u,(a.eval v).cells[j]?=some u∧Rep L w none y u:=by
 obtain⟨n,hn⟩:=ev_av hR hv
 exact rep_cells (hn.replace hz) hok
theorem e_st{t:Nat}{ti:TI}{x v:Operand}{s i c:Nat}{y0 z:AV}{xs:List AV}{ty:Nat}{pos:String}{aft:Array Edge}{g:Option (Nat×Bool)}(hx:ov σ x=.ptr s i c y0)(hs:get σ s=.av (.sl true c xs))(hT:S.T t=some ti)(hv:ov σ v=.av z)(hz:z.isOwn=false)(hok:z.varOk=true)(hc:Nat.beq z.cells.length ti.size=true)(hc2:Nat.beq ti.size c=true)(hi:i<xs.length) :
  EStep S ⟨none,.store t x v,ty,pos,aft,g⟩ σ (σ.upd false s (.av (.sl true c (xs.set i z)))):=by
 intro w0 L0 N a w _ ⟨L,hR⟩
 have hc1:=Nat.eq_of_beq_eq_true hc
 have hc3:=Nat.eq_of_beq_eq_true hc2
 obtain⟨_,⟨b,hL,hp,_⟩,_⟩:=hold_plain hR hx (by simp)
 have hsN:=own_lt hR hs (by simp)
 have hh:=hR.hold s hsN
 rw [hs] at hh
 simp only [Hold] at hh
 obtain⟨v1,v2,v3⟩:=val_cells hR hv hz hok
 generalize hsv:a.tmps.getD s undef=sv at hh
 cases hh with
 | slE h=>simp at hi
 | @slO p c xs b' cap arr e u hL' hb hcap hsz hcx hcell hr =>
  have:=hR.lok.inj _ _ _ hL hL'
  subst this
  have hmul:(i+1)*c≤cap*c:=Nat.mul_le_mul_right _ (by omega)
  rw [Nat.add_mul,Nat.one_mul] at hmul
  have hvs:(a.eval v).cells.size=c:=by omega
  obtain⟨A,hrun,hAsz,harr⟩:∃ A:Array Value,(Instr.storeAt t (.pointer (some ⟨b,i*c,none⟩)) (a.eval v)).run S.P w=.ok () (w.setRow b A)∧A.size=arr.size∧∀ j,A[j]?=if i*c≤j∧j<i*c+(a.eval v).cells.size then(a.eval v).cells[j-i*c]? else arr[j]? :=
   ⟨_,run_store_at (S:=S) hT (off:=i*c) (v:=a.eval v) hb (by omega) v2 (by omega),by simp;omega,fun j=>by
    have:=getElem?_splice arr.toList (a.eval v).cells.toList (i*c) j (by simp;omega)
    simpa using this⟩
  have hother:∀ k,k≠b→(w.setRow b A).heap[k]?=w.heap[k]?:=fun k hk=>setRow_other w b k A hk
  have hnew:=setRow_heap w b arr A e (0,0) hb
  have hsz':(w.setRow b A).heap.size=w.heap.size:=by simp
  have ho:(w.setRow b A).os=w.os:=rfl
  have ht:(w.setRow b A).tape=w.tape:=rfl
  have hu:(w.setRow b A).output=w.output:=rfl
  generalize w.setRow b A=W at hrun hother hnew hsz' ho ht hu
  refine⟨undef,W,.inr ⟨by simp only [execOp,hp,Sem.run_bind,hrun];rfl,rfl⟩,L,hR.write (b:=b) (q0:=[]) hsN hL hsz' ho ht hu hother ?_ false (fun h=>by cases h)⟩
  rw [hsv]
  have hlen:(xs.set i z).length=xs.length:=by simp
  have hslots:∀ π (y:AV) (u:Value),Rep L w π y u→(∀ p,π=some p→∃ o q,p=s::o::q)→Rep L W π y u:=fun π y u h hπ =>
   h.frame (by omega) ho ht hu (fun k hk _=>⟨hk,hother k (fun e=>by subst e;rw [hL] at hk;cases hk)⟩) π fun p hp'=>⟨p,hp',fun k q hk=>⟨hk,hother k (fun e=>by
    subst e
    obtain⟨o,q',rfl⟩:=hπ p hp'
    rw [hL] at hk;injection hk with hk;simp at hk)⟩⟩
  rw [← hlen]
  refine .slO (fun o=>(A[o]?).getD undef) hL hnew (by rw [hlen];exact hcap) (by rw [hAsz];exact hsz) (fun y hy=>?_) (fun o ho=>?_) (fun o y hy=>?_)
  ·rcases List.mem_or_eq_of_mem_set hy with h|h
   ·exact hcx y h
   ·rw [h];omega
  ·have hlt:o<A.size:=by
    rw [hAsz,hsz]
    rw [hlen] at ho
    exact Nat.lt_of_lt_of_le ho (Nat.mul_le_mul_right _ hcap)
   simp [hlt]
  ·rw [harr]
   rcases flat_set hcx (by omega) o y hy with⟨h1,h2,h3,h4⟩|⟨h1,h2⟩
   ·rw [if_pos (by omega)]
    obtain⟨u',hu',hr'⟩:=v3 _ y h4
    rw [hu']
    exact(hslots none y u' hr' (fun p hp=>by cases hp)).any _
   ·rw [if_neg (by rw [hvs];exact h1)]
    have ho:o<xs.length*c:=by rw [← flat_length hcx];exact(List.getElem?_eq_some_iff.1 h2).1
    rw [hcell o ho]
    exact hslots _ y _ (hr o y h2) (fun p hp=>by cases hp;exact⟨o,[],rfl⟩)
theorem e_stI{t:Nat}{ti:TI}{x v:Operand}{s i:Nat}{y0:AV}{l:List Int}{n:Int}{ty:Nat}{pos:String}{aft:Array Edge}{g:Option (Nat×Bool)}(hx:ov σ x=.ptr s i 1 y0)(hs:get σ s=.av (.sl true 1 (l.map .int)))(hT:S.T t=some ti)(hv:ov σ v=.av (.int n))(hc:Nat.beq 1 ti.size=true)(hc2:Nat.beq ti.size 1=true)(hi:i<l.length) :
  EStep S ⟨none,.store t x v,ty,pos,aft,g⟩ σ (σ.upd false s (.av (.sl true 1 ((l.set i n).map .int)))):=by
 rw [List.map_set]
 exact e_st hx hs hT hv rfl rfl hc hc2 (by simpa using hi)
theorem e_stM{α:Type}{f:α→AV}{t:Nat}{ti:TI}{x v:Operand}{s i c:Nat}{y0:AV}{l:List α}{n:α}{ty:Nat}{pos:String}{aft:Array Edge}{g:Option (Nat×Bool)}(hx:ov σ x=.ptr s i c y0)(hs:get σ s=.av (.sl true c (l.map f)))(hT:S.T t=some ti)(hv:ov σ v=.av (f n))(hz:(f n).isOwn=false)(hok:(f n).varOk=true)(hc:Nat.beq (f n).cells.length ti.size=true)(hc2:Nat.beq ti.size c=true)(hi:i<l.length) :
  EStep S ⟨none,.store t x v,ty,pos,aft,g⟩ σ (σ.upd false s (.av (.sl true c ((l.set i n).map f)))):=by
 rw [List.map_set]
 exact e_st hx hs hT hv hz hok hc hc2 (by simpa using hi)
/-! ### ghost steps -/
theorem CW.own{c:Code}{Q:Exit→St→Prop}(s cc:Nat)(hs:get σ s=.av .nil)(h:CW S N c Q (σ.put s (.av (.sl true cc [])))):CW S N c Q σ:=by
 unfold CW at *
 intro w0 L0 Q' a w hQ ⟨L,hR⟩
 refine h w0 L0 Q' a w hQ ⟨L,hR.defers,hR.size,hR.keep,hR.lok,fun n hn=>?_,fun n hn=>?_,hR.fix,hR.glob⟩
 ·simp only [get,kill_eq]
  by_cases hsn:s=n
  ·subst hsn
   rw [Nat.beq_refl,cond_true]
   have hh:=hR.hold s hn
   rw [hs] at hh
   simp only [Hold] at hh ⊢
   generalize a.tmps.getD s undef=v at hh
   cases hh
   exact .slE (fun _=>rfl)
  ·rw [not_beq hsn,cond_false]
   cases hd:(get σ n).dep s with
   | true=>trivial
   | false=>exact hR.hold n hn
 ·simp only [get,kill_eq]
  have:=own_lt hR hs (by simp)
  rw [not_beq (show s≠n by omega),cond_false,hR.out n hn];rfl
theorem RelL.freeze{w0:World}{L0:Nat→Lab}{a:Act}{w:World}{L:Nat→Lab}(hR:RelL S w0 L0 N σ a w L){s:Nat}{x z:AV}(hs:get σ s=.av x)(hz:x.sh=z)(ho:z.isOwn=false):RelL S w0 L0 N (σ.put s (.av z)) a w (clear s L):=by
 have hsN:=own_lt hR hs (by simp)
 subst hz
 refine⟨hR.defers,hR.size,hR.keep,hR.lok.clear s,fun n hn=>?_,fun n hn=>?_,hR.fix,hR.glob⟩
 ·simp only [get,kill_eq]
  by_cases hsn:s=n
  ·subst hsn
   rw [Nat.beq_refl,cond_true]
   have hh:=hR.hold s hn
   rw [hs] at hh
   simp only [Hold] at hh ⊢
   exact(Rep.toSh (fun b _ hb=>clear_sh hb) hh (fun p hp b q hb=>by cases hp;unfold clear;rw [hb];simp [Lab.without,Nat.beq_refl])).any _
  ·rw [not_beq hsn,cond_false]
   cases hd:(get σ n).dep s with
   | true=>trivial
   | false =>
    rw [cond_false]
    exact Hold.relab (good:=fun m=>m≠s) (Nat.le_refl _) rfl rfl rfl (fun b h1 _=>⟨clear_sh h1,rfl⟩) (fun b m q h1 h2=>⟨clear_keep h1 h2,rfl⟩) (fun _ _=>rfl) (fun e=>hsn e.symm) (fun m hm e=>by subst e;rw [hd] at hm;cases hm) (hR.hold n hn)
 ·simp only [get,kill_eq]
  rw [not_beq (show s≠n by omega),cond_false,hR.out n hn];rfl
theorem CW.freeze{c:Code}{Q:Exit→St→Prop}(s:Nat){x z:AV}(hs:get σ s=.av x)(hz:x.sh=z)(ho:z.isOwn=false)(h:CW S N c Q (σ.put s (.av z))):CW S N c Q σ:=by
 unfold CW at *
 exact fun w0 L0 Q' a w hQ ⟨L,hR⟩=>h w0 L0 Q' a w hQ ⟨_,hR.freeze hs hz ho⟩
theorem J.freeze{q:Bool}{ops:Array Oper}{l:List Oper}{K:St→Prop}(s:Nat){x z:AV}(hs:get σ s=.av x)(hz:x.sh=z)(ho:z.isOwn=false)(h:J q S N ops l K (σ.put s (.av z))):J q S N ops l K σ:=by
 unfold J at *
 cases q with
 | true=>exact fun hd w0 L0 Q a w hQ ⟨L,hR⟩=>h hd w0 L0 Q a w hQ ⟨_,hR.freeze hs hz ho⟩
 | false=>exact fun hd w0 L0 Q a w hQ ⟨L,hR⟩=>h hd w0 L0 Q a w hQ ⟨_,hR.freeze hs hz ho⟩
theorem sh_int{o:Bool}{c:Nat}{l:List Int}:(AV.sl o c (l.map .int)).sh=.sl false c (l.map .int):=by simp only [AV.sh];rw [shL_map AV.int l AV.int (fun _=>rfl)]
theorem sh_map{α:Type}{o:Bool}{c:Nat}{f g:α→AV}{l:List α}(h:∀ x,(f x).sh=g x):(AV.sl o c (l.map f)).sh=.sl false c (l.map g):=by simp only [AV.sh];rw [shL_map f l g h]
/-! ### a call in a region that draws its order: its result is a plain value -/
theorem J.callQ{f:Nat}{xs9:List AV}{r:AV}{xs:List Operand}{b:Bool}{ops:Array Oper}{l:List Oper}{K:St→Prop}{d ty:Nat}{ts:Array Nat}{pos:String}{aft:Array Edge}{g:Option (Nat×Bool)}(hs:FnSpec S.P f xs9 xs9 r)(hg:live ops g σ=some true)(ha:ArgsOk S N σ xs b xs9)(hr:r.flatPlain=true)(h:J true S N ops l K (σ.put d (.av r))) :
  J true S N ops (⟨some d,.call ⟨.value (.func f),xs.toArray,ts⟩,ty,pos,aft,g⟩::l) K σ:=by
 unfold J at *
 intro hdo w0 L0 Q a w hQ hR
 obtain⟨h1,h2⟩:=dstOk_cons hdo
 have hd:=h1 d rfl
 have hw:=live_wanted (o:=⟨some d,.call ⟨.value (.func f),xs.toArray,ts⟩,ty,pos,aft,g⟩) hg hR
 simp only [wpQuiet,hw,if_true]
 refine⟨r.toV,fun w' hw'=>?_,?_⟩
 ·unfold Oper.quietAt
  rw [run_call hs.ok rfl rfl w']
  refine⟨rfl,?_⟩
  obtain⟨L,hR'⟩:=hR.ext hw'
  refine(hs.calls w' (fun _=>.sh) (xs.map a.eval) (by rw [List.length_map,ha.length]) (pre_none (fun _ _ h=>by cases h) (fun _ _ h=>by cases h) hR'.globNow.all) (fun i x v hx hv=>?_)).mono fun e w'' ⟨v,L',he,hB⟩=>?_
  ·simp only [List.getElem?_map,Option.map_eq_some_iff] at hv
   obtain⟨y,hy,rfl⟩:=hv
   obtain⟨c,hc,_⟩:=ha.get i y x hy hx
   exact(hc.readN hR').any _
  ·subst he
   have hv:v=r.toV:=by
    have:=hB.res
    cases this<;>first|rfl|(simp [AV.flatPlain] at hr)
   subst hv
   exact⟨rfl,hw'.trans ⟨hB.keep.os,hB.keep.tape,hB.keep.output,hB.keep.size,fun b hb=>hB.keep.block b hb (fun p h=>by cases h)⟩⟩
 ·refine h h2 w0 L0 Q _ w hQ ?_
  obtain⟨L,hR⟩:=hR
  refine Rel.putPlain (n:=d) hR hd ?_ rfl (toV_rep hr)
  cases r<;>first|rfl|(simp [AV.flatPlain] at hr)
end
/-! ### what must come ahead of what -/
inductive Anc(ops:Array Oper):Nat→Nat→Prop
 | on {t:Nat} {o:Oper} {e:Edge} (ho:ops[t]?=some o) (he:e∈o.after) (hb:Region.binds .any e=true):Anc ops t e.on
 | up {t i:Nat} {o:Oper} {e:Edge} (ho:ops[t]?=some o) (he:e∈o.after) (hb:Region.binds .any e=true) (h:Anc ops e.on i):Anc ops t i
def maskOf(ms:List Nat)(es:List Edge):Nat:=es.foldl (fun m e=>bif Region.binds .any e then m ||| (1 <<< e.on) ||| ms.getD e.on 0 else m) 0
def masks:List Oper→List Nat→List Nat
 | [],ms=>ms
 | o::l,ms=>masks l (ms++[maskOf ms o.after.toList])
theorem maskOf_spec{ops:Array Oper}{ms:List Nat}(hm:∀ (t m:Nat),ms[t]?=some m→∀ i,m.testBit i=true→Anc ops t i){t:Nat}{o:Oper}(ho:ops[t]?=some o):∀ i,(maskOf ms o.after.toList).testBit i=true→Anc ops t i:=by
 unfold maskOf
 suffices h:∀ (es:List Edge) (m:Nat),(∀ e∈es,e∈o.after)→(∀ i,m.testBit i=true→Anc ops t i)→∀ i,(es.foldl (fun m e=>bif Region.binds .any e then m ||| (1 <<< e.on) ||| ms.getD e.on 0 else m) m).testBit i=true→Anc ops t i from
  h _ 0 (fun e he=>by simpa using he) (fun i hi=>by simp at hi)
 intro es
 induction es with
 | nil=>exact fun m _ h i hi=>h i hi
 | cons e es ih =>
  intro m hes hmm i hi
  refine ih _ (fun e' he'=>hes e' (List.mem_cons_of_mem _ he')) (fun j hj=>?_) i hi
  cases hb:Region.binds .any e with
  | false=>simp only [hb,cond_false] at hj;exact hmm j hj
  | true =>
   simp only [hb,cond_true,Nat.testBit_or,Bool.or_eq_true] at hj
   rcases hj with(hj|hj)|hj
   ·exact hmm j hj
   ·rw [Nat.shiftLeft_eq,Nat.one_mul,Nat.testBit_two_pow] at hj
    have:e.on=j:=of_decide_eq_true hj
    subst this
    exact .on ho (hes e (List.mem_cons_self ..)) hb
   ·rw [List.getD_eq_getElem?_getD] at hj
    cases hg:ms[e.on]? with
    | none=>rw [hg] at hj;simp at hj
    | some mm=>rw [hg] at hj;exact .up ho (hes e (List.mem_cons_self ..)) hb (hm e.on mm hg j hj)
theorem masks_spec{ops:Array Oper}:∀ (l:List Oper) (ms:List Nat),(∀ (k:Nat) o,l[k]?=some o→ops[ms.length+k]?=some o)→(∀ (t m:Nat),ms[t]?=some m→∀ i,m.testBit i=true→Anc ops t i)→∀ (t m:Nat),(masks l ms)[t]?=some m→∀ i,m.testBit i=true→Anc ops t i
 | [],ms,_,hm=>hm
 | o::l,ms,hl,hm=>by
  refine masks_spec l _ (fun k o' hk=>?_) (fun t m ht=>?_)
  ·have:=hl (k+1) o' (by simpa using hk)
   simpa [Nat.add_assoc,Nat.add_comm 1 k] using this
  ·by_cases hlt:t<ms.length
   ·rw [List.getElem?_append_left hlt] at ht;exact hm t m ht
   ·rw [List.getElem?_append_right (by omega)] at ht
    have h0:t-ms.length=0:=by
     rcases Nat.eq_zero_or_pos (t-ms.length) with h|h
     ·exact h
     ·obtain⟨k,hk⟩:∃ k,t-ms.length=k+1:=⟨t-ms.length-1,by omega⟩
      rw [hk] at ht;simp at ht
    rw [h0] at ht
    simp only [List.getElem?_cons_zero,Option.some.injEq] at ht
    subst ht
    have hto:ops[t]?=some o:=by
     have:=hl 0 o rfl
     rwa [show ms.length+0=t by omega] at this
    exact maskOf_spec hm hto
structure Closed(ops:Array Oper)(n:Nat)(listed:Array Bool):Prop where
 size:listed.size=ops.size
 closed:∀ j oj,ops[j]?=some oj→listed.getD j false=true→∀ e∈oj.after,Region.binds .any e=true→listed.getD e.on false=true
theorem Closed.anc{ops:Array Oper}{n:Nat}{listed:Array Bool}(h:Closed ops n listed){t i:Nat}(ha:Anc ops t i):(∀ o,ops[t]?=some o→∀ e∈o.after,Region.binds .any e=true→listed.getD e.on false=true)→listed.getD i false=true:=by
 induction ha with
 | on ho he hb=>exact fun hr=>hr _ ho _ he hb
 | up ho he hb _ ih=>exact fun hr=>ih fun o' ho' e' he' hb'=>h.closed _ _ ho' (hr _ ho _ he hb) e' he' hb'
theorem Closed.set{ops:Array Oper}{n i:Nat}{listed:Array Bool}(inv:Closed ops n listed)(hi:i∈Region.ready .any ops listed):Closed ops n (listed.setIfInBounds i true):=by
 obtain⟨_,oi,hoi,hall⟩:=mem_ready.1 hi
 refine⟨by simp [inv.size],fun j oj hj hl e he hb=>?_⟩
 by_cases hij:i=j
 ·subst hij
  have:oj=oi:=Option.some.inj (hj.symm.trans hoi)
  subst this
  exact getD_set_true (hall e he hb)
 ·rw [getD_set_ne false hij] at hl
  exact getD_set_true (inv.closed j oj hj hl e he hb)
def sinksB(l:List Oper)(n:Nat):Bool:=((masks l []).drop n).all fun m=>m &&& (2 ^ n-1)==2 ^ n-1
theorem sinksB_spec{l:List Oper}{n:Nat}(h:sinksB l n=true)(hl:(masks l []).length=l.length){t i:Nat}(ht:n≤t)(htl:t<l.length)(hi:i<n):Anc l.toArray t i:=by
 have hlt:t<(masks l []).length:=by omega
 refine masks_spec (ops:=l.toArray) l [] (fun k o hk=>by simpa using hk) (fun t m h=>by simp at h) t _ (List.getElem?_eq_getElem hlt) i ?_
 have hm:=List.all_eq_true.1 h ((masks l [])[t]) (List.mem_iff_getElem?.2 ⟨t-n,by rw [List.getElem?_drop,show n+(t-n)=t by omega,List.getElem?_eq_getElem hlt]⟩)
 have hm':=eq_of_beq hm
 have:((masks l [])[t] &&& (2 ^ n-1)).testBit i=true:=by rw [hm',Nat.testBit_two_pow_sub_one];exact decide_eq_true hi
 rw [Nat.testBit_and,Bool.and_eq_true] at this
 exact this.1
section
variable {P:Program} {ops:Array Oper} {C:World→Prop}
def wpAnyH(P:Program)(ops:Array Oper)(C:World→Prop)(n:Nat)(L:Array Bool→Act→Prop):Nat→Array Bool→Act→Prop
 | 0,listed,a=>L listed a
 | f+1,listed,a=>Region.ready .any ops listed≠[]∧∀ i∈Region.ready .any ops listed,i<n∧qOp P ops C i (wpAnyH P ops C n L f (listed.setIfInBounds i true)) a
theorem wpAny_of_H{n g:Nat}{L:Array Bool→Act→Prop}{Q':Exit→Act→World→Prop}(hL:∀ listed a w,C w→L listed a→wpAny P .any ops Q' g listed a w) :
  ∀ (f:Nat) (listed:Array Bool) (a:Act) (w:World),C w→wpAnyH P ops C n L f listed a→wpAny P .any ops Q' (f+g) listed a w
 | 0,listed,a,w,hw,h=>by rw [Nat.zero_add];exact hL _ _ w hw h
 | f+1,listed,a,w,hw,h=>by
  rw [show f+1+g=(f+g)+1 by omega]
  exact⟨fun h0=>absurd h0 h.1,fun i hi=>wpOp_of_qOp hw (fun a' w' hw' h'=>wpAny_of_H hL f _ a' w' hw' h') (h.2 i hi).2⟩
theorem wpAnyH_first{n i:Nat}{oi:Oper}{v:Value}{L:Array Bool→Act→Prop}(hi:ops[i]?=some oi)(hsel:∀ (j:Nat) (o:Oper) cs b,ops[j]?=some o→o.op≠.select cs b)
  (hsink:∀ t j,n≤t→t<ops.size→j<n→Anc ops t j) (hin:i<n) (hdone:∀ listed a,L listed a→∀ j∈Region.ready .any ops listed,n≤j) :
  ∀ (f:Nat) (listed:Array Bool) (a:Act),Closed ops n listed →
   (∀ j oj,ops[j]?=some oj→j≠i→listed.getD j true=false→(∀ e∈oj.after,Region.binds .any e=true→e.on≠i)→oi.apart ops oj=true) →
   i∈Region.ready .any ops listed→YieldsIn P ops C oi v a →
   wpAnyH P ops C n L f (listed.setIfInBounds i true) (a.put oi.dst v)→wpAnyH P ops C n L (f+1) listed a:=by
 have early:∀ {listed:Array Bool},Closed ops n listed→i∈Region.ready .any ops listed→∀ j∈Region.ready .any ops listed,j<n:=fun{listed} inv hr j hj=>by
  rcases Nat.lt_or_ge j n with h|h
  ·exact h
  ·obtain⟨_,oj,hoj,hall⟩:=mem_ready.1 hj
   have:=inv.anc (hsink j i h (Array.getElem?_eq_some_iff.1 hoj).1 hin) (fun o ho e he hb=>by
    have:o=oj:=Option.some.inj (ho.symm.trans hoj)
    subst this
    exact hall e he hb)
   rw [getD_both (mem_ready.1 hr).1] at this
   cases this
 intro f
 induction f with
 | zero =>
  intro listed a inv _ hr hy H
  refine⟨fun h=>(by rw [h] at hr;cases hr),fun j hj=>⟨early inv hr j hj,?_⟩⟩
  have hjn:=early inv hr j hj
  by_cases hji:j=i
  ·subst hji;exact hy.qOp hi H
  ·have:=hdone _ _ H j (ready_mono hj hji)
   omega
 | succ f ih =>
  intro listed a inv hfree hr hy H
  have hun:=(mem_ready.1 hr).1
  refine⟨fun h=>(by rw [h] at hr;cases hr),fun j hj=>⟨early inv hr j hj,?_⟩⟩
  by_cases hji:j=i
  ·subst hji;exact hy.qOp hi H
  ·have h1:=(H.2 j (ready_mono hj hji)).2
   obtain⟨hjun,oj,hoj,hall⟩:=mem_ready.1 hj
   have hnot:∀ e∈oj.after,Region.binds .any e=true→e.on≠i:=fun e he hb heq=>by
    have h1:=hall e he hb
    rw [heq,getD_both hun] at h1
    cases h1
   have h2:=qOp_put hoj (hfree j oj hoj hji hjun hnot) (fun cs b=>hsel i oi cs b hi) (fun cs b=>hsel j oj cs b hoj) hy h1
   have hfree':∀ k ok,ops[k]?=some ok→k≠i→(listed.setIfInBounds j true).getD k true=false →
     (∀ e∈ok.after,Region.binds .any e=true→e.on≠i)→oi.apart ops ok=true:=fun k ok hk hki hun hno=>by
    refine hfree k ok hk hki ?_ hno
    by_cases hjk:j=k
    ·subst hjk;exact hjun
    ·rw [getD_set_ne true hjk] at hun;exact hun
   refine qOp_mono (fun a' h3=>ih (listed.setIfInBounds j true) a' (inv.set hj) hfree' (ready_mono hr (Ne.symm hji)) h3.1 ?_) h2
   rw [Array.setIfInBounds_comm _ _ hji]
   exact h3.2
def lexHeadB(ops:Array Oper)(n:Nat)(fin:List Bool):Nat→Nat→Array Bool→Bool
 | 0,_,listed=>decide (listed.toList=fin)&&(Region.ready .any ops listed).all fun j=>Nat.ble n j
 | f+1,k,listed=>(Region.ready .any ops listed).contains k&&Region.free .any ops listed k&&lexHeadB ops n fin f (k+1) (listed.setIfInBounds k true)
def headB(l:List Oper)(n:Nat)(fin:List Bool):Bool :=
 Region.noSelect l.toArray&&Nat.ble n l.length&&decide ((masks l []).length=l.length)&&sinksB l n&&lexHeadB l.toArray n fin n 0 (Array.replicate l.length false)
theorem wpAnyH_lex{n:Nat}{fin:List Bool}{Lq:Act→Prop}(hsel:Region.noSelect ops=true)(hsink:∀ t j,n≤t→t<ops.size→j<n→Anc ops t j) :
  ∀ (l:List Oper) (k:Nat) (listed:Array Bool) (a:Act),(∀ j,j<l.length→l[j]?=ops[k+j]?)→k+l.length=n→Closed ops n listed →
  lexHeadB ops n fin l.length k listed=true→wpQuiet P ops C Lq l a →
  wpAnyH P ops C n (fun listed' a'=>(listed'.toList=fin∧∀ j∈Region.ready .any ops listed',n≤j)∧Lq a') l.length listed a
 | [],k,listed,a,_,hk,_,hB,h=>by
  simp only [List.length_nil,lexHeadB,Bool.and_eq_true,decide_eq_true_eq,List.all_eq_true] at hB
  exact⟨⟨hB.1,fun j hj=>Nat.le_of_ble_eq_true (hB.2 j hj)⟩,h⟩
 | o::l,k,listed,a,hl,hk,inv,hB,h=>by
  have h0:ops[k]?=some o:=by simpa using (hl 0 (by simp)).symm
  simp only [List.length_cons,lexHeadB,Bool.and_eq_true] at hB
  obtain⟨⟨hr,hf⟩,hB'⟩:=hB
  have hkn:k<n:=by simp only [List.length_cons] at hk;omega
  have hr':k∈Region.ready .any ops listed:=by simpa using hr
  have hst:qOp P ops C k (wpQuiet P ops C Lq l) a:=by unfold qOp;simp only [h0];exact h
  obtain⟨v,hy,hK⟩:=yieldsIn_of_qOp h0 hst
  exact wpAnyH_first h0 (Region.noSelect_spec hsel) hsink hkn (fun listed' a' hL=>hL.1.2) l.length listed a inv (Region.free_spec h0 hf) hr' hy
   (wpAnyH_lex hsel hsink l (k+1) _ _ (fun j hj=>by have:=hl (j+1) (by simp;omega);simpa [Nat.add_assoc,Nat.add_comm 1 j] using this) (by simp only [List.length_cons] at hk;omega) (inv.set hr') hB' hK)
theorem wp_region_head{id:Nat}{Q:Exit→Act→World→Prop}{a:Act}{w:World}{l:List Oper}(n:Nat)(fin:List Bool)(hm:P.follows .mixedOrders=true)(hB:headB l n fin=true)(hC:C { w with drawn:=w.drawn+1 })
  (h:wpQuiet P l.toArray C (fun a'=>∀ w',C w'→wpAny P .any l.toArray Q (l.length-n) fin.toArray a' w') (l.take n) a):(Code.region id l.toArray true).wp P Q a w:=by
 simp only [headB,Bool.and_eq_true,decide_eq_true_eq] at hB
 obtain⟨⟨⟨⟨hsel,hn⟩,hlen⟩,hs⟩,hlex⟩:=hB
 have hn':n≤l.length:=Nat.le_of_ble_eq_true hn
 have htl:(l.take n).length=n:=by simp;omega
 have inv0:Closed l.toArray n (Array.replicate l.length false) :=
  ⟨by simp,fun j oj _ hl=>(by rw [getD_replicate_false] at hl;cases hl)⟩
 have H:=wpAnyH_lex (C:=C) (fin:=fin) hsel (fun t j ht htl hj=>sinksB_spec hs hlen ht (by simpa using htl) hj) (l.take n) 0 _ a (fun j hj=>by
  have hj':j<n:=by rw [htl] at hj;exact hj
  simp [hj']) (by simpa using htl) inv0 (by rw [htl];exact hlex) h
 refine wp_region_any hm ?_
 have:=wpAny_of_H (Q':=Q) (g:=l.length-n) (fun listed a' w' hw' hL=>by
  have:=hL.2 w' hw'
  rw [← hL.1.1] at this
  simpa using this) _ _ _ _ hC H
 rw [htl,show n+(l.length-n)=l.toArray.size by simp;omega] at this
 exact this
end
/-! ### whatever order, from here on -/
@[irreducible] def JA (S:Sys) (N:Nat) (ops:Array Oper) (fuel:Nat) (listed:List Bool) (K:St→Prop) (σ:St):Prop :=
 dstOk S N ops.toList=true→∀ (w0:World) (L0:Nat→Lab) (Q:Exit→Act→World→Prop) (a:Act) (w:World),(∀ c (a:Act) (d:Option Nat) v w,(∀ t:Nat,d=some t→DOk S N t)→Q (.panic c) (a.put d v) w→Q (.panic c) a w) →
  OutJ S N w0 L0 K Q→Rel S w0 L0 N σ a w→wpAny S.P .any ops Q fuel listed.toArray a w
def readyL(ops:List Oper)(listed:List Bool):List Nat :=
 (List.range ops.length).filter fun i=>!listed.getD i true&&((ops[i]?).map (·.after.toList.all fun e=>!Region.binds .any e||listed.getD e.on false)).getD false
theorem readyL_eq(l:List Oper)(listed:List Bool):Region.ready .any l.toArray listed.toArray=readyL l listed:=by
 unfold Region.ready readyL
 simp
section
variable {S:Sys} {N:Nat} {σ:St} {K:St→Prop} {l:List Oper} {listed:List Bool} {fuel:Nat}
theorem JA.done(hr:(readyL l listed).isEmpty=true)(h:K σ):JA S N l.toArray fuel listed K σ:=by
 unfold JA
 intro _ w0 L0 Q a w _ hQ hR
 exact wpAny_done (by rw [readyL_eq];simpa using hr) (hQ σ a w h hR) fuel
theorem dstOk_mem{o:Oper}(h:dstOk S N l=true)(ho:o∈l):dstOk S N [o]=true:=by
 simp only [dstOk,List.all_cons,List.all_nil,Bool.and_true]
 exact List.all_eq_true.1 h o ho
theorem JA.op{i:Nat}{o:Oper}(ho:l[i]?=some o)(h:J false S N l.toArray [o] (JA S N l.toArray fuel (listed.set i true) K) σ)(hd:dstOk S N l=true){w0:World}{L0:Nat→Lab}{Q:Exit→Act→World→Prop}{a:Act}{w:World}(hp:∀ c (a:Act) (d:Option Nat) v w,(∀ t:Nat,d=some t→DOk S N t)→Q (.panic c) (a.put d v) w→Q (.panic c) a w)
  (hQ:OutJ S N w0 L0 K Q) (hR:Rel S w0 L0 N σ a w):wpOp S.P l.toArray Q i (wpAny S.P .any l.toArray Q fuel (listed.toArray.setIfInBounds i true)) a w:=by
 unfold J at h
 have h1:=h (dstOk_mem hd (List.mem_of_getElem? ho)) w0 L0 (fun e a w=>match e with
  | .normal=>wpAny S.P .any l.toArray Q fuel (listed.set i true).toArray a w
  | e=>Q e a w) a w ⟨fun σ' a' w' hK hR'=>by
   unfold JA at hK
   exact hK hd w0 L0 Q a' w' hp hQ hR',fun ch a' w' hd=>hQ.die ch a' w' hd⟩ hR
 unfold wpOp
 have ho':l.toArray[i]?=some o:=by simpa using ho
 simp only [ho']
 have e:listed.toArray.setIfInBounds i true=(listed.set i true).toArray:=by simp
 rw [e]
 unfold wpList at h1
 exact h1
theorem JA.all(rs:List Nat)(hr:readyL l listed=rs)(hne:rs.isEmpty=false)(h:∀ i∈rs,∃ o,l[i]?=some o∧J false S N l.toArray [o] (JA S N l.toArray fuel (listed.set i true) K) σ):JA S N l.toArray (fuel+1) listed K σ:=by
 unfold JA
 intro hd w0 L0 Q a w hp hQ hR
 have hd':dstOk S N l=true:=by simpa using hd
 refine wpAny_all (rs:=rs) (by rw [readyL_eq];exact hr) (fun e=>by subst e;cases hne) fun i hi=>?_
 obtain⟨o,ho,hj⟩:=h i hi
 exact JA.op ho hj hd' hp hQ hR
theorem JA.one{i:Nat}{o:Oper}(hr:readyL l listed=[i])(ho:l[i]?=some o)(h:J false S N l.toArray [o] (JA S N l.toArray fuel (listed.set i true) K) σ):JA S N l.toArray (fuel+1) listed K σ :=
 .all [i] hr rfl fun j hj=>by simp only [List.mem_singleton] at hj;subst hj;exact⟨o,ho,h⟩
theorem JA.two{i j:Nat}{o o':Oper}(hr:readyL l listed=[i,j])(ho:l[i]?=some o)(ho':l[j]?=some o')(h:J false S N l.toArray [o] (JA S N l.toArray fuel (listed.set i true) K) σ)(h':J false S N l.toArray [o'] (JA S N l.toArray fuel (listed.set j true) K) σ):JA S N l.toArray (fuel+1) listed K σ :=
 .all [i,j] hr rfl fun k hk=>by
  simp only [List.mem_cons,List.not_mem_nil,or_false] at hk
  rcases hk with rfl|rfl
  ·exact⟨o,ho,h⟩
  ·exact⟨o',ho',h'⟩
theorem JA.take{σ':St}{i:Nat}{o:Oper}{x:Operand}(ho:l[i]?=some o)(hx:o.op=.move x∨o.op=.assign x)(hg:o.guard=none)(hB:(Region.noSelect l.toArray&&Region.free .any l.toArray listed.toArray i&&(readyL l listed).contains i)=true)(hs:Step S o σ σ')(h:JA S N l.toArray fuel (listed.set i true) K σ') :
  JA S N l.toArray (fuel+1) listed K σ:=by
 unfold JA at h ⊢
 intro hdo w0 L0 Q a w hp hQ hR
 simp only [Bool.and_eq_true] at hB
 have hd1:=(dstOk_cons (dstOk_mem (by simpa using hdo) (List.mem_of_getElem? ho))).1
 obtain⟨v,hv,hR'⟩:=hs w0 L0 N a w hd1 hR
 have hrun:∀ w,(execOp a.eval o).run S.P w=.ok (.value (a.eval x)) w:=fun w=>by rcases hx with hx|hx<;>simp [execOp,hx]
 have hv':a.eval x=v:=by
  have:=hv w (Ext.refl w)
  rw [hrun] at this
  cases this;rfl
 have h1:=h hdo w0 L0 Q _ w hp hQ hR'
 refine wpAny_take (by simpa using ho) hB.1.1 hB.1.2 (by rw [readyL_eq];exact hB.2) (fun c a w h=>hp c a _ _ w hd1 h) (.inl ⟨by unfold Region.wanted;rw [hg],fun w=>by rw [hrun,hv']⟩) ?_
 have e:listed.toArray.setIfInBounds i true=(listed.set i true).toArray:=by simp
 rw [e]
 exact h1
theorem CW.regT{id:Nat}{Q:Exit→St→Prop}(n:Nat)(fin:List Bool)(hB:headB l n fin=true)(hd:dstOk S N l=true)(h:J true S N l.toArray (l.take n) (JA S N l.toArray (l.length-n) fin (Q .normal)) σ):CW S N (.region id l.toArray true) Q σ:=by
 unfold CW
 unfold J at h
 intro w0 L0 Q' a w hQ hR
 refine Code.wp_mono (Q:=fun e a w=>match e with|.panic c=>DiesAt S N w0 L0 c a w|e=>Q' e a w) (fun e a w he=>?_) ?_
 ·cases e<;>first|exact he|exact hQ.die _ _ _ he
 refine wp_region_head (C:=Ext w) n fin S.mixed hB ⟨rfl,rfl,rfl,Nat.le_refl _,fun _ _=>rfl⟩ ?_
 refine h (by unfold dstOk at *;rw [List.all_eq_true] at *;exact fun o ho=>hd o (List.mem_of_mem_take ho)) w0 L0 _ a w (fun σ' a' hK hR' w' hw'=>?_) hR
 unfold JA at hK
 exact hK (by simpa using hd) w0 L0 _ a' w' (fun c a d v w hd h=>DiesAt.put hd h) ⟨fun σ' a' w' hk hr=>hQ _ _ _ _ hk hr,fun ch a' w' hd=>hd⟩ (hR'.ext hw')
theorem JA.seq{k:Nat}{g:Nat}(hg:(l.drop k).length=g)(hB:Region.seqB .any l.toArray g k listed.toArray=true)(h:J false S N l.toArray (l.drop k) K σ):JA S N l.toArray g listed K σ:=by
 unfold JA
 unfold J at h
 intro hd w0 L0 Q a w _ hQ hR
 subst hg
 refine wpAny_of_seq (md:=.any) (l.drop k) k listed.toArray a w (fun j=>by simp [List.getElem?_drop]) hB ?_
 exact h (by unfold dstOk at *;rw [List.all_eq_true] at *;exact fun o ho=>hd o (by simpa using List.mem_of_mem_drop ho)) w0 L0 Q a w hQ hR
def finOf(l:List Oper)(n:Nat):List Bool:=List.replicate n true++List.replicate (l.length-n) false
theorem CW.regS{id:Nat}{Q:Exit→St→Prop}(m:Nat)(hB:(headB l (l.length-m) (finOf l (l.length-m))&&Region.seqB .any l.toArray (l.length-(l.length-m)) (l.length-m) (finOf l (l.length-m)).toArray)=true)(hd:dstOk S N l=true)
  (h:J true S N l.toArray (l.take (l.length-m)) (J false S N l.toArray (l.drop (l.length-m)) (Q .normal)) σ):CW S N (.region id l.toArray true) Q σ:=by
 rw [Bool.and_eq_true] at hB
 refine CW.regT (l.length-m) (finOf l (l.length-m)) hB.1 hd ?_
 have:∀ σ',J false S N l.toArray (l.drop (l.length-m)) (Q .normal) σ'→JA S N l.toArray (l.length-(l.length-m)) (finOf l (l.length-m)) (Q .normal) σ':=fun σ' h'=>JA.seq (by simp) hB.2 h'
 unfold J at h ⊢
 exact fun hd w0 L0 Q a w hQ hR=>h hd w0 L0 Q a w (fun σ' a' hK hR'=>hQ σ' a' (this σ' (by unfold J;exact hK)) hR') hR
theorem CW.reg0{id:Nat}{Q:Exit→St→Prop}(gg:Nat)(hg:l.length=gg)(fin:List Bool)(hB:headB l 0 fin=true)(hd:dstOk S N l=true)(h:JA S N l.toArray gg fin (Q .normal) σ):CW S N (.region id l.toArray true) Q σ:=by
 subst hg
 exact CW.regT 0 fin hB hd (J.nil h)
theorem CW.cut{Q:Exit→St→Prop}{c y:Code}(I:List (Nat×TV))(h1:CW S N c (fun e σ'=>e=.normal∧Has σ' I) σ)(h2:CW S N y Q (ofL I)):CW S N c (thenQ (CW S N y Q) Q) σ :=
 h1.mono fun e σ' ⟨he,hI⟩=>by subst he;exact CW.has I hI h2
end
end FM
