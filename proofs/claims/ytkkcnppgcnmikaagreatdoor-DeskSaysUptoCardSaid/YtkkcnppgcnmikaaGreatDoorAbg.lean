/- Calls that panic: what one does; entering a function that does; calling one. No program in sight. -/
import Derived.Test.YtkkcnppgcnmikaaGreatDoorAbf
import Derived.Test.YtkkcnppgcnmikaaGreatDoorChecked
import Derived.Test.YtkkcnppgcnmikaaGreatDoorAag
import Derived.Test.YtkkcnppgcnmikaaGreatDoorAbc
import Derived.Shelf.Strings.SlTrimAscii
namespace FM
open Go Go.RowKit
set_option linter.all false
structure BackD(n:Nat)(xs9':List AV)(L:Nat→Lab)(w:World)(vs:List Value)(w':World)(L':Nat→Lab):Prop where
 keep:Keep L w w'
 lok:LOk L w L' w'
 head:∀ b p,L' b=.my p→∃ i q,p=i::q∧i≤n
 args:∀ i x u,xs9'[i]?=some x→vs[i]?=some u→Rep L' w' (some [i]) x u
structure FnDies(P:Program)(f:Nat)(xs9 xs9':List AV)(ch:List PanicEntry):Prop where
 ok:FnOk P f
 calls:∀ (w:World) (L:Nat→Lab) (vs:List Value),vs.length=xs9.length→Pre xs9.length L w→(∀ i x v,xs9[i]?=some x→vs[i]?=some v→Rep L w (some [i]) x v) →
  Calls P f vs.toArray w fun e w'=>∃ L',e=.panicked ch∧BackD xs9.length xs9' L w vs w' L'
def Sys.fixedX(S:Sys)(m:Nat)(v:Nat→Value)(ch:List PanicEntry)(ps:List (Nat×AV)):Sys:={ S with M:=fun i=>Nat.blt i m,v0:=v,D:=[],X:=fun c p=>c=ch∧p=ps }
section
variable {S:Sys} {N:Nat} {σ:St}
theorem FnDies.enter (m:Nat) (ps:List (Nat×AV)) {f:Nat} {fn:Func} {c:Code} {xs9 xs9':List AV} {ch:List PanicEntry} (hf:S.P.funcs[f]?=some fn) (hb:fn.body=some c) (hname:(fn.name == "runtime.NumGoroutine")=false) (hN:fn.ntmps=N)
  (hlen:Nat.ble xs9.length N=true) (hm:Nat.ble m xs9.length=true) (hl':xs9'.length=xs9.length) (hps:∀ (i:Nat) (x y:AV),xs9[i]?=some x→xs9'[i]?=some y→(x.isOwn=false∧y=x)∨(Nat.blt i m=true∧(i,y)∈ps))
  (h:∀ v0,CW (S.fixedX m v0 ch ps) N c (fun _ _=>False) (ofL (initL 0 xs9))):FnDies S.P f xs9 xs9' ch:=by
 have hlen':xs9.length≤N:=Nat.le_of_ble_eq_true hlen
 have hm':m≤xs9.length:=Nat.le_of_ble_eq_true hm
 refine⟨⟨fn,hf,hname,by rw [hb];rfl⟩,fun w L vs hvs hpre hargs=>?_⟩
 refine calls_of_wp hf hb ?_
 rw [List.size_toArray,hvs,hN]
 have h:=h fun i=>vs.getD i undef
 unfold CW at h
 have hsize:(vs.toArray++Array.replicate (N-xs9.length) undef).size=N:=by simp [hvs];omega
 have hget:∀ i v,vs[i]?=some v→(vs.toArray++Array.replicate (N-xs9.length) undef).getD i undef=v:=fun i v hv=>by
  have hi:i<vs.length:=(List.getElem?_eq_some_iff.1 hv).1
  rw [Array.getD_eq_getD_getElem?,Array.getElem?_append_left (by simpa using hi)]
  simp [hv]
 refine h w L _ _ w ⟨fun e σ' a' w' hret hR=>hret.elim,fun ch' a' w' hda=>?_⟩ ⟨L,rfl,hsize,⟨rfl,rfl,rfl,Nat.le_refl _,fun _ _ _=>rfl⟩,⟨hpre.lt,hpre.inj,fun b p hb hp=>?_,fun b p _ hb=>⟨p,hb⟩,fun b _=>Iff.rfl,hpre.new⟩,fun n hn=>?_,fun n hn=>?_,fun i hi=>?_,hpre.glob⟩
 ·obtain⟨hdf,_,_,L',qs,⟨hc,hq⟩,hk,hlk,hr⟩:=hda
  subst hc;subst hq
  have hρ:∀ t p,(if t<xs9.length then some [t] else none)=some p→t<xs9.length∧p=[t]:=fun t p h=>by
   split at h
   ·rename_i ht;injection h with h;exact⟨ht,h.symm⟩
   ·cases h
  refine⟨hdf,relab (fun t=>if t<xs9.length then some [t] else none) L',rfl,hk,hlk.relab (fun t p h=>by rw [(hρ t p h).2];simp) (fun t t' p p' q q' h h' he=>by
   rw [(hρ t p h).2,(hρ t' p' h').2] at he
   simpa using he),fun b p hb=>?_,fun i x u hx hu=>?_⟩
  ·obtain⟨t,q,p',_,h2,rfl⟩:=relab_my hb
   obtain⟨h3,rfl⟩:=hρ t p' h2
   exact⟨t,q,rfl,by omega⟩
  ·have hi:i<xs9.length:=by rw [← hl'];exact(List.getElem?_eq_some_iff.1 hx).1
   rcases hps i xs9[i] x (List.getElem?_eq_getElem hi) hx with⟨ho,rfl⟩|⟨him,hmem⟩
   ·have h0:=(hargs i xs9[i] u (List.getElem?_eq_getElem hi) hu).replace (π':=none) ho
    refine(Rep.frame hk.size hk.os hk.tape hk.output (fun b hb hlt=>?_) h0 none (fun p hp=>by cases hp)).any _
    refine⟨?_,hk.block b hlt (fun p hp=>by rw [hb] at hp;cases hp)⟩
    cases hL':L' b with
    | sh=>exact relab_sh hL'
    | fo=>have:=(hlk.fo b hlt).1 hL';rw [hb] at this;cases this
    | my p=>obtain⟨q,hq⟩:=hlk.old b p hlt hL';rw [hb] at hq;cases hq
   ·have h0:=hr _ hmem
    have hui:vs.getD i undef=u:=by simp [List.getD_eq_getElem?_getD,hu]
    have h0:Rep L' w' (some [i]) x (vs.getD i undef):=h0
    rw [hui] at h0
    refine Rep.frame (Nat.le_refl _) rfl rfl rfl (fun b hb _=>⟨relab_sh hb,rfl⟩) h0 _ fun p hp=>?_
    cases hp
    exact⟨[i],rfl,fun b q hb=>⟨relab_to hb (if_pos hi),rfl⟩⟩
 ·subst hp
  obtain⟨i,q,h,_⟩:=hpre.head b [] hb
  cases h
 ·rw [get_initL xs9 0 n,if_pos (Nat.zero_le _),Nat.sub_zero]
  cases hx:xs9[n]? with
  | none=>trivial
  | some x =>
   have hn':n<vs.length:=by rw [hvs];exact(List.getElem?_eq_some_iff.1 hx).1
   simp only [Hold]
   rw [hget n vs[n] (List.getElem?_eq_getElem hn')]
   exact hargs n x _ hx (List.getElem?_eq_getElem hn')
 ·rw [get_initL xs9 0 n,if_pos (Nat.zero_le _),Nat.sub_zero,List.getElem?_eq_none (by omega)]
 ·have hml:i<xs9.length:=by
   have:Nat.blt i m=true:=hi
   simp [Nat.blt] at this;omega
  have hi':i<vs.length:=by omega
  rw [hget i vs[i] (List.getElem?_eq_getElem hi')]
  show vs[i]=vs.getD i undef
  simp [List.getD_eq_getElem?_getD,hi']
theorem Rel.dies{w0:World}{L0:Nat→Lab}{a:Act}{w:World}{ch:List PanicEntry}{ps:List (Nat×AV)}(h:Rel S w0 L0 N σ a w)(hX:S.X ch ps)(hps:∀ p∈ps,S.M p.1=true∧get σ p.1=.av p.2):Dies S w0 L0 ch w:=by
 obtain⟨L,hR⟩:=h
 refine⟨L,ps,hX,hR.keep,hR.lok,fun p hp=>?_⟩
 obtain⟨h1,h2⟩:=hps p hp
 have hh:=hR.hold p.1 (own_lt hR h2 (by simp))
 rw [h2] at hh
 simp only [Hold] at hh
 rw [← hR.fix p.1 h1]
 exact hh
theorem J.dieM{f:Nat}{xs9 xs9':List AV}{ch:List PanicEntry}{ps:List (Nat×AV)}{xs:List Operand}{ops:Array Oper}{l:List Oper}{K:St→Prop}{d ty:Nat}{ts:Array Nat}{pos:String}{aft:Array Edge}{g:Option (Nat×Bool)}(ms:List (Nat×Nat))(hs:FnDies S.P f xs9 xs9' ch)(hg:live ops g σ=some true)(hms:MOk d xs9.length ms)(ha:ArgsM S N σ ms 0 xs xs9)
  (hc:ms.all (fun e=>match xs[e.2]? with|some x=>(match slotAt σ x,FM.get σ e.1 with|some s,.av _=>Nat.beq s e.1|_,_=>false)|none=>false)=true)
  (hn:∀ e∈ms,∃ y,xs9'[e.2]?=some y∧NoSh y) (hX:S.X ch ps) (hps:∀ p∈ps,S.M p.1=true∧FM.get (putM ms xs9' (σ.put d (.av .dead))) p.1=.av p.2) :
  J false S N ops (⟨some d,.call ⟨.value (.func f),xs.toArray,ts⟩,ty,pos,aft,g⟩::l) K σ:=by
 unfold J at *
 intro hdo w0 L0 Q a w hQ hR
 obtain⟨h1,h2⟩:=dstOk_cons hdo
 have hd:=h1 d rfl
 have hw:=live_wanted (o:=⟨some d,.call ⟨.value (.func f),xs.toArray,ts⟩,ty,pos,aft,g⟩) hg hR
 simp only [wpList,hw,if_true]
 refine .inl ?_
 unfold Oper.wp
 rw [run_call hs.ok rfl rfl w,Oper.upon_enter]
 obtain⟨L,hR⟩:=hR
 have mem:∀ {ms:List (Nat×Nat)} {s i:Nat},idxM ms s=some i→(s,i)∈ms:=fun{ms s i} hi=>by
  induction ms with
  | nil=>cases hi
  | cons e r ih =>
   obtain⟨s',i'⟩:=e
   simp only [idxM] at hi
   cases hb:Nat.beq s' s with
   | true=>rw [hb,cond_true] at hi;injection hi with hi;subst hi;have:=Nat.eq_of_beq_eq_true hb;subst this;exact List.mem_cons_self ..
   | false=>rw [hb,cond_false] at hi;exact List.mem_cons_of_mem _ (ih hi)
 have hlen:=ha.length
 refine(hs.calls w (inM ms L) (xs.map a.eval) (by rw [List.length_map,hlen]) ⟨fun b p hb=>?_,fun b p hb=>?_,fun b b' p hb hb'=>?_,fun b hge hf=>?_,hR.globNow.move (Nat.le_refl _) fun b _ h=>⟨inM_sh h,rfl⟩⟩ (fun i x v hx hv=>?_)).mono fun e w' ⟨L',he,hB⟩=>?_
 ·obtain⟨t,i,q,h3,_,_⟩:=inM_my hb;exact hR.lok.lt b _ h3
 ·obtain⟨t,i,q,_,h3,h4⟩:=inM_my hb;exact⟨i,q,h4,hms.lt _ _ h3⟩
 ·obtain⟨t,i,q,h3,h4,h5⟩:=inM_my hb
  obtain⟨t',i',q',h3',h4',h5'⟩:=inM_my hb'
  rw [h5] at h5';cases h5'
  have e1:=hms.inv _ _ h4
  have e2:=hms.inv _ _ h4'
  rw [e1] at e2;cases e2
  exact hR.lok.inj _ _ _ h3 h3'
 ·have:=inM_fo.1 hf
  exact hR.lok.new b (Nat.le_trans hR.keep.size hge) this
 ·simp only [List.getElem?_map,Option.map_eq_some_iff] at hv
  obtain⟨y,hy,rfl⟩:=hv
  have:=(ha.get i y x hy hx).rep hR
  rwa [Nat.zero_add] at this
 ·subst he
  have hB':Back xs9.length xs9' .dead (inM ms L) w (xs.map a.eval) undef w' L':=⟨hB.keep,hB.lok,hB.head,hB.args,.dead⟩
  refine hQ.die ch a w' ⟨hR.defers,hR.size,hR.fix,(after_callM hR hd hms hB' .dead fun s i hi=>?_).dies hX hps⟩
  have hmem:=mem hi
  have hcc:=List.all_eq_true.1 hc _ hmem
  simp only at hcc
  split at hcc
  ·rename_i x hx
   split at hcc
   ·rename_i s' y' hs' hy'
    have:=Nat.eq_of_beq_eq_true hcc
    subst this
    obtain⟨e1,e2,_⟩:=slotAt_ev hs' hy' hR
    exact⟨e1,by rw [List.getElem?_map,hx,Option.map_some,e2],hn _ hmem⟩
   ·cases hcc
  ·cases hcc
theorem J.die{f:Nat}{xs9:List AV}{ch:List PanicEntry}{ps:List (Nat×AV)}{xs:List Operand}{ops:Array Oper}{l:List Oper}{K:St→Prop}{d ty:Nat}{ts:Array Nat}{pos:String}{aft:Array Edge}{g:Option (Nat×Bool)}(hs:FnDies S.P f xs9 xs9 ch)(hg:live ops g σ=some true)(ha:ArgsM S N σ [] 0 xs xs9)
  (hX:S.X ch ps) (hps:∀ p∈ps,S.M p.1=true∧FM.get (σ.put d (.av .dead)) p.1=.av p.2) :
  J false S N ops (⟨some d,.call ⟨.value (.func f),xs.toArray,ts⟩,ty,pos,aft,g⟩::l) K σ :=
 J.dieM [] hs hg ⟨fun s i h=>(by cases h),fun i s h=>(by cases h),fun s i h=>(by cases h),rfl⟩ ha rfl (fun e he=>by cases he) hX hps
theorem J.panic{x:Operand}{v:Value}{ps:List (Nat×AV)}{ops:Array Oper}{l:List Oper}{K:St→Prop}{ty:Nat}{pos:String}{aft:Array Edge}{g:Option (Nat×Bool)}(hg:live ops g σ=some true)(hx:ov σ x=.av (.val v))(hr:∀ w,(Instr.panic v).run S.P w=.halt (.panic v) w)
  (hX:S.X [{ v:=v,recovered:=false }] ps) (hps:∀ p∈ps,S.M p.1=true∧FM.get σ p.1=.av p.2):J false S N ops (⟨none,.panic x,ty,pos,aft,g⟩::l) K σ:=by
 unfold J
 intro hdo w0 L0 Q a w hQ hR
 have hw:=live_wanted (o:=⟨none,.panic x,ty,pos,aft,g⟩) hg hR
 simp only [wpList,hw,if_true]
 refine .inl ?_
 obtain⟨L,hR'⟩:=id hR
 have hv:=ev_val hR' hx
 unfold Oper.wp
 simp only [execOp,hv]
 have:=hr w
 simp only [Sem.run_bind,this]
 exact hQ.die _ a w ⟨hR'.defers,hR'.size,hR'.fix,hR.dies hX hps⟩
end
end FM
namespace Go.Proofs.YtkkcnppgcnmikaaGreatDoor
open Go FM
def tab:List (Nat×TI):=[
 (2,⟨.int .i64,1,8,[.int 0]⟩),
 (3,⟨.int .i64,1,8,[.int 0]⟩),
 (4,⟨.plain,1,1,[.bool false]⟩),
 (5,⟨.int .u8,1,1,[.val (.int .u8 0)]⟩),
 (6,⟨.int .u8,1,1,[.val (.int .u8 0)]⟩),
 (7,⟨.struct [(0,2),(1,3),(2,4),(3,6)],4,24,[.int 0,.int 0,.bool false,.val (.int .u8 0)]⟩),
 (8,⟨.struct [(0,2),(1,3),(2,4),(3,6)],4,24,[.int 0,.int 0,.bool false,.val (.int .u8 0)]⟩),
 (9,⟨.str,1,16,[.str []]⟩),
 (10,⟨.str,1,16,[.str []]⟩),
 (11,⟨.str,1,16,[.str []]⟩),
 (12,⟨.int .u64,1,8,[.val (.int .u64 0)]⟩),
 (13,⟨.struct [(0,9),(1,12)],2,24,[.str [],.val (.int .u64 0)]⟩),
 (14,⟨.struct [(0,9),(1,12)],2,24,[.str [],.val (.int .u64 0)]⟩),
 (15,⟨.plain,1,8,[.val (.pointer none)]⟩),
 (16,⟨.plain,1,8,[.val (.pointer none)]⟩),
 (17,⟨.plain,1,8,[.val (.pointer none)]⟩),
 (18,⟨.struct [(0,17)],1,8,[.val (.pointer none)]⟩),
 (19,⟨.struct [(0,17)],1,8,[.val (.pointer none)]⟩),
 (21,⟨.int .i32,1,4,[.val (.int .i32 0)]⟩),
 (22,⟨.slice 34,1,24,[.nil]⟩),
 (23,⟨.plain,1,8,[.val (.pointer none)]⟩),
 (25,⟨.slice 46,1,24,[.nil]⟩),
 (26,⟨.slice 32,1,24,[.nil]⟩),
 (27,⟨.struct [(0,9),(1,3)],2,24,[.str [],.int 0]⟩),
 (28,⟨.struct [(0,9),(1,3)],2,24,[.str [],.int 0]⟩),
 (29,⟨.struct [(0,25),(1,26),(2,28)],4,72,[.nil,.nil,.str [],.int 0]⟩),
 (30,⟨.struct [(0,25),(1,26),(2,28)],4,72,[.nil,.nil,.str [],.int 0]⟩),
 (31,⟨.struct [(0,9),(1,9),(2,3),(3,3),(4,3),(5,3)],6,64,[.str [],.str [],.int 0,.int 0,.int 0,.int 0]⟩),
 (32,⟨.struct [(0,9),(1,9),(2,3),(3,3),(4,3),(5,3)],6,64,[.str [],.str [],.int 0,.int 0,.int 0,.int 0]⟩),
 (33,⟨.struct [(0,3),(1,3),(2,9),(3,32)],9,96,[.int 0,.int 0,.str [],.str [],.str [],.int 0,.int 0,.int 0,.int 0]⟩),
 (34,⟨.struct [(0,3),(1,3),(2,9),(3,32)],9,96,[.int 0,.int 0,.str [],.str [],.str [],.int 0,.int 0,.int 0,.int 0]⟩),
 (35,⟨.struct [(0,3),(1,3)],2,16,[.int 0,.int 0]⟩),
 (36,⟨.struct [(0,3),(1,3)],2,16,[.int 0,.int 0]⟩),
 (37,⟨.int .i64,1,8,[.int 0]⟩),
 (45,⟨.struct [(0,9),(1,3),(2,3)],3,32,[.str [],.int 0,.int 0]⟩),
 (46,⟨.struct [(0,9),(1,3),(2,3)],3,32,[.str [],.int 0,.int 0]⟩),
 (51,⟨.slice 9,1,24,[.nil]⟩),
 (56,⟨.slice 107,1,24,[.nil]⟩),
 (58,⟨.slice 61,1,24,[.nil]⟩),
 (60,⟨.struct [(0,3),(1,3)],2,16,[.int 0,.int 0]⟩),
 (61,⟨.struct [(0,3),(1,3)],2,16,[.int 0,.int 0]⟩),
 (62,⟨.slice 5,1,24,[.nil]⟩),
 (63,⟨.slice 3,1,24,[.nil]⟩),
 (74,⟨.plain,1,8,[.val (.pointer none)]⟩),
 (76,⟨.struct [(0,25),(1,26),(2,74)],3,56,[.nil,.nil,.val (.pointer none)]⟩),
 (77,⟨.struct [(0,25),(1,26),(2,74)],3,56,[.nil,.nil,.val (.pointer none)]⟩),
 (100,⟨.plain,1,8,[.val (.pointer none)]⟩),
 (101,⟨.struct [(0,23)],1,8,[.val (.pointer none)]⟩),
 (102,⟨.struct [(0,23)],1,8,[.val (.pointer none)]⟩),
 (107,⟨.arr 2 3,2,16,[.int 0,.int 0]⟩),
 (115,⟨.slice 37,1,24,[.nil]⟩),
 (120,⟨.int .u64,1,8,[.val (.int .u64 0)]⟩),
 (121,⟨.struct [(0,9),(1,3)],2,24,[.str [],.int 0]⟩),
 (122,⟨.struct [(0,9),(1,3)],2,24,[.str [],.int 0]⟩),
 (133,⟨.arr 4 3,4,32,[.int 0,.int 0,.int 0,.int 0]⟩),
 (143,⟨.struct [(0,37)],1,8,[.int 0]⟩),
 (144,⟨.struct [(0,37)],1,8,[.int 0]⟩),
 (152,⟨.plain,1,8,[.val (.map none)]⟩),
 (153,⟨.plain,1,8,[.val (.map none)]⟩),
 (163,⟨.int .i64,1,8,[.int 0]⟩),
 (172,⟨.int .u32,1,4,[.val (.int .u32 0)]⟩),
 (174,⟨.int .u64,1,8,[.val (.int .u64 0)]⟩),
 (183,⟨.int .u16,1,2,[.val (.int .u16 0)]⟩),
 (190,⟨.plain,1,8,[.val (.pointer none)]⟩),
 (191,⟨.struct [(0,190),(1,62)],2,32,[.val (.pointer none),.nil]⟩),
 (192,⟨.struct [(0,190),(1,62)],2,32,[.val (.pointer none),.nil]⟩),
 (196,⟨.arr 256 5,256,256,List.replicate 256 (.val (.int .u8 0))⟩),
 (206,⟨.slice 208,1,24,[.nil]⟩),
 (207,⟨.struct [(0,3),(1,3)],2,16,[.int 0,.int 0]⟩),
 (208,⟨.struct [(0,3),(1,3)],2,16,[.int 0,.int 0]⟩),
 (217,⟨.arr 6 4,6,6,[.bool false,.bool false,.bool false,.bool false,.bool false,.bool false]⟩),
 (218,⟨.int .u64,1,8,[.val (.int .u64 0)]⟩),
 (222,⟨.plain,1,8,[.val (.pointer none)]⟩),
 (225,⟨.int .i64,1,8,[.int 0]⟩),
 (228,⟨.plain,1,8,[.val (.pointer none)]⟩),
 (232,⟨.arr 256 4,256,256,List.replicate 256 (.bool false)⟩),
 (233,⟨.arr 256 4,256,256,List.replicate 256 (.bool false)⟩),
 (237,⟨.plain,1,8,[.val (.pointer none)]⟩),
 (239,⟨.plain,1,8,[.val (.pointer none)]⟩),
 (240,⟨.arr 24 5,24,24,List.replicate 24 (.val (.int .u8 0))⟩),
 (245,⟨.plain,1,8,[.val (.pointer none)]⟩),
 (253,⟨.slice 255,1,24,[.nil]⟩),
 (254,⟨.struct [(0,3),(1,3),(2,3)],3,24,[.int 0,.int 0,.int 0]⟩),
 (255,⟨.struct [(0,3),(1,3),(2,3)],3,24,[.int 0,.int 0,.int 0]⟩),
 (258,⟨.slice 63,1,24,[.nil]⟩),
 (261,⟨.plain,1,8,[.val (.pointer none)]⟩),
 (270,⟨.struct [(0,9),(1,9),(2,130)],3,48,[.str [],.str [],.val .nilIface]⟩),
 (271,⟨.struct [(0,9),(1,9),(2,130)],3,48,[.str [],.str [],.val .nilIface]⟩),
 (280,⟨.arr 20 174,20,160,List.replicate 20 (.val (.int .u64 0))⟩),
 (281,⟨.arr 65 5,65,65,List.replicate 65 (.val (.int .u8 0))⟩),
 (282,⟨.slice 287,1,24,[.nil]⟩),
 (283,⟨.slice 290,1,24,[.nil]⟩),
 (284,⟨.struct [(0,282),(1,283),(2,3)],3,56,[.nil,.nil,.int 0]⟩),
 (285,⟨.struct [(0,282),(1,283),(2,3)],3,56,[.nil,.nil,.int 0]⟩),
 (286,⟨.struct [(0,183),(1,183),(2,183)],3,6,[.val (.int .u16 0),.val (.int .u16 0),.val (.int .u16 0)]⟩),
 (287,⟨.struct [(0,183),(1,183),(2,183)],3,6,[.val (.int .u16 0),.val (.int .u16 0),.val (.int .u16 0)]⟩),
 (289,⟨.struct [(0,172),(1,172),(2,172)],3,12,[.val (.int .u32 0),.val (.int .u32 0),.val (.int .u32 0)]⟩),
 (290,⟨.struct [(0,172),(1,172),(2,172)],3,12,[.val (.int .u32 0),.val (.int .u32 0),.val (.int .u32 0)]⟩),
 (297,⟨.plain,1,8,[.val (.pointer none)]⟩),
 (298,⟨.struct [(0,9)],1,16,[.str []]⟩),
 (299,⟨.struct [(0,9)],1,16,[.str []]⟩),
 (301,⟨.plain,1,8,[.val (.pointer none)]⟩),
 (302,⟨.plain,1,8,[.val (.pointer none)]⟩),
 (303,⟨.struct [(0,5),(1,5)],2,2,[.val (.int .u8 0),.val (.int .u8 0)]⟩),
 (304,⟨.struct [(0,5),(1,5)],2,2,[.val (.int .u8 0),.val (.int .u8 0)]⟩),
 (305,⟨.arr 16 304,32,32,List.replicate 32 (.val (.int .u8 0))⟩),
 (312,⟨.arr 32 5,32,32,List.replicate 32 (.val (.int .u8 0))⟩),
 (313,⟨.arr 64 5,64,64,List.replicate 64 (.val (.int .u8 0))⟩),
 (322,⟨.struct [(0,17),(1,17),(2,17),(3,9)],4,40,[.val (.pointer none),.val (.pointer none),.val (.pointer none),.str []]⟩),
 (323,⟨.struct [(0,17),(1,17),(2,17),(3,9)],4,40,[.val (.pointer none),.val (.pointer none),.val (.pointer none),.str []]⟩),
 (328,⟨.int .u8,1,1,[.val (.int .u8 0)]⟩),
 (329,⟨.int .u8,1,1,[.val (.int .u8 0)]⟩),
 (331,⟨.int .i32,1,4,[.val (.int .i32 0)]⟩),
 (332,⟨.int .i32,1,4,[.val (.int .i32 0)]⟩),
 (333,⟨.struct [(0,12),(1,12),(2,172),(3,328),(4,5),(5,5),(6,329),(7,330),(8,239),(9,331),(10,332)],11,48,[.val (.int .u64 0),.val (.int .u64 0),.val (.int .u32 0),.val (.int .u8 0),.val (.int .u8 0),.val (.int .u8 0),.val (.int .u8 0),.val .nilFunc,.val (.pointer none),.val (.int .i32 0),.val (.int .i32 0)]⟩),
 (334,⟨.struct [(0,12),(1,12),(2,172),(3,328),(4,5),(5,5),(6,329),(7,330),(8,239),(9,331),(10,332)],11,48,[.val (.int .u64 0),.val (.int .u64 0),.val (.int .u32 0),.val (.int .u8 0),.val (.int .u8 0),.val (.int .u8 0),.val (.int .u8 0),.val .nilFunc,.val (.pointer none),.val (.int .i32 0),.val (.int .i32 0)]⟩)]
theorem tkI{P:Program}{t size bytes:Nat}{zero:List AV}(h:(P.info? t).map (fun i=>(i.size,i.bytes))=some (size,bytes):=by kernel_rfl)(hz:(P.info? t).bind (fun i=>i.zero.map (·.cells.toList))=some (zero.map AV.toV):=by kernel_rfl)(hf:zero.all AV.flatPlain=true:=by kernel_rfl)(hl:zero.length=size:=by kernel_rfl) :
  ∃ f z,P.info? t=some f∧f.size=size∧f.bytes=bytes∧f.zero=some z∧z.cells.toList=zero.map AV.toV∧zero.all AV.flatPlain=true∧z.cells.size=size:=TOk.ofInfo h hz hf hl
theorem tab_ok:TabOk Tryz.prog tab:=⟨⟨⟨_,Tryz.underlying2,rfl⟩,tkI⟩,
 ⟨⟨_,Tryz.underlying3,rfl⟩,tkI⟩,
 ⟨⟨_,Tryz.underlying4,trivial⟩,tkI⟩,
 ⟨⟨_,Tryz.underlying5,rfl⟩,tkI⟩,
 ⟨⟨_,Tryz.underlying6,rfl⟩,tkI⟩,
 ⟨⟨_,Tryz.underlying7,⟨_,rfl,rfl⟩⟩,tkI⟩,
 ⟨⟨_,Tryz.underlying8,⟨_,rfl,rfl⟩⟩,tkI⟩,
 ⟨⟨_,Tryz.underlying9,rfl⟩,tkI⟩,
 ⟨⟨_,Tryz.underlying10,rfl⟩,tkI⟩,
 ⟨⟨_,Tryz.underlying11,rfl⟩,tkI⟩,
 ⟨⟨_,Tryz.underlying12,rfl⟩,tkI⟩,
 ⟨⟨_,Tryz.underlying13,⟨_,rfl,rfl⟩⟩,tkI⟩,
 ⟨⟨_,Tryz.underlying14,⟨_,rfl,rfl⟩⟩,tkI⟩,
 ⟨⟨_,Tryz.underlying15,trivial⟩,tkI⟩,
 ⟨⟨_,Tryz.underlying16,trivial⟩,tkI⟩,
 ⟨⟨_,Tryz.underlying17,trivial⟩,tkI⟩,
 ⟨⟨_,Tryz.underlying18,⟨_,rfl,rfl⟩⟩,tkI⟩,
 ⟨⟨_,Tryz.underlying19,⟨_,rfl,rfl⟩⟩,tkI⟩,
 ⟨⟨_,Tryz.underlying21,rfl⟩,tkI⟩,
 ⟨⟨_,Tryz.underlying22,rfl⟩,tkI⟩,
 ⟨⟨_,Tryz.underlying23,trivial⟩,tkI⟩,
 ⟨⟨_,Tryz.underlying25,rfl⟩,tkI⟩,
 ⟨⟨_,Tryz.underlying26,rfl⟩,tkI⟩,
 ⟨⟨_,Tryz.underlying27,⟨_,rfl,rfl⟩⟩,tkI⟩,
 ⟨⟨_,Tryz.underlying28,⟨_,rfl,rfl⟩⟩,tkI⟩,
 ⟨⟨_,Tryz.underlying29,⟨_,rfl,rfl⟩⟩,tkI⟩,
 ⟨⟨_,Tryz.underlying30,⟨_,rfl,rfl⟩⟩,tkI⟩,
 ⟨⟨_,Tryz.underlying31,⟨_,rfl,rfl⟩⟩,tkI⟩,
 ⟨⟨_,Tryz.underlying32,⟨_,rfl,rfl⟩⟩,tkI⟩,
 ⟨⟨_,Tryz.underlying33,⟨_,rfl,rfl⟩⟩,tkI⟩,
 ⟨⟨_,Tryz.underlying34,⟨_,rfl,rfl⟩⟩,tkI⟩,
 ⟨⟨_,Tryz.underlying35,⟨_,rfl,rfl⟩⟩,tkI⟩,
 ⟨⟨_,Tryz.underlying36,⟨_,rfl,rfl⟩⟩,tkI⟩,
 ⟨⟨_,Tryz.underlying37,rfl⟩,tkI⟩,
 ⟨⟨_,Tryz.underlying45,⟨_,rfl,rfl⟩⟩,tkI⟩,
 ⟨⟨_,Tryz.underlying46,⟨_,rfl,rfl⟩⟩,tkI⟩,
 ⟨⟨_,Tryz.underlying51,rfl⟩,tkI⟩,
 ⟨⟨_,Tryz.underlying56,rfl⟩,tkI⟩,
 ⟨⟨_,Tryz.underlying58,rfl⟩,tkI⟩,
 ⟨⟨_,Tryz.underlying60,⟨_,rfl,rfl⟩⟩,tkI⟩,
 ⟨⟨_,Tryz.underlying61,⟨_,rfl,rfl⟩⟩,tkI⟩,
 ⟨⟨_,Tryz.underlying62,rfl⟩,tkI⟩,
 ⟨⟨_,Tryz.underlying63,rfl⟩,tkI⟩,
 ⟨⟨_,Tryz.underlying74,trivial⟩,tkI⟩,
 ⟨⟨_,Tryz.underlying76,⟨_,rfl,rfl⟩⟩,tkI⟩,
 ⟨⟨_,Tryz.underlying77,⟨_,rfl,rfl⟩⟩,tkI⟩,
 ⟨⟨_,Tryz.underlying100,trivial⟩,tkI⟩,
 ⟨⟨_,Tryz.underlying101,⟨_,rfl,rfl⟩⟩,tkI⟩,
 ⟨⟨_,Tryz.underlying102,⟨_,rfl,rfl⟩⟩,tkI⟩,
 ⟨⟨_,Tryz.underlying107,rfl⟩,tkI⟩,
 ⟨⟨_,Tryz.underlying115,rfl⟩,tkI⟩,
 ⟨⟨_,Tryz.underlying120,rfl⟩,tkI⟩,
 ⟨⟨_,Tryz.underlying121,⟨_,rfl,rfl⟩⟩,tkI⟩,
 ⟨⟨_,Tryz.underlying122,⟨_,rfl,rfl⟩⟩,tkI⟩,
 ⟨⟨_,Tryz.underlying133,rfl⟩,tkI⟩,
 ⟨⟨_,Tryz.underlying143,⟨_,rfl,rfl⟩⟩,tkI⟩,
 ⟨⟨_,Tryz.underlying144,⟨_,rfl,rfl⟩⟩,tkI⟩,
 ⟨⟨_,Tryz.underlying152,trivial⟩,tkI⟩,
 ⟨⟨_,Tryz.underlying153,trivial⟩,tkI⟩,
 ⟨⟨_,Tryz.underlying163,rfl⟩,tkI⟩,
 ⟨⟨_,Tryz.underlying172,rfl⟩,tkI⟩,
 ⟨⟨_,Tryz.underlying174,rfl⟩,tkI⟩,
 ⟨⟨_,Tryz.underlying183,rfl⟩,tkI⟩,
 ⟨⟨_,Tryz.underlying190,trivial⟩,tkI⟩,
 ⟨⟨_,Tryz.underlying191,⟨_,rfl,rfl⟩⟩,tkI⟩,
 ⟨⟨_,Tryz.underlying192,⟨_,rfl,rfl⟩⟩,tkI⟩,
 ⟨⟨_,Tryz.underlying196,rfl⟩,tkI⟩,
 ⟨⟨_,Tryz.underlying206,rfl⟩,tkI⟩,
 ⟨⟨_,Tryz.underlying207,⟨_,rfl,rfl⟩⟩,tkI⟩,
 ⟨⟨_,Tryz.underlying208,⟨_,rfl,rfl⟩⟩,tkI⟩,
 ⟨⟨_,Tryz.underlying217,rfl⟩,tkI⟩,
 ⟨⟨_,Tryz.underlying218,rfl⟩,tkI⟩,
 ⟨⟨_,Tryz.underlying222,trivial⟩,tkI⟩,
 ⟨⟨_,Tryz.underlying225,rfl⟩,tkI⟩,
 ⟨⟨_,Tryz.underlying228,trivial⟩,tkI⟩,
 ⟨⟨_,Tryz.underlying232,rfl⟩,tkI⟩,
 ⟨⟨_,Tryz.underlying233,rfl⟩,tkI⟩,
 ⟨⟨_,Tryz.underlying237,trivial⟩,tkI⟩,
 ⟨⟨_,Tryz.underlying239,trivial⟩,tkI⟩,
 ⟨⟨_,Tryz.underlying240,rfl⟩,tkI⟩,
 ⟨⟨_,Tryz.underlying245,trivial⟩,tkI⟩,
 ⟨⟨_,Tryz.underlying253,rfl⟩,tkI⟩,
 ⟨⟨_,Tryz.underlying254,⟨_,rfl,rfl⟩⟩,tkI⟩,
 ⟨⟨_,Tryz.underlying255,⟨_,rfl,rfl⟩⟩,tkI⟩,
 ⟨⟨_,Tryz.underlying258,rfl⟩,tkI⟩,
 ⟨⟨_,Tryz.underlying261,trivial⟩,tkI⟩,
 ⟨⟨_,Tryz.underlying270,⟨_,rfl,rfl⟩⟩,tkI⟩,
 ⟨⟨_,Tryz.underlying271,⟨_,rfl,rfl⟩⟩,tkI⟩,
 ⟨⟨_,Tryz.underlying280,rfl⟩,tkI⟩,
 ⟨⟨_,Tryz.underlying281,rfl⟩,tkI⟩,
 ⟨⟨_,Tryz.underlying282,rfl⟩,tkI⟩,
 ⟨⟨_,Tryz.underlying283,rfl⟩,tkI⟩,
 ⟨⟨_,Tryz.underlying284,⟨_,rfl,rfl⟩⟩,tkI⟩,
 ⟨⟨_,Tryz.underlying285,⟨_,rfl,rfl⟩⟩,tkI⟩,
 ⟨⟨_,Tryz.underlying286,⟨_,rfl,rfl⟩⟩,tkI⟩,
 ⟨⟨_,Tryz.underlying287,⟨_,rfl,rfl⟩⟩,tkI⟩,
 ⟨⟨_,Tryz.underlying289,⟨_,rfl,rfl⟩⟩,tkI⟩,
 ⟨⟨_,Tryz.underlying290,⟨_,rfl,rfl⟩⟩,tkI⟩,
 ⟨⟨_,Tryz.underlying297,trivial⟩,tkI⟩,
 ⟨⟨_,Tryz.underlying298,⟨_,rfl,rfl⟩⟩,tkI⟩,
 ⟨⟨_,Tryz.underlying299,⟨_,rfl,rfl⟩⟩,tkI⟩,
 ⟨⟨_,Tryz.underlying301,trivial⟩,tkI⟩,
 ⟨⟨_,Tryz.underlying302,trivial⟩,tkI⟩,
 ⟨⟨_,Tryz.underlying303,⟨_,rfl,rfl⟩⟩,tkI⟩,
 ⟨⟨_,Tryz.underlying304,⟨_,rfl,rfl⟩⟩,tkI⟩,
 ⟨⟨_,Tryz.underlying305,rfl⟩,tkI⟩,
 ⟨⟨_,Tryz.underlying312,rfl⟩,tkI⟩,
 ⟨⟨_,Tryz.underlying313,rfl⟩,tkI⟩,
 ⟨⟨_,Tryz.underlying322,⟨_,rfl,rfl⟩⟩,tkI⟩,
 ⟨⟨_,Tryz.underlying323,⟨_,rfl,rfl⟩⟩,tkI⟩,
 ⟨⟨_,Tryz.underlying328,rfl⟩,tkI⟩,
 ⟨⟨_,Tryz.underlying329,rfl⟩,tkI⟩,
 ⟨⟨_,Tryz.underlying331,rfl⟩,tkI⟩,
 ⟨⟨_,Tryz.underlying332,rfl⟩,tkI⟩,
 ⟨⟨_,Tryz.underlying333,⟨_,rfl,rfl⟩⟩,tkI⟩,
 ⟨⟨_,Tryz.underlying334,⟨_,rfl,rfl⟩⟩,tkI⟩,trivial⟩
noncomputable def Sy:FM.Sys:=⟨Tryz.prog,FM.look tab,fun t i h=>FM.look_ok tab_ok h,by kernel_rfl,fun _=>false,fun _=>undef,[],fun _ _=>False⟩
theorem enT {N:Nat} {f:Nat} {fn:Func} {c:Code} {rvs:List ResultVar} {xs9 xs9':List AV} {r:AV} (hf:Sy.P.funcs[f]?=some fn) (hN:fn.ntmps=N) (h:∀ v0,CW (Sy.fixed 0 v0) N c (Ret (Sy.fixed 0 v0) rvs xs9 xs9' r) (ofL (initL 0 xs9))) (hb:fn.body=some c:=by rfl) (hname:(fn.name == "runtime.NumGoroutine")=false:=by rfl) (hr:fn.results=rvs.toArray:=by rfl) (hlen:Nat.ble xs9.length N=true:=by rfl) (hidx:idxOk (rvs.map ResultVar.slot)=true:=by rfl) (hge:(rvs.map ResultVar.slot).all (fun t=>Nat.ble xs9.length t)=true:=by rfl):FnSpec Sy.P f xs9 xs9' r :=
 FnSpec.enter (S:=Sy) 0 hf hb hname hr hN hlen hidx hge rfl h
end Go.Proofs.YtkkcnppgcnmikaaGreatDoor
namespace FM
open Go Go.RowKit
set_option linter.all false
theorem foldSet(off:Nat):∀ (l:List Value) (k:Nat) (cells:Array Value),off+k+l.length≤cells.size →
  ((l.zipIdx k).foldl (fun cs (p:Value×Nat)=>cs.setIfInBounds (off+p.2) p.1) cells).size=cells.size ∧
  ∀ j,((l.zipIdx k).foldl (fun cs (p:Value×Nat)=>cs.setIfInBounds (off+p.2) p.1) cells)[j]?=if off+k≤j∧j<off+k+l.length then l[j-(off+k)]? else cells[j]?
 | [],k,cells,_=>⟨rfl,fun j=>by rw [if_neg (by simp only [List.length_nil];omega)];rfl⟩
 | v::l,k,cells,h=>by
  rw [List.length_cons] at h
  obtain⟨h1,h2⟩:=foldSet off l (k+1) (cells.setIfInBounds (off+k) v) (by simp;omega)
  rw [List.zipIdx_cons,List.foldl_cons]
  refine⟨by rw [h1];simp,fun j=>?_⟩
  rw [h2 j,List.length_cons]
  by_cases c1:j=off+k
  ·subst c1
   rw [if_neg (by omega),if_pos (by omega),Array.getElem?_setIfInBounds]
   simp
   omega
  ·by_cases c2:off+(k+1)≤j∧j<off+(k+1)+l.length
   ·rw [if_pos c2,if_pos (by omega)]
    have:j-(off+k)=(j-(off+(k+1)))+1:=by omega
    rw [this,List.getElem?_cons_succ]
   ·rw [if_neg c2,if_neg (by omega),Array.getElem?_setIfInBounds_ne (by omega)]
def setAt(zs:List AV)(off:Nat)(cs:List AV):List AV:=zs.take off++(cs++zs.drop (off+cs.length))
theorem setAt_len{zs cs:List AV}{off:Nat}(h:off+cs.length≤zs.length):(setAt zs off cs).length=zs.length:=by
 unfold setAt;simp only [List.length_append,List.length_take,List.length_drop];omega
theorem setAt_get{zs cs:List AV}{off:Nat}(h:off+cs.length≤zs.length)(j:Nat):(setAt zs off cs)[j]?=if off≤j∧j<off+cs.length then cs[j-off]? else zs[j]?:=by
 unfold setAt
 by_cases c1:j<off
 ·rw [if_neg (by omega),List.getElem?_append_left (by rw [List.length_take];omega),List.getElem?_take_of_lt c1]
 ·have hl:(zs.take off).length=off:=by rw [List.length_take];omega
  rw [List.getElem?_append_right (by omega),hl]
  by_cases c2:j<off+cs.length
  ·rw [if_pos (by omega),List.getElem?_append_left (by omega)]
  ·rw [if_neg (by omega),List.getElem?_append_right (by omega),List.getElem?_drop]
   congr 1;omega
section
variable {S:Sys} {σ:St} {d:Nat} {ty:Nat} {pos:String} {aft:Array Edge} {g:Option (Nat×Bool)}
inductive FillG(σ:St)(T:Nat→Option TI)(fs:List (Nat×Nat)):List AV→List (Nat×Operand)→List AV→Prop
 | nil {zs:List AV}:FillG σ T fs zs [] zs
 | part {i off fty:Nat} {ti:TI} {y:AV} {x:Operand} {zs ys:List AV} {ps:List (Nat×Operand)} (hf:fs[i]?=some (off,fty)) (hT:T fty=some ti) (hx:ov σ x=.av y) (hy:y.varOk=true) (ho:y.isOwn=false) (hl:Nat.beq y.cells.length ti.size=true)
   (hb:Nat.ble (off+y.cells.length) zs.length=true) (h:FillG σ T fs (setAt zs off y.cells) ps ys):FillG σ T fs zs ((i,x)::ps) ys
theorem FillG.length{T:Nat→Option TI}{fs:List (Nat×Nat)}{zs ys:List AV}{ps:List (Nat×Operand)}(h:FillG σ T fs zs ps ys):ys.length=zs.length:=by
 induction h with
 | nil=>rfl
 | part _ _ _ _ _ _ hb _ ih=>rw [ih,setAt_len (Nat.le_of_ble_eq_true hb)]
theorem FillG.run{w0:World}{L0:Nat→Lab}{N:Nat}{a:Act}{w:World}{L:Nat→Lab}(hR:RelL S w0 L0 N σ a w L){fs:List (Nat×Nat)}{place:Nat→Option (Nat×Nat)}(hp:∀ (i off fty:Nat) (ti:TI),fs[i]?=some (off,fty)→S.T fty=some ti→place i=some (off,ti.size)){zs ys:List AV}{ps:List (Nat×Operand)}(h:FillG σ S.T fs zs ps ys) :
  ∀ cells:Array Value,cells.size=zs.length→(∀ (j:Nat) z,zs[j]?=some z→∃ u,cells[j]?=some u∧Rep L w none z u) →
   ∃ cells',Instr.fill place cells (ps.map fun p=>(p.1,a.eval p.2))=some cells'∧cells'.size=zs.length∧∀ (j:Nat) y,ys[j]?=some y→∃ u,cells'[j]?=some u∧Rep L w none y u:=by
 induction h with
 | nil=>exact fun cells hs hz=>⟨cells,rfl,hs,hz⟩
 | @part i off fty ti y x zs ys ps hf hT hx hy ho hl hb _ ih =>
  intro cells hs hz
  have hb:=Nat.le_of_ble_eq_true hb
  have hl:=Nat.eq_of_beq_eq_true hl
  obtain⟨m,hm⟩:=ev_av hR hx
  have hm':Rep L w none y (a.eval x):=Rep.replace hm ho
  obtain⟨c1,_,c3⟩:=rep_cells hm' hy
  have hln:(a.eval x).cells.toList.length=y.cells.length:=by rw [Array.length_toList,c1]
  obtain⟨f1,f2⟩:=foldSet off (a.eval x).cells.toList 0 cells (by rw [hln,hs];omega)
  obtain⟨cells',e1,e2,e3⟩:=ih (((a.eval x).cells.toList.zipIdx 0).foldl (fun cs (p:Value×Nat)=>cs.setIfInBounds (off+p.2) p.1) cells) (by rw [f1,hs,setAt_len hb]) (fun j z hz'=>by
   rw [setAt_get hb] at hz'
   rw [f2 j,hln,Nat.add_zero]
   by_cases c:off≤j∧j<off+y.cells.length
   ·rw [if_pos c] at hz' ⊢
    obtain⟨u,hu,hr⟩:=c3 _ _ hz'
    exact⟨u,by rw [Array.getElem?_toList];exact hu,hr⟩
   ·rw [if_neg c] at hz' ⊢
    exact hz j z hz')
  refine⟨cells',?_,by rw [e2,setAt_len hb],e3⟩
  simp only [List.map_cons,Instr.fill,hp i off fty ti hf hT]
  have hne:((a.eval x).cells.size≠ti.size||off+(a.eval x).cells.size>cells.size)=false:=by
   rw [c1,hl,hs];simp;omega
  simp only [hne,Bool.false_eq_true,if_false]
  have hfold:((a.eval x).cells.zipIdx.foldl (fun cs (p:Value×Nat)=>cs.setIfInBounds (off+p.2) p.1) cells)=((a.eval x).cells.toList.zipIdx 0).foldl (fun cs (p:Value×Nat)=>cs.setIfInBounds (off+p.2) p.1) cells:=by
   rw [← Array.foldl_toList,Array.toList_zipIdx]
  rw [← hfold] at e1
  exact e1
theorem s_bldG{t sz by_:Nat}{fs:List (Nat×Nat)}{zz ys:List AV}{ps:Array (Nat×Operand)}(hT:S.T t=some ⟨.struct fs,sz,by_,zz⟩)(hf:(fs.all fun p=>(S.T p.2).isSome)=true)(hp:FillG σ S.T fs zz ps.toList ys):Step S ⟨some d,.build t ps,ty,pos,aft,g⟩ σ (σ.put d (.av (.agg ys))):=by
 refine step_val rfl fun w0 L0 N a w L hR=>?_
 obtain⟨f,zv,hf1,hf2,hf3,hf4,hf5,hf6,hf7⟩:=(S.ok t _ hT).info
 obtain⟨dd,hd,fields,hde,hfl⟩:=(S.ok t _ hT).desc
 subst hde
 simp only at hf2 hf3 hf5 hf6 hf7
 have hcell:∀ (j:Nat) z,zz[j]?=some z→∃ u,zv.cells[j]?=some u∧Rep L w none z u:=fun j z hz=>by
  refine⟨z.toV,?_,toV_rep (List.all_eq_true.1 hf6 z (List.mem_of_getElem? hz))⟩
  rw [← Array.getElem?_toList,hf5,List.getElem?_map,hz];rfl
 have hzl:zv.cells.size=zz.length:=by
  have:=congrArg List.length hf5
  rw [List.length_map,Array.length_toList] at this
  exact this
 have hmr:=fun w'=>mapM_run (P:=S.P) (w:=w') (fun f:Field=>(do pure (f.offset,←Go.sizeOf f.type):Sem (Nat×Nat))) fields.toList (fields.toList.map fun f=>(f.offset,((S.P.info? f.type).map (·.size)).getD 0)) (by simp) (fun k x v hx hv=>by
  rw [List.getElem?_map,hx] at hv
  simp only [Option.map_some,Option.some.injEq] at hv
  subst hv
  have hm:(x.offset,x.type)∈fs:=by rw [← hfl];exact List.mem_map.2 ⟨x,List.mem_of_getElem? hx,rfl⟩
  have h1:=List.all_eq_true.1 hf _ hm
  obtain⟨ti,h2⟩:=Option.isSome_iff_exists.1 h1
  obtain⟨fe,h5,h6⟩:=(S.ok _ ti h2).size
  simp [Go.sizeOf,typeInfo,h5])
 have hplaces:∀ w',(fields.mapM fun f=>do pure (f.offset,←Go.sizeOf f.type):Sem (Array (Nat×Nat))).run S.P w'=.ok (fields.toList.map fun f=>(f.offset,((S.P.info? f.type).map (·.size)).getD 0)).toArray w':=fun w'=>by
  rw [Array.mapM_eq_mapM_toList]
  simp only [map_eq_pure_bind,Sem.run_bind,hmr w',Result.andThen_ok,Sem.run_pure]
 obtain⟨cells',e1,e2,e4⟩:=hp.run hR (place:=fun i=>(fields.toList.map fun f=>(f.offset,((S.P.info? f.type).map (·.size)).getD 0)).toArray[i]?) (fun i off fty ti hfi hTi=>by
  rw [← hfl,List.getElem?_map,Option.map_eq_some_iff] at hfi
  obtain⟨fd,hfd,he⟩:=hfi
  obtain⟨fe,h5,h6⟩:=(S.ok _ ti hTi).size
  cases he
  simp only [List.getElem?_toArray,List.getElem?_map,hfd,Option.map_some,h5,h6,Option.getD_some]) zv.cells hzl hcell
 refine⟨.agg cells',fun w' _=>?_,?_⟩
 ·simp only [execOp,Sem.run_bind,Instr.build,zeroValue,typeInfo,run_program,hf1,hf4,Result.andThen_ok,Sem.run_pure,run_underlying hd]
  rw [hplaces w']
  simp only [Result.andThen_ok]
  have e1':Instr.fill (fun i=>(fields.toList.map fun f=>(f.offset,((S.P.info? f.type).map (·.size)).getD 0)).toArray[i]?) zv.cells (ps.map fun p=>(p.1,a.eval p.2)).toList=some cells':=by
   rw [Array.toList_map];exact e1
  rw [e1']
  rfl
 ·have hl:cells'.toList.length=ys.length:=by rw [Array.length_toList,e2,hp.length]
  have:(Value.agg cells')=.agg cells'.toList.toArray:=by simp
  rw [this]
  refine .agg hl fun i x v hx hv=>?_
  obtain⟨u,hu,hr⟩:=e4 i x hx
  rw [Array.getElem?_toList,hu] at hv
  cases hv
  exact hr
end
end FM
namespace Go.Proofs.YtkkcnppgcnmikaaGreatDoor
open Go Go.Proofs
set_option linter.all false
def ltrim_ren:Go.Shelf.Ren:=⟨fun|160=>134|232=>178|231=>177|227=>179|234=>181|233=>180|236=>183|235=>182|228=>227|271=>229|151=>228|197=>194|120=>253|152=>252|260=>239|137=>262|119=>263|224=>242|225=>241|217=>240|266=>256|n=>n,fun|9=>9|4=>4|3=>3|5=>5|117=>234|116=>233|0=>0|124=>237|21=>21|105=>246|46=>120|119=>196|139=>305|138=>304|n=>n,fun|3=>6|4=>7|n=>n⟩
theorem ltrim:Lays.n160 Tryz.prog ltrim_ren:={
 mixed:=by kernel_rfl,
 f119:=Tryz.func263.trans (congrArg some (by kernel_rfl)),
 f120:=Tryz.func253.trans (congrArg some (by kernel_rfl)),
 f137:=Tryz.func262.trans (congrArg some (by kernel_rfl)),
 f151:=Tryz.func228.trans (congrArg some (by kernel_rfl)),
 f152:=Tryz.func252.trans (congrArg some (by kernel_rfl)),
 f160:=Tryz.func134.trans (congrArg some (by kernel_rfl)),
 f197:=Tryz.func194.trans (congrArg some (by kernel_rfl)),
 f217:=Tryz.func240.trans (congrArg some (by kernel_rfl)),
 f224:=Tryz.func242.trans (congrArg some (by kernel_rfl)),
 f225:=Tryz.func241.trans (congrArg some (by kernel_rfl)),
 f227:=Tryz.func179.trans (congrArg some (by kernel_rfl)),
 f228:=Tryz.func227.trans (congrArg some (by kernel_rfl)),
 f231:=Tryz.func177.trans (congrArg some (by kernel_rfl)),
 f232:=Tryz.func178.trans (congrArg some (by kernel_rfl)),
 f233:=Tryz.func180.trans (congrArg some (by kernel_rfl)),
 f234:=Tryz.func181.trans (congrArg some (by kernel_rfl)),
 f235:=Tryz.func182.trans (congrArg some (by kernel_rfl)),
 f236:=Tryz.func183.trans (congrArg some (by kernel_rfl)),
 f260:=Tryz.func239.trans (congrArg some (by kernel_rfl)),
 f266:=Tryz.func256.trans (congrArg some (by kernel_rfl)),
 f271:=Tryz.func229.trans (congrArg some (by kernel_rfl)),
 t0:=Tryz.underlying0,
 a0:=Tryz.isAgg0,
 z0:=Tryz.sizeOf0,
 v0:=Tryz.zeroValue0,
 t3:=Tryz.underlying3,
 a3:=Tryz.isAgg3,
 z3:=Tryz.sizeOf3,
 v3:=Tryz.zeroValue3,
 t4:=Tryz.underlying4,
 a4:=Tryz.isAgg4,
 z4:=Tryz.sizeOf4,
 v4:=Tryz.zeroValue4,
 t5:=Tryz.underlying5,
 a5:=Tryz.isAgg5,
 z5:=Tryz.sizeOf5,
 v5:=Tryz.zeroValue5,
 t9:=Tryz.underlying9,
 a9:=Tryz.isAgg9,
 z9:=Tryz.sizeOf9,
 v9:=Tryz.zeroValue9,
 t21:=Tryz.underlying21,
 a21:=Tryz.isAgg21,
 z21:=Tryz.sizeOf21,
 v21:=Tryz.zeroValue21,
 t46:=Tryz.underlying120,
 a46:=Tryz.isAgg120,
 z46:=Tryz.sizeOf120,
 v46:=Tryz.zeroValue120,
 t105:=Tryz.underlying246,
 a105:=Tryz.isAgg246,
 z105:=Tryz.sizeOf246,
 v105:=Tryz.zeroValue246,
 t116:=Tryz.underlying233,
 a116:=Tryz.isAgg233,
 z116:=Tryz.sizeOf233,
 t117:=Tryz.underlying234,
 a117:=Tryz.isAgg234,
 z117:=Tryz.sizeOf234,
 v117:=Tryz.zeroValue234,
 t119:=Tryz.underlying196,
 a119:=Tryz.isAgg196,
 z119:=Tryz.sizeOf196,
 t124:=Tryz.underlying237,
 a124:=Tryz.isAgg237,
 z124:=Tryz.sizeOf237,
 v124:=Tryz.zeroValue237,
 t138:=Tryz.underlying304,
 a138:=Tryz.isAgg304,
 z138:=Tryz.sizeOf304,
 v138:=Tryz.zeroValue304,
 t139:=Tryz.underlying305,
 a139:=Tryz.isAgg305,
 z139:=Tryz.sizeOf305,
 v139:=Tryz.zeroValue305,
 g3:=by kernel_rfl,
 g4:=by kernel_rfl }
end Go.Proofs.YtkkcnppgcnmikaaGreatDoor
