/- A function that defers one closure, which takes up a panic and writes to the variable that the result is read from. No program in sight. -/
import Derived.Test.YtkkcnppgcnmikaaGreatDoorAbg
import Derived.Test.YtkkcnppgcnmikaaGreatDoorAbf
import Derived.Recover
import Derived.Test.YtkkcnppgcnmikaaGreatDoorAbj
namespace FM
open Go Go.RowKit
set_option linter.all false
section
variable {S:Sys} {N:Nat} {σ:St}
theorem ret_back{w:World}{L:Nat→Lab}{a:Act}{w':World}(hR:Rel S w L N σ a w'){fn:Func}{rvs:List ResultVar}(hr:fn.results=rvs.toArray){xs9 xs9':List AV}{r:AV}{e:Exit}(hret:Ret S rvs xs9 xs9' r e σ){vs:List Value}(hvs:vs.length=xs9.length)(hlen':xs9.length≤N)
  (hfix:∀ i,i<xs9.length→S.M i=true→S.v0 i=vs.getD i undef) (hargs:∀ i x v,xs9[i]?=some x→vs[i]?=some v→Rep L w (some [i]) x v) (hidx:idxOk (rvs.map ResultVar.slot)=true) (hge:(rvs.map ResultVar.slot).all (fun t=>Nat.ble xs9.length t)=true)
  {tmps:Array Value} (ht:∀ rv∈rvs,tmps.getD (ResultVar.slot rv) undef=a.tmps.getD (ResultVar.slot rv) undef):∃ v L',(results fn tmps).run S.P w'=.ok v w'∧Back xs9.length xs9' r L w vs v w' L':=by
 obtain⟨hee,⟨rs,hrs,hle⟩,hl',has⟩:=hret
 clear hee
 obtain⟨L',hR⟩:=hR
 obtain⟨hrl,hrk⟩:=resL_get hrs
 -- the results' values
 obtain⟨us,hul,hus⟩:=gather (R:=fun k y v=>∃ rv,rvs[k]?=some rv∧(resSem a.tmps rv).run S.P w'=.ok v w'∧Rep L' w' (some [ResultVar.slot rv]) y v) rs 0 (fun k y hy=>by
  have hk:k<rvs.length:=by rw [← hrl];exact(List.getElem?_eq_some_iff.1 hy).1
  obtain⟨v,h1,h2⟩:=res_run hR (hrk k rvs[k] y (List.getElem?_eq_getElem hk) hy)
  exact⟨v,rvs[k],by rw [Nat.zero_add];exact List.getElem?_eq_getElem hk,h1,h2⟩)
 have hrun:(results fn tmps).run S.P w'=.ok (packV us) w':=results_run hr (by rw [hul,hrl]) fun k rv v hk hv=>by
  have hkr:k<rs.length:=by rw [hrl];exact(List.getElem?_eq_some_iff.1 hk).1
  obtain⟨rv',h1,h2,_⟩:=hus k rs[k] v (List.getElem?_eq_getElem hkr) hv
  rw [Nat.zero_add,hk] at h1
  injection h1 with h1
  subst h1
  have hm:rv∈rvs:=List.mem_of_getElem? hk
  have e:resSem tmps rv=resSem a.tmps rv:=by
   have:=ht rv hm
   cases rv<;>simp only [resSem,ResultVar.slot] at this ⊢<;>rw [this]
  rw [e]
  exact h2
 refine⟨packV us,relab (rho xs9.length (Nat.beq rvs.length 1) (rvs.map ResultVar.slot)) L',hrun,hR.keep,hR.lok.relab rho_ne (rho_inj fun hs=>by simpa using Nat.eq_of_beq_eq_true hs),fun b p hb=>?_,fun i x u hx hu=>?_,?_⟩
 ·obtain⟨t,q,p',h1,h2,rfl⟩:=relab_my hb
  unfold rho at h2
  cases hbl:Nat.blt t xs9.length with
  | true =>
   rw [hbl,cond_true] at h2;injection h2 with h2;subst h2
   have:t<xs9.length:=by simp [Nat.blt] at hbl;omega
   exact⟨t,q,rfl,by omega⟩
  | false =>
   rw [hbl,cond_false,Option.map_eq_some_iff] at h2
   obtain⟨k,_,rfl⟩:=h2
   cases Nat.beq rvs.length 1 with
   | true=>exact⟨xs9.length,q,rfl,Nat.le_refl _⟩
   | false=>exact⟨xs9.length,k::q,rfl,Nat.le_refl _⟩
 ·have hi:i<xs9.length:=by rw [← hl'];exact(List.getElem?_eq_some_iff.1 hx).1
  have hrho:rho xs9.length (Nat.beq rvs.length 1) (rvs.map ResultVar.slot) i=some [i]:=by
   unfold rho
   have:Nat.blt i xs9.length=true:=by simp [Nat.blt];omega
   rw [this,cond_true]
  rcases has i xs9[i] x (List.getElem?_eq_getElem hi) hx with⟨ho,rfl⟩|⟨him,hg|rfl⟩
  ·-- an argument that is shared reads xs9 it did
   have h0:=(hargs i xs9[i] u (List.getElem?_eq_getElem hi) hu).replace (π':=none) ho
   have h1:Rep (relab (rho xs9.length (Nat.beq rvs.length 1) (rvs.map ResultVar.slot)) L') w' none xs9[i] u:=by
    refine Rep.frame hR.keep.size hR.keep.os hR.keep.tape hR.keep.output (fun b hb hlt=>?_) h0 none (fun p hp=>by cases hp)
    refine⟨?_,hR.keep.block b hlt (fun p hp=>by rw [hb] at hp;cases hp)⟩
    cases hL':L' b with
    | sh=>exact relab_sh hL'
    | fo=>have:=(hR.lok.fo b hlt).1 hL';rw [hb] at this;cases this
    | my p=>obtain⟨q,hq⟩:=hR.lok.old b p hlt hL';rw [hb] at hq;cases hq
   exact h1.any _
  ·have hiN:i<N:=by omega
   have hh:=hR.hold i hiN
   rw [hg] at hh
   simp only [Hold] at hh
   have hfx:=(hR.fix i him).trans (hfix i hi him)
   have hui:vs.getD i undef=u:=by simp [List.getD_eq_getElem?_getD,hu]
   have:a.tmps.getD i undef=u:=hfx.trans hui
   rw [this] at hh
   refine Rep.frame (Nat.le_refl _) rfl rfl rfl (fun b hb _=>⟨relab_sh hb,rfl⟩) hh _ fun p hp=>?_
   cases hp
   exact⟨[i],rfl,fun b q hb=>⟨relab_to hb hrho,rfl⟩⟩
  ·exact .dead
 ·refine Rep.le hle ?_
  have hge':=List.all_eq_true.1 hge
  have hbl:∀ k rv,rvs[k]?=some rv→rho xs9.length (Nat.beq rvs.length 1) (rvs.map ResultVar.slot) (ResultVar.slot rv)=some (bif Nat.beq rvs.length 1 then [xs9.length] else [xs9.length,k]):=fun k rv hk=>by
   have hm:(rvs.map ResultVar.slot)[k]?=some (ResultVar.slot rv):=by rw [List.getElem?_map,hk];rfl
   have:=hge' _ (List.mem_of_getElem? hm)
   unfold rho
   have hb:Nat.blt (ResultVar.slot rv) xs9.length=false:=by
    have:=Nat.le_of_ble_eq_true this
    rw [← Bool.not_eq_true];intro hc;simp [Nat.blt] at hc;omega
   rw [hb,cond_false,idx_of hidx hm];rfl
  have key:∀ k y v,rs[k]?=some y→us[k]?=some v→Rep (relab (rho xs9.length (Nat.beq rvs.length 1) (rvs.map ResultVar.slot)) L') w' (some (bif Nat.beq rvs.length 1 then [xs9.length] else [xs9.length,k])) y v:=fun k y v hy hv=>by
   obtain⟨rv,h1,_,h3⟩:=hus k y v hy hv
   rw [Nat.zero_add] at h1
   refine Rep.frame (Nat.le_refl _) rfl rfl rfl (fun b hb _=>⟨relab_sh hb,rfl⟩) h3 _ fun p hp=>?_
   cases hp
   exact⟨_,rfl,fun b q hb=>⟨relab_to hb (hbl k rv h1),rfl⟩⟩
  match hrs':rs,us,hul with
  | [],[],_=>exact .tup rfl (fun i x v h=>by simp at h)
  | [y],[v],_ =>
   have h1:Nat.beq rvs.length 1=true:=by rw [← hrl];rfl
   have:=key 0 y v (by simp) (by simp)
   rw [show(bif Nat.beq rvs.length 1 then [xs9.length] else [xs9.length,0])=[xs9.length] from by rw [h1];rfl] at this
   exact this
  | y::y'::ys,v::v'::us',hul =>
   have h1:Nat.beq rvs.length 1=false:=by rw [← hrl];exact not_beq (by simp)
   refine .tup hul fun k x u hx hu=>?_
   have:=key k x u (by simpa using hx) (by simpa using hu)
   rw [show(bif Nat.beq rvs.length 1 then [xs9.length] else [xs9.length,k])=[xs9.length,k] from by rw [h1];rfl] at this
   exact this
theorem run_invoke{P:Program}{g:Nat}(hg:FnOk P g)(v:Value)(w:World):(invoke (.fn (.func g) #[v]) #[]).run P w=.ok (.enter g #[v]) w:=by
 obtain⟨fn,h1,h2,h3⟩:=hg.out
 simp only [invoke,callFunc,Sem.run_bind,run_program,Result.andThen_ok,h1,h2,h3]
 simp
def Sys.fixedD(S:Sys)(m q:Nat)(v:Nat→Value)(d:Deferred)(X:List PanicEntry→List (Nat×AV)→Prop):Sys:={ S with M:=fun i=>Nat.blt i m||Nat.beq i q,v0:=v,D:=[d],X:=X }
theorem wp_defer{m q r:Nat}{g:Nat}{fn:Func}{c0 rest:Code}{id ty1 ty2:Nat}{pos1 pos2:String}{aft1 aft2:Array Edge}{xs9:List AV}{R:Ending→World→Prop}{vs:List Value}{w:World}{L:Nat→Lab}(X:List PanicEntry→List (Nat×AV)→Prop)(Q1:Sys→Exit→St→Prop)
  (hN:fn.ntmps=N) (hlen:Nat.ble xs9.length N=true) (hm:Nat.ble m xs9.length=true) (hrN:r<N) (hmr:m≤r) (hrq:r≠q) (hxq:xs9.length≤q) (I0:List (Nat×TV)) (hI:∀ σ':St,Has σ' I0→Has (σ'.put r .none) I0)
  (h0:∀ v0,CW (S.fixed m v0) N c0 (fun e σ'=>e=.normal∧Has σ' I0) (ofL (initL 0 xs9)))
  (h1:∀ v0 d,CW (S.fixedD m q v0 d X) N rest (Q1 (S.fixedD m q v0 d X)) (ofL I0))
  (hvs:vs.length=xs9.length) (hpre:Pre xs9.length L w) (hargs:∀ i x v,xs9[i]?=some x→vs[i]?=some v→Rep L w (some [i]) x v)
  (hend:∀ v1 v,(∀ i,i<xs9.length→v1 i=vs.getD i undef)→v1 q=v→OutC (S.fixedD m q v1 { target:=.fn (.func g) #[v],args:=#[] } X) N w L (Q1 (S.fixedD m q v1 { target:=.fn (.func g) #[v],args:=#[] } X)) (bodyPostD S.P fn R)) :
  (Code.seq c0 (.seq (.region id #[⟨some r,.makeFunc (.func g) #[] #[.tmp q],ty1,pos1,aft1,none⟩,⟨none,.defer ⟨.value (.tmp r),#[],#[]⟩,ty2,pos2,aft2,none⟩] false) rest)).wp S.P (bodyPostD S.P fn R) { tmps:=vs.toArray++Array.replicate (fn.ntmps-vs.toArray.size) undef,defers:=[] } w:=by
 have hlen':xs9.length≤N:=Nat.le_of_ble_eq_true hlen
 have hm':m≤xs9.length:=Nat.le_of_ble_eq_true hm
 rw [List.size_toArray,hvs,hN]
 have h0:=h0 fun i=>vs.getD i undef
 unfold CW at h0
 have hsize:(vs.toArray++Array.replicate (N-xs9.length) undef).size=N:=by simp [hvs];omega
 have hget:∀ i v,vs[i]?=some v→(vs.toArray++Array.replicate (N-xs9.length) undef).getD i undef=v:=fun i v hv=>by
  have hi:i<vs.length:=(List.getElem?_eq_some_iff.1 hv).1
  rw [Array.getD_eq_getD_getElem?,Array.getElem?_append_left (by simpa using hi)]
  simp [hv]
 refine wp_seq (h0 w L _ _ w ⟨fun e σ' a' w' ⟨he,hI'⟩ hR'=>?_,fun ch a' w' hd=>by obtain⟨_,_,hx,_⟩:=hd.dies;exact hx.elim⟩ ⟨L,rfl,hsize,⟨rfl,rfl,rfl,Nat.le_refl _,fun _ _ _=>rfl⟩,⟨hpre.lt,hpre.inj,fun b p hb hp=>?_,fun b p _ hb=>⟨p,hb⟩,fun b _=>Iff.rfl,hpre.new⟩,fun n hn=>?_,fun n hn=>?_,fun i hi=>?_,hpre.glob⟩)
 ·subst he
  show(Code.seq _ rest).wp S.P _ a' w'
  obtain⟨L1,hR1⟩:=hR'
  obtain⟨v,hv⟩:∃ v,v=a'.tmps.getD q undef:=⟨_,rfl⟩
  have hdr:DOk (S.fixed m fun i=>vs.getD i undef) N r:=⟨hrN,by show Nat.blt r m=false;cases hb:Nat.blt r m with|false=>rfl|true=>simp [Nat.blt] at hb;omega⟩
  have hR2:=hR1.put (tv:=.none) (v:=.func (.func g) #[] #[v]) hdr trivial
  refine wp_seq (wp_region_lit (l:=[⟨some r,.makeFunc (.func g) #[] #[.tmp q],ty1,pos1,aft1,none⟩,⟨none,.defer ⟨.value (.tmp r),#[],#[]⟩,ty2,pos2,aft2,none⟩]) ?_)
  have e1:(execOp a'.eval ⟨some r,.makeFunc (.func g) #[] #[.tmp q],ty1,pos1,aft1,none⟩).run S.P w'=.ok (.value (.func (.func g) #[] #[v])) w':=by
   simp [execOp,Instr.makeFunc,Act.eval,hv]
  have er:(a'.put (some r) (.func (.func g) #[] #[v])).tmps.getD r undef=.func (.func g) #[] #[v]:=getD_set_same (by rw [hR1.size];exact hrN)
  have e2:(execOp (a'.put (some r) (.func (.func g) #[] #[v])).eval ⟨none,.defer ⟨.value (.tmp r),#[],#[]⟩,ty2,pos2,aft2,none⟩).run S.P w'=.ok (.defer { target:=.fn (.func g) #[v],args:=#[] }) w':=by
   have:(a'.put (some r) (.func (.func g) #[] #[v])).eval (.tmp r)=.func (.func g) #[] #[v]:=er
   simp [execOp,resolve,this,Deferred.ofValue]
  simp only [wpList,Region.wanted,if_true]
  refine .inl ?_
  unfold Oper.wp
  rw [e1,Oper.upon_value]
  refine .inl ?_
  rw [e2,Oper.upon_defer]
  have h1:=h1 (fun i=>if i=q then v else vs.getD i undef) { target:=.fn (.func g) #[v],args:=#[] }
  unfold CW at h1
  refine h1 w L _ _ w' (hend _ v (fun i hi=>if_neg (by omega)) (if_pos rfl)) ⟨clear r L1,?_,hR2.size,hR2.keep,hR2.lok,fun n hn=>?_,fun n hn=>?_,fun i hi=>?_,hR2.glob⟩
  ·show _::_=[_]
   rw [show(a'.put (some r) (.func (.func g) #[] #[v])).defers=[] from hR2.defers]
  ·rcases has_weaken (hI σ' hI') n with h|h
   ·rw [h];exact hR2.hold n hn
   ·rw [h];trivial
  ·rcases has_weaken (hI σ' hI') n with h|h
   ·rw [h];exact hR2.out n hn
   ·exact h
  ·have hi:(Nat.blt i m||Nat.beq i q)=true:=hi
   show(a'.put (some r) (.func (.func g) #[] #[v])).tmps.getD i undef=if i=q then v else vs.getD i undef
   by_cases hiq:i=q
   ·subst hiq
    rw [if_pos rfl,show(a'.put (some r) (.func (.func g) #[] #[v])).tmps.getD i undef=a'.tmps.getD i undef from getD_set_other hrq,hv]
   ·rw [if_neg hiq]
    rw [not_beq hiq,Bool.or_false] at hi
    exact hR2.fix i hi
 ·subst hp
  obtain⟨i,q,h,_⟩:=hpre.head b [] hb
  cases h
 ·rw [get_initL xs9 0 n,if_pos (Nat.zero_le _),Nat.sub_zero]
  cases hx:xs9[n]? with
  | none=>trivial
  | some x =>
   have hn':n<vs.length:=by rw [hvs];exact(List.getElem?_eq_some_iff.1 hx).1
   simp only [Hold]
   rw [hget n vs[n] (List.getElem?_eq_getElem hn')]
   exact hargs n x _ hx (List.getElem?_eq_getElem hn')
 ·rw [get_initL xs9 0 n,if_pos (Nat.zero_le _),Nat.sub_zero,List.getElem?_eq_none (by omega)]
 ·have hml:i<xs9.length:=by
   have:Nat.blt i m=true:=hi
   simp [Nat.blt] at this;omega
  have hi':i<vs.length:=by omega
  rw [hget i vs[i] (List.getElem?_eq_getElem hi')]
  show vs[i]=vs.getD i undef
  simp [List.getD_eq_getElem?_getD,hi']
section
variable {m q r:Nat} {f g:Nat} {fn:Func} {c0 rest:Code} {id ty1 ty2:Nat} {pos1 pos2:String} {aft1 aft2:Array Edge} {rvs:List ResultVar}
theorem FnSpec.enterD {xs9 xs9':List AV} {res:AV} (hf:S.P.funcs[f]?=some fn) (hb:fn.body=some (.seq c0 (.seq (.region id #[⟨some r,.makeFunc (.func g) #[] #[.tmp q],ty1,pos1,aft1,none⟩,⟨none,.defer ⟨.value (.tmp r),#[],#[]⟩,ty2,pos2,aft2,none⟩] false) rest))) (hname:(fn.name == "runtime.NumGoroutine")=false) (hr:fn.results=rvs.toArray) (hN:fn.ntmps=N)
  (hlen:Nat.ble xs9.length N=true) (hidx:idxOk (rvs.map ResultVar.slot)=true) (hge:(rvs.map ResultVar.slot).all (fun t=>Nat.ble xs9.length t)=true) (hm:Nat.ble m xs9.length=true) (hrN:r<N) (hmr:m≤r) (hrq:r≠q) (hxq:xs9.length≤q) (hg:FnOk S.P g) (I0:List (Nat×TV)) (hI:∀ σ':St,Has σ' I0→Has (σ'.put r .none) I0)
  (h0:∀ v0,CW (S.fixed m v0) N c0 (fun e σ'=>e=.normal∧Has σ' I0) (ofL (initL 0 xs9)))
  (h1:∀ v0 d,CW (S.fixedD m q v0 d fun _ _=>False) N rest (Ret (S.fixedD m q v0 d fun _ _=>False) rvs xs9 xs9' res) (ofL I0))
  (hR:∀ v w,CallsD S.P g #[v] .returning w fun e u' w'=>u'=.returning∧(∃ x,e=.returned x)∧Ext w w'):FnSpec S.P f xs9 xs9' res:=by
 refine⟨⟨fn,hf,hname,by rw [hb];rfl⟩,fun w L vs hvs hpre hargs=>calls_of_wp_defers hf hb ?_⟩
 refine wp_defer (fun _ _=>False) (fun S'=>Ret S' rvs xs9 xs9' res) hN hlen hm hrN hmr hrq hxq I0 hI h0 h1 hvs hpre hargs fun v1 v hv1 hvq=>⟨fun e σ' a' w' hret hR3=>?_,fun ch a' w' hd=>by obtain⟨_,_,hx,_⟩:=hd.dies;exact hx.elim⟩
 suffices hk:Leaves S.P fn a'.tmps (fun e w'=>∃ v L',e=.returned v∧Back xs9.length xs9' res L w vs v w' L') a'.defers .returning w' by
  have:=hret.1
  cases e with
  | ret=>exact hk
  | normal=>exact hk
  | _=>cases this
 have hR3c:=hR3
 obtain⟨L3,hR3'⟩:=hR3c
 rw [hR3'.defers]
 refine leaves_cons (f:=g) (args:=#[v]) (by simp) (run_invoke hg v w') ((hR v w').mono ?_)
 rintro e' u' w4 ⟨rfl,⟨x,rfl⟩,hext⟩
 show Leaves S.P fn a'.tmps _ [] .returning w4
 obtain⟨val,L',hval,hB⟩:=ret_back (hR3.ext hext) hr hret hvs (Nat.le_of_ble_eq_true hlen) (fun i hi _=>hv1 i hi) hargs hidx hge (tmps:=a'.tmps) (fun _ _=>rfl)
 exact⟨val,hval,val,L',rfl,hB⟩
theorem FnSpec.enterDX {x y:AV} {rest9:List AV} {res:AV} {ch:List PanicEntry} {cs1 cs2:List AV} (hf:S.P.funcs[f]?=some fn) (hb:fn.body=some (.seq c0 (.seq (.region id #[⟨some r,.makeFunc (.func g) #[] #[.tmp q],ty1,pos1,aft1,none⟩,⟨none,.defer ⟨.value (.tmp r),#[],#[]⟩,ty2,pos2,aft2,none⟩] false) rest))) (hname:(fn.name == "runtime.NumGoroutine")=false) (hr:fn.results=rvs.toArray) (hN:fn.ntmps=N)
  (hlen:Nat.ble (x::rest9).length N=true) (hidx:idxOk (rvs.map ResultVar.slot)=true) (hge:(rvs.map ResultVar.slot).all (fun t=>Nat.ble (x::rest9).length t)=true) (hrN:r<N) (hmr:1≤r) (hrq:r≠q) (hqN:q<N) (hxq:(x::rest9).length≤q) (hrs:∀ rv∈rvs,r≠ResultVar.slot rv) (hg:FnOk S.P g) (I0:List (Nat×TV)) (hI:∀ σ':St,Has σ' I0→Has (σ'.put r .none) I0)
  (h0:∀ v0,CW (S.fixed 1 v0) N c0 (fun e σ'=>e=.normal∧Has σ' I0) (ofL (initL 0 (x::rest9))))
  (h1:∀ v0 d,CW (S.fixedD 1 q v0 d fun c p=>c=ch∧p=[(0,y),(q,.pt true cs1)]) N rest (fun _ _=>False) (ofL I0))
  (hret:∀ v0 d,Ret (S.fixedD 1 q v0 d fun c p=>c=ch∧p=[(0,y),(q,.pt true cs1)]) rvs (x::rest9) (y::rest9) res .ret (putM [(q,0)] [.pt true cs2] ((ofL [(0,.av y),(q,.av (.pt true cs1))]).put r (.av .dead)))) (hns:NoSh (.pt true cs2))
  (hP:∀ (v:Value) (w:World) (L:Nat→Lab),Pre 1 L w→Rep L w (some [0]) (.pt true cs1) v→CallsD S.P g #[v] (.panicking ch) w fun e u' w'=>settle u'=.returning∧∃ x L',e=.returned x∧Back 1 [.pt true cs2] .dead L w [v] x w' L'):FnSpec S.P f (x::rest9) (y::rest9) res:=by
 have hlen':=Nat.le_of_ble_eq_true hlen
 have hq0:q≠0:=by simp only [List.length_cons] at hxq;omega
 refine⟨⟨fn,hf,hname,by rw [hb];rfl⟩,fun w L vs hvs hpre hargs=>calls_of_wp_defers hf hb ?_⟩
 refine wp_defer (m:=1) (fun c p=>c=ch∧p=[(0,y),(q,.pt true cs1)]) (fun _ _ _=>False) hN hlen (by simp) hrN hmr hrq hxq I0 hI h0 h1 hvs hpre hargs fun v1 v hv1 hvq=>⟨fun e σ' a' w' hret hR3=>hret.elim,fun ch' a' w' hd=>?_⟩
 obtain⟨hdf,hsz,hfix,L3,ps,⟨hc,hp⟩,hk,hlk,hreps⟩:=hd
 subst hc;subst hp
 show Leaves S.P fn a'.tmps _ a'.defers (.panicking ch') w'
 rw [hdf]
 have f0:=hfix 0 (by rfl)
 have fq:=hfix q (by show(Nat.blt q 1||Nat.beq q q)=true;rw [Nat.beq_refl,Bool.or_true])
 have r0:=hreps (0,y) (List.mem_cons_self ..)
 have rq:=hreps (q,.pt true cs1) (List.mem_cons_of_mem _ (List.mem_cons_self ..))
 have g0:FM.get (ofL [(0,.av y),(q,.av (.pt true cs1))]) 0=.av y:=by simp [ofL,FM.get,Nat.beq_refl]
 have gq:FM.get (ofL [(0,.av y),(q,.av (.pt true cs1))]) q=.av (.pt true cs1):=by simp [ofL,FM.get,not_beq (fun e=>hq0 e.symm:(0:Nat)≠q),Nat.beq_refl,TV.kill]
 have gn:∀ n,n≠0→n≠q→FM.get (ofL [(0,.av y),(q,.av (.pt true cs1))]) n=.none:=fun n h1 h2=>by simp [ofL,FM.get,not_beq (fun e=>h1 e.symm:(0:Nat)≠n),not_beq (fun e=>h2 e.symm:q≠n),TV.kill]
 have hRP:RelL (S.fixedD 1 q v1 { target:=.fn (.func g) #[v],args:=#[] } fun c p=>c=ch'∧p=[(0,y),(q,.pt true cs1)]) w L N (ofL [(0,.av y),(q,.av (.pt true cs1))]) a' w' L3 :=
  ⟨hdf,hsz,hk,hlk,fun n hn=>by
   by_cases e0:n=0
   ·subst e0;rw [g0];simp only [Hold];rw [f0];exact r0
   ·by_cases eq:n=q
    ·subst eq;rw [gq];simp only [Hold];rw [fq];exact rq
    ·rw [gn n e0 eq];trivial,fun n hn=>gn n (by omega) (by omega),hfix,hpre.glob⟩
 have hvq':a'.tmps.getD q undef=v:=fq.trans hvq
 have hms:MOk r 1 [(q,0)]:=.one (not_beq (fun e=>hrq e.symm)) rfl
 have harg:ArgM (S.fixedD 1 q v1 { target:=.fn (.func g) #[v],args:=#[] } fun c p=>c=ch'∧p=[(0,y),(q,.pt true cs1)]) N (ofL [(0,.av y),(q,.av (.pt true cs1))]) [(q,0)] 0 (.tmp q) (.pt true cs1):=.mu (s:=q) (by unfold slotAt;simp only [gq]) gq (by simp [idxM,Nat.beq_refl])
 have hrep:=harg.rep hRP
 rw [show a'.eval (.tmp q)=v from hvq'] at hrep
 refine leaves_cons (f:=g) (args:=#[v]) (by simp) (run_invoke hg v w') ((hP v w' (inM [(q,0)] L3) ⟨fun b p hb=>?_,fun b p hb=>?_,fun b b' p hb hb'=>?_,fun b hge hf=>?_,hRP.globNow.move (Nat.le_refl _) fun b _ h=>⟨inM_sh h,rfl⟩⟩ hrep).mono ?_)
 ·obtain⟨t,i,q,h3,_,_⟩:=inM_my hb;exact hRP.lok.lt b _ h3
 ·obtain⟨t,i,q,_,h3,h4⟩:=inM_my hb;exact⟨i,q,h4,hms.lt _ _ h3⟩
 ·obtain⟨t,i,q,h3,h4,h5⟩:=inM_my hb
  obtain⟨t',i',q',h3',h4',h5'⟩:=inM_my hb'
  rw [h5] at h5';cases h5'
  have e1:=hms.inv _ _ h4
  have e2:=hms.inv _ _ h4'
  rw [e1] at e2;cases e2
  exact hRP.lok.inj _ _ _ h3 h3'
 ·have:=inM_fo.1 hf
  exact hRP.lok.new b (Nat.le_trans hRP.keep.size hge) this
 ·rintro e' u' w4 ⟨hset,xv,L4,rfl,hB⟩
  show Leaves S.P fn a'.tmps _ [] (settle u') w4
  rw [hset]
  have hR4:=after_callM hRP (d:=r) ⟨hrN,by show(Nat.blt r 1||Nat.beq r q)=false;rw [not_beq hrq,Bool.or_false];cases hb:Nat.blt r 1 with|false=>rfl|true=>simp [Nat.blt] at hb;omega⟩ hms hB .dead fun s i hi=>by
   simp only [idxM] at hi
   cases hb:Nat.beq q s with
   | true =>
    rw [hb,cond_true] at hi;injection hi with hi;subst hi
    have:=Nat.eq_of_beq_eq_true hb;subst this
    exact⟨hqN,by rw [hvq'];rfl,_,rfl,hns⟩
   | false=>rw [hb,cond_false] at hi;cases hi
  obtain⟨val,L',hval,hB'⟩:=ret_back hR4 hr (hret v1 _) hvs hlen' (fun i hi _=>hv1 i hi) hargs hidx hge (tmps:=a'.tmps) (fun rv hrv=>(getD_set_other (hrs rv hrv)).symm)
  exact⟨val,hval,val,L',rfl,hB'⟩
end
section
variable {d ty:Nat} {pos:String} {aft:Array Edge} {gd:Option (Nat×Bool)} {m q:Nat} {v0:Nat→Value} {d0:Deferred} {ch:List PanicEntry} {y:AV} {cs1:List AV} {f:Nat} {ops:Array Oper} {l:List Oper} {K:St→Prop} {ts:Array Nat}
theorem J.dieH{x x':AV}{rest:List AV}{ps:List (Nat×AV)}{s:Nat}{op:Operand}{xs:List Operand}(hs:FnDies S.P f (x::rest) (x'::rest) ch)(hg:live ops gd σ=some true)
  (h1:slotAt σ op=some s) (h2:FM.get σ s=.av x) (h3:Nat.beq s d=false) (ha:ArgsOk S N σ xs false rest) (hX:S.X ch ps) (hps:∀ p∈ps,S.M p.1=true∧FM.get ((σ.put d (.av .dead)).put s (.av x')) p.1=.av p.2) :
  J false S N ops (⟨some d,.call ⟨.value (.func f),(op::xs).toArray,ts⟩,ty,pos,aft,gd⟩::l) K σ:=by
 unfold J at *
 intro hdo w0 L0 Q a w hQ hR
 obtain⟨g1,g2⟩:=dstOk_cons hdo
 have hd:=g1 d rfl
 have hw:=live_wanted (o:=⟨some d,.call ⟨.value (.func f),(op::xs).toArray,ts⟩,ty,pos,aft,gd⟩) hg hR
 simp only [wpList,hw,if_true]
 refine .inl ?_
 unfold Oper.wp
 rw [run_call (xs:=op::xs) hs.ok rfl rfl w,Oper.upon_enter]
 obtain⟨L,hR⟩:=hR
 have hlen:=ha.length
 have hms:MOk d (xs.length+1) [(s,0)]:=.one h3 (by simp [Nat.blt])
 have hi0:idxM [(s,0)] s=some 0:=by simp [idxM,Nat.beq_refl]
 have mem:∀ {s' i:Nat},idxM [(s,0)] s'=some i→s'=s∧i=0:=fun{s' i} hi=>by
  simp only [idxM] at hi
  cases hb:Nat.beq s s' with
  | true=>rw [hb,cond_true] at hi;injection hi with hi;exact⟨(Nat.eq_of_beq_eq_true hb).symm,hi.symm⟩
  | false=>rw [hb,cond_false] at hi;cases hi
 obtain⟨e1,e2,e3⟩:=slotAt_ev h1 h2 hR
 have hcalls:=hs.calls w (inH [(s,0)] L) ((op::xs).map a.eval) (by rw [List.length_map,List.length_cons,List.length_cons,hlen])
 rw [show(x::rest).length=xs.length+1 by rw [List.length_cons,hlen]] at hcalls
 refine(hcalls ⟨fun b p hb=>?_,fun b p hb=>?_,fun b b' p hb hb'=>?_,fun b hge hf=>?_,hR.globNow.move (Nat.le_refl _) fun b _ h=>⟨inH_sh h,rfl⟩⟩ (fun i y v hy hv=>?_)).mono fun e w' ⟨L',he,hB⟩=>?_
 ·obtain⟨t,i,q,h3,_,_⟩:=inH_my hb;exact hR.lok.lt b _ h3
 ·obtain⟨t,i,q,_,h3,h4⟩:=inH_my hb;exact⟨i,q,h4,hms.lt _ _ h3⟩
 ·obtain⟨t,i,q,h3,h4,h5⟩:=inH_my hb
  obtain⟨t',i',q',h3',h4',h5'⟩:=inH_my hb'
  rw [h5] at h5';cases h5'
  have e1:=hms.inv _ _ h4
  have e2:=hms.inv _ _ h4'
  rw [e1] at e2;cases e2
  exact hR.lok.inj _ _ _ h3 h3'
 ·rcases inH_fo' hf with h|⟨p,h⟩
  ·exact hR.lok.new b (Nat.le_trans hR.keep.size hge) h
  ·have:=hR.lok.lt b _ h;omega
 ·cases i with
  | zero =>
   simp only [List.map_cons,List.getElem?_cons_zero,Option.some.injEq] at hy hv
   subst hy;subst hv
   exact e3.frame (Nat.le_refl _) rfl rfl rfl (fun b hb _=>⟨inH_sh hb,rfl⟩) _ fun p hp=>by
    cases hp
    exact⟨[0],rfl,fun b q hb=>⟨inH_to hb hi0,rfl⟩⟩
  | succ i =>
   simp only [List.map_cons,List.getElem?_cons_succ,List.getElem?_map,Option.map_eq_some_iff] at hy hv
   obtain⟨z,hz,rfl⟩:=hv
   obtain⟨c,h5,h6⟩:=ha.get i z y hz hy
   have hc:=h6 rfl
   subst hc
   exact(h5.readS hR fun b _ hb=>inH_sh hb).any _
 ·subst he
  have hB':Back (xs.length+1) (x'::rest) .dead (inH [(s,0)] L) w ((op::xs).map a.eval) undef w' L':=⟨hB.keep,hB.lok,hB.head,hB.args,.dead⟩
  refine hQ.die ch a w' ⟨hR.defers,hR.size,hR.fix,(after_callH hR hd hms hB' fun s' i hi=>?_).dies hX hps⟩
  obtain⟨rfl,rfl⟩:=mem hi
  exact⟨e1,by simp [e2],x',rfl⟩
theorem J.dieD{x0:AV}{rest9:List AV}{op:Operand}{xs:List Operand}(hs:FnDies S.P f (x0::rest9) (y::rest9) ch)(hg:live ops gd σ=some true)(h1:slotAt σ op=some 0)(h2:FM.get σ 0=.av x0)(h3:Nat.beq 0 d=false)(ha:ArgsOk (S.fixedD 1 q v0 d0 fun c p=>c=ch∧p=[(0,y),(q,.pt true cs1)]) N σ xs false rest9)
  (h4:FM.get ((σ.put d (.av .dead)).put 0 (.av y)) q=.av (.pt true cs1)):J false (S.fixedD 1 q v0 d0 fun c p=>c=ch∧p=[(0,y),(q,.pt true cs1)]) N ops (⟨some d,.call ⟨.value (.func f),(op::xs).toArray,ts⟩,ty,pos,aft,gd⟩::l) K σ:=by
 refine J.dieH (S:=S.fixedD 1 q v0 d0 fun c p=>c=ch∧p=[(0,y),(q,.pt true cs1)]) hs hg h1 h2 h3 ha (ps:=[(0,y),(q,.pt true cs1)]) ⟨rfl,rfl⟩ fun p hp=>?_
 rcases List.mem_cons.1 hp with rfl|hp
 ·exact⟨rfl,by simp [FM.get,Nat.beq_refl]⟩
 ·rw [List.mem_singleton.1 hp]
  exact⟨by show(Nat.blt q 1||Nat.beq q q)=true;rw [Nat.beq_refl,Bool.or_true],h4⟩
theorem J.dieD0{xs9:List AV}{xs:List Operand}(hs:FnDies S.P f xs9 xs9 ch)(hg:live ops gd σ=some true)(ha:ArgsM (S.fixedD 1 q v0 d0 fun c p=>c=ch∧p=[(0,y),(q,.pt true cs1)]) N σ [] 0 xs xs9)(h2:FM.get (σ.put d (.av .dead)) 0=.av y)(h4:FM.get (σ.put d (.av .dead)) q=.av (.pt true cs1)) :
  J false (S.fixedD 1 q v0 d0 fun c p=>c=ch∧p=[(0,y),(q,.pt true cs1)]) N ops (⟨some d,.call ⟨.value (.func f),xs.toArray,ts⟩,ty,pos,aft,gd⟩::l) K σ :=
 J.die (S:=S.fixedD 1 q v0 d0 fun c p=>c=ch∧p=[(0,y),(q,.pt true cs1)]) hs hg ha (ps:=[(0,y),(q,.pt true cs1)]) ⟨rfl,rfl⟩ fun p hp=>by
  rcases List.mem_cons.1 hp with rfl|hp
  ·exact⟨rfl,h2⟩
  ·rw [List.mem_singleton.1 hp]
   exact⟨by show(Nat.blt q 1||Nat.beq q q)=true;rw [Nat.beq_refl,Bool.or_true],h4⟩
end
end
section
variable {S:Sys} {σ:St} {d:Nat} {ty:Nat} {pos:String} {aft:Array Edge} {g:Option (Nat×Bool)}
theorem s_neqIf{t t2 it:Nat}{iv:Value}{x y:Operand}(hI:∃ ms,S.P.underlying t=some (.interface ms))(hx:ov σ x=.av (.val (.iface it iv)))(hy:ov σ y=.av (.val .nilIface)):Step S ⟨some d,.binOp .neq t x y t2,ty,pos,aft,g⟩ σ (σ.put d (.av (.bool true))) :=
 s_binV hx hy rfl ⟨.bool true,fun _ _=>.bool,fun w=>by
  obtain⟨ms,hT⟩:=hI
  have e:(Op.equal t (.iface it iv) .nilIface).run S.P w=.ok false w:=by
   show(Op.equalIn (9999+1) t (.iface it iv) .nilIface).run S.P w=_
   unfold Op.equalIn
   rw [Sem.run_bind,run_underlying hT,Result.andThen_ok]
   rfl
  have e2:(binOp .neq t (.iface it iv) .nilIface).run S.P w=.ok (.bool true) w:=by
   show(do pure (.bool (!(← Op.equal t (.iface it iv) .nilIface))):Sem Value).run S.P w=_
   rw [Sem.run_bind,e];rfl
  simp only [eqGuard,Sem.run_bind]
  simp [e2]⟩
theorem s_asrt{t at_ sz by_:Nat}{fs:List (Nat×Nat)}{zz:List AV}{e:Int}{x:Operand}(hT:S.T at_=some ⟨.struct fs,sz,by_,zz⟩)(hx:ov σ x=.av (.val (.iface at_ (.agg #[.int .i64 e])))):Step S ⟨some d,.typeAssert x t at_ false,ty,pos,aft,g⟩ σ (σ.put d (.av (.agg [.int e]))) :=
 step_val rfl fun w0 L0 N A w L hR=>⟨.agg #[.int .i64 e],fun w' _=>by
  obtain⟨dd,hd,fields,hde,hfl⟩:=(S.ok at_ _ hT).desc
  subst hde
  have hx':=ev_val hR hx
  simp [execOp,hx',Instr.typeAssert,run_underlying hd,Result.andThen_ok],.agg rfl fun i x v hx hv=>by
   match i with
   | 0=>simp only [List.getElem?_cons_zero,Option.some.injEq] at hx hv;subst hx;subst hv;exact .int
   | i+1=>simp at hx⟩
theorem s_fld1{t sz by_ fty:Nat}{zz:List AV}{tif:TI}{e:Int}{x:Operand}(hT:S.T t=some ⟨.struct [(0,fty)],sz,by_,zz⟩)(hF:S.T fty=some tif)(ha:tif.k.isAgg=false)(hx:ov σ x=.av (.agg [.int e])):Step S ⟨some d,.field t x 0,ty,pos,aft,g⟩ σ (σ.put d (.av (.int e))) :=
 step_val rfl fun w0 L0 N A w L hR=>⟨.int .i64 e,fun w' _=>by
  obtain⟨fields,f,hu,hfi,h2,h3⟩:=(S.ok t _ hT).fld (i:=0) rfl
  have hx':=rep_agg1 (ev_av hR hx).choose_spec
  have hag:=isAgg_of (S.ok fty _ hF) w'
  rw [← h3] at hag
  rw [ha] at hag
  simp [execOp,hx',Instr.field,run_underlying hu,hfi,h2,part,asAgg,hag,Result.andThen_ok],.int⟩
end
theorem CW.run{S:Sys}{N:Nat}{σ:St}{c:Code}{Q:Exit→St→Prop}{w0:World}{L0:Nat→Lab}{Q':Exit→Act→World→Prop}{a:Act}{w:World}(h:CW S N c Q σ)(hQ:OutC S N w0 L0 Q Q')(hR:Rel S w0 L0 N σ a w):c.wp S.P Q' a w:=by
 unfold CW at h;exact h w0 L0 Q' a w hQ hR
end FM
namespace Go.Proofs.YtkkcnppgcnmikaaGreatDoor
open Go FM Go.Proofs
set_option maxRecDepth 10000
set_option maxHeartbeats 3200000
set_option linter.all false
theorem run_rec{P:Program}{ρ:Operand→Value}{d:Option Nat}{ty:Nat}{pos:String}{aft:Array Edge}{g:Option (Nat×Bool)}(w:World):(execOp ρ ⟨d,.call ⟨.builtin .recover,#[],#[]⟩,ty,pos,aft,g⟩).run P w=.ok .recover w:=by
 simp [execOp,resolve,invoke,builtin]
theorem run_asg{P:Program}{ρ:Operand→Value}{x:Operand}{d:Option Nat}{ty:Nat}{pos:String}{aft:Array Edge}{g:Option (Nat×Bool)}(w:World):(execOp ρ ⟨d,.assign x,ty,pos,aft,g⟩).run P w=.ok (.value (ρ x)) w:=by
 simp [execOp]
theorem run_mov{P:Program}{ρ:Operand→Value}{x:Operand}{d:Option Nat}{ty:Nat}{pos:String}{aft:Array Edge}{g:Option (Nat×Bool)}(w:World):(execOp ρ ⟨d,.move x,ty,pos,aft,g⟩).run P w=.ok (.value (ρ x)) w:=by
 simp [execOp]
theorem run_neqNil{P:Program}{ρ:Operand→Value}{t t2:Nat}{x:Operand}{d:Option Nat}{ty:Nat}{pos:String}{aft:Array Edge}{g:Option (Nat×Bool)}(hI:∃ ms,P.underlying t=some (.interface ms))(hx:ρ x=.nilIface)(hy:ρ (.const .nilIface)=.nilIface)(w:World):(execOp ρ ⟨d,.binOp .neq t x (.const .nilIface) t2,ty,pos,aft,g⟩).run P w=.ok (.value (.bool false)) w:=by
 obtain⟨ms,hT⟩:=hI
 have e:(Op.equal t .nilIface .nilIface).run P w=.ok true w:=by
  show(Op.equalIn (9999+1) t .nilIface .nilIface).run P w=_
  unfold Op.equalIn
  rw [Sem.run_bind,run_underlying hT,Result.andThen_ok]
  rfl
 have e2:(binOp .neq t .nilIface .nilIface).run P w=.ok (.bool false) w:=by
  show(do pure (.bool (!(← Op.equal t .nilIface .nilIface))):Sem Value).run P w=_
  rw [Sem.run_bind,e];rfl
 simp only [execOp,hx,hy,eqGuard,Sem.run_bind]
 simp [e2]
theorem clo_ok:FnOk Sy.P 92:=⟨_,Tryz.func92,rfl,rfl⟩
theorem clo_ret(v:Value)(w:World):CallsD Sy.P 92 #[v] .returning w fun e u' w'=>u'=.returning∧(∃ x,e=.returned x)∧Ext w w':=by
 refine callsD_of_wpS Tryz.func92 rfl fun c₀ cs hu=>?_
 refine wpS_seq (wpS_region ?_)
 show wpOpsS _ _ _ [0,1] _ _ _
 have hrec:recoverD (c₀::cs)=none:=by simp only [recoverD,hu]
 simp [wpOpsS,run_rec,run_asg,hrec,Region.wanted,Oper.upon,Act.put,Act.eval,Exit.thenS]
 refine wpS_of_wp (wp_seq (wp_region_lit ?_))
 simp only [wpList,Region.wanted,if_true]
 refine .inl ?_
 unfold Oper.wp
 rw [run_mov,Oper.upon_value]
 refine .inl ?_
 rw [run_neqNil (P:=Sy.P) ⟨_,Tryz.underlying20⟩ rfl rfl,Oper.upon_value]
 refine wp_cond_false rfl (wp_skip ?_)
 exact⟨rfl,.returning,by rw [← hu],_,results_none rfl _ _ _,rfl,⟨_,rfl⟩,Ext.refl w⟩
theorem clo_die(e:Int)(he:0≤e∧e≤100)(v:Value)(w:World)(L:Nat→Lab)(hpre:Pre 1 L w)(hrep:Rep L w (some [0]) (.pt true [.str []]) v):CallsD Sy.P 92 #[v] (.panicking (refd e)) w fun e' u' w'=>settle u'=.returning∧∃ x L',e'=.returned x∧Back 1 [.pt true [.str (rfS e)]] .dead L w [v] x w' L':=by
 have hIt:=itoa_spec e (by omega) (by omega)
 have hil:=itoa_len9 e he.1 (by omega)
 refine callsD_of_wpS Tryz.func92 rfl fun c₀ cs hu=>?_
 refine wpS_seq (wpS_region ?_)
 show wpOpsS _ _ _ [0,1] _ _ _
 have hrec:recoverD (c₀::cs)=some (.iface 144 (.agg #[.int .i64 e]),{ c₀ with mode:=.panicking [{ v:=.iface 144 (.agg #[.int .i64 e]),recovered:=true }] }::cs):=by simp only [recoverD,hu,refd]
 simp [wpOpsS,run_rec,run_asg,hrec,Region.wanted,Oper.upon,Act.put,Act.eval,Exit.thenS]
 refine wpS_of_wp ?_
 refine CW.run (S:=Sy.fixed 1 fun _=>v) (N:=10) (Q:=Ret (Sy.fixed 1 fun _=>v) [] [.pt true [.str []]] [.pt true [.str (rfS e)]] (.tup [])) (σ:=ofL [(0,.av (.pt true [.str []])),(1,.av (.val (.iface 144 (.agg #[.int .i64 e]))))]) (w0:=w) (L0:=L) ?_ ⟨fun e' σ' a' w' hret hR=>?_,fun ch a' w' hd=>by obtain⟨_,_,hx,_⟩:=hd.dies;exact hx.elim⟩ ⟨L,rfl,by simp,⟨rfl,rfl,rfl,Nat.le_refl _,fun _ _ _=>rfl⟩,⟨hpre.lt,hpre.inj,fun b p hb hp=>?_,fun b p _ hb=>⟨p,hb⟩,fun b _=>Iff.rfl,hpre.new⟩,fun n hn=>?_,fun n hn=>?_,fun i hi=>?_,hpre.glob⟩
 ·unfold rfS
  generalize Lib.itoa e=s at *
  repeat' first|((with_reducible apply J.step);rfl;(exact s_neqIf ⟨_,Tryz.underlying20⟩ rfl rfl))|refine w9S @s_asrt ?_|refine w9S @s_fld1 ?_|refine w9x ?_|refine w9p (hIt) ?_|fail
  all_goals exact w9e
 ·have hRc:=hR
  obtain⟨L3,hR'⟩:=hRc
  obtain⟨val,L',hval,hB⟩:=ret_back hR (fn:=Tryz.f92) (rvs:=[]) rfl hret (vs:=[v]) rfl (by decide) (fun i hi _=>by
   have:i=0:=by simp at hi;omega
   subst this;rfl) (fun i x v' hx hv=>by
   match i with
   | 0=>simp only [List.getElem?_cons_zero,Option.some.injEq] at hx hv;subst hx;subst hv;exact hrep
   | i+1=>simp at hx) rfl rfl (tmps:=a'.tmps) (fun _ _=>rfl)
  have hk:a'.defers=[]∧∃ u',({ c₀ with mode:=.panicking [{ v:=.iface 144 (.agg #[.int .i64 e]),recovered:=true }] }::cs:List Frame)={ c₀ with mode:=u' }::cs∧∃ v',(results Tryz.f92 a'.tmps).run Sy.P w'=.ok v' w'∧(settle u'=.returning∧∃ x,Ending.returned v'=.returned x∧∃ L',Back 1 [.pt true [.str (rfS e)]] .dead L w [v] x w' L') :=
   ⟨hR'.defers,_,rfl,val,hval,rfl,val,rfl,L',⟨hB.keep,hB.lok,hB.head,hB.args,.dead⟩⟩
  have:=hret.1
  cases e' with
  | ret=>exact hk
  | normal=>exact hk
  | _=>cases this
 ·subst hp
  obtain⟨i,q,h,_⟩:=hpre.head b [] hb
  cases h
 ·match n with
  | 0=>exact hrep
  | 1=>exact .val
  | n+2=>trivial
 ·match n,hn with
  | n+2,_=>rfl
 ·have:Nat.blt i 1=true:=hi
  have h0:i=0:=by simp [Nat.blt] at this;omega
  subst h0;rfl
end Go.Proofs.YtkkcnppgcnmikaaGreatDoor
