/- An abstract machine over the kit's rules, part 5: functions: what a call of one does; entering, returning, calling. -/
import Derived.Test.YtkkcnppgcnmikaaGreatDoorAae
namespace FM
open Go Go.RowKit
set_option linter.all false
structure FnOk(P:Program)(f:Nat):Prop where
 out:∃ fn,P.funcs[f]?=some fn∧(fn.name == "runtime.NumGoroutine")=false∧fn.body.isNone=false
structure Pre(n:Nat)(L:Nat→Lab)(w:World):Prop where
 lt:∀ b p,L b=.my p→b<w.heap.size
 head:∀ b p,L b=.my p→∃ i q,p=i::q∧i<n
 inj:∀ b b' p,L b=.my p→L b'=.my p→b=b'
 new:∀ b,w.heap.size≤b→L b≠.fo
 glob:Glob L w
structure Back(n:Nat)(xs9':List AV)(r:AV)(L:Nat→Lab)(w:World)(vs:List Value)(v:Value)(w':World)(L':Nat→Lab):Prop where
 keep:Keep L w w'
 lok:LOk L w L' w'
 head:∀ b p,L' b=.my p→∃ i q,p=i::q∧i≤n
 args:∀ i x u,xs9'[i]?=some x→vs[i]?=some u→Rep L' w' (some [i]) x u
 res:Rep L' w' (some [n]) r v
structure FnSpec(P:Program)(f:Nat)(xs9 xs9':List AV)(r:AV):Prop where
 ok:FnOk P f
 calls:∀ (w:World) (L:Nat→Lab) (vs:List Value),vs.length=xs9.length→Pre xs9.length L w→(∀ i x v,xs9[i]?=some x→vs[i]?=some v→Rep L w (some [i]) x v) →
  Calls P f vs.toArray w fun e w'=>∃ v L',e=.returned v∧Back xs9.length xs9' r L w vs v w' L'
def idx:List Nat→Nat→Option Nat
 | [],_=>none
 | a::r,t=>bif Nat.beq a t then some 0 else(idx r t).map (·+1)
theorem idx_spec:∀ {ts:List Nat} {t k:Nat},idx ts t=some k→ts[k]?=some t
 | [],_,_,h=>by simp [idx] at h
 | a::r,t,k,h=>by
  simp only [idx] at h
  cases hb:Nat.beq a t with
  | true=>rw [hb,cond_true] at h;injection h with h;subst h;simp [Nat.eq_of_beq_eq_true hb]
  | false =>
   rw [hb,cond_false,Option.map_eq_some_iff] at h
   obtain⟨k',h1,rfl⟩:=h
   simpa using idx_spec h1
def idxOk:List Nat→Bool
 | []=>true
 | a::r=>!(r.any fun b=>Nat.beq b a)&&idxOk r
theorem idx_of:∀ {ts:List Nat},idxOk ts=true→∀ {k t:Nat},ts[k]?=some t→idx ts t=some k
 | [],_,k,t,h=>by simp at h
 | a::r,hok,0,t,h=>by
  simp only [List.getElem?_cons_zero,Option.some.injEq] at h
  subst h
  simp [idx,Nat.beq_refl]
 | a::r,hok,k+1,t,h=>by
  simp only [List.getElem?_cons_succ] at h
  simp only [idxOk,Bool.and_eq_true,Bool.not_eq_true',List.any_eq_false] at hok
  have hne:Nat.beq a t=false:=by
   refine not_beq fun e=>?_
   subst e
   exact hok.1 a (List.mem_of_getElem? h) (Nat.beq_refl a)
  simp [idx,hne,idx_of hok.2 h]
def rho(n:Nat)(single:Bool)(ts:List Nat)(t:Nat):Option (List Nat) :=
 bif Nat.blt t n then some [t] else(idx ts t).map fun k=>bif single then [n] else [n,k]
def relab(ρ:Nat→Option (List Nat))(L:Nat→Lab):Nat→Lab:=fun b =>
 match L b with
 | .my (t::q)=>match ρ t with
  | some p=>.my (p++q)
  | none=>.sh
 | .my []=>.sh
 | l=>l
theorem relab_my{ρ:Nat→Option (List Nat)}{L:Nat→Lab}{b:Nat}{p:List Nat}(h:relab ρ L b=.my p):∃ t q p',L b=.my (t::q)∧ρ t=some p'∧p=p'++q:=by
 simp only [relab] at h
 cases hL:L b with
 | my p0 =>
  rw [hL] at h
  cases p0 with
  | nil=>cases h
  | cons t q =>
   simp only at h
   cases hρ:ρ t with
   | none=>rw [hρ] at h;cases h
   | some p'=>rw [hρ] at h;injection h with h;exact⟨t,q,p',rfl,hρ,h.symm⟩
 | sh=>rw [hL] at h;cases h
 | fo=>rw [hL] at h;cases h
theorem relab_to{ρ:Nat→Option (List Nat)}{L:Nat→Lab}{b t:Nat}{q p:List Nat}(h:L b=.my (t::q))(hρ:ρ t=some p):relab ρ L b=.my (p++q):=by
 simp only [relab,h,hρ]
theorem relab_sh{ρ:Nat→Option (List Nat)}{L:Nat→Lab}{b:Nat}(h:L b=.sh):relab ρ L b=.sh:=by simp only [relab,h]
theorem relab_fo{ρ:Nat→Option (List Nat)}{L:Nat→Lab}{b:Nat}:relab ρ L b=.fo↔L b=.fo:=by
 simp only [relab]
 cases hL:L b with
 | my p=>cases p with
  | nil=>simp
  | cons t q=>simp only;cases ρ t<;>simp
 | _=>simp
theorem LOk.relab{L0 L:Nat→Lab}{w0 w:World}(h:LOk L0 w0 L w){ρ:Nat→Option (List Nat)}(hne:∀ t p,ρ t=some p→p≠[])
  (hρ:∀ t t' p p' q q',ρ t=some p→ρ t'=some p'→p++q=p'++q'→t=t'∧q=q'):LOk L0 w0 (FM.relab ρ L) w where
 lt b p hb:=by obtain⟨t,q,p',h1,_,_⟩:=relab_my hb;exact h.lt b _ h1
 inj b b' p hb hb':=by
  obtain⟨t,q,p1,h1,h2,h3⟩:=relab_my hb
  obtain⟨t',q',p1',h1',h2',h3'⟩:=relab_my hb'
  obtain⟨rfl,rfl⟩:=hρ t t' p1 p1' q q' h2 h2' (h3.symm.trans h3')
  exact h.inj _ _ _ h1 h1'
 head b p hb:=by
  obtain⟨t,q,p1,h1,h2,h3⟩:=relab_my hb
  subst h3
  have:=hne t p1 h2
  simp [this]
 old b p hlt hb:=by obtain⟨t,q,p',h1,_,_⟩:=relab_my hb;exact h.old b _ hlt h1
 fo b hb:=relab_fo.trans (h.fo b hb)
 new b hb hf:=h.new b hb (relab_fo.1 hf)
theorem rho_inj{n:Nat}{single:Bool}{ts:List Nat}(hs:single=true→ts.length=1):∀ t t' p p' q q',rho n single ts t=some p→rho n single ts t'=some p'→p++q=p'++q'→t=t'∧q=q':=by
 intro t t' p p' q q' h h' he
 unfold rho at h h'
 cases hb:Nat.blt t n<;>cases hb':Nat.blt t' n<;>simp only [hb,hb',cond_true,cond_false,Option.map_eq_some_iff,Option.some.injEq] at h h'
 ·obtain⟨k,h1,rfl⟩:=h
  obtain⟨k',h1',rfl⟩:=h'
  have e1:=idx_spec h1
  have e1':=idx_spec h1'
  cases single with
  | true =>
   simp only [cond_true,List.singleton_append,List.cons.injEq,true_and] at he
   have:=hs rfl
   have hk:k=0:=by have:=(List.getElem?_eq_some_iff.1 e1).1;omega
   have hk':k'=0:=by have:=(List.getElem?_eq_some_iff.1 e1').1;omega
   subst hk;subst hk'
   rw [e1] at e1'
   exact⟨Option.some.inj e1',he⟩
  | false =>
   simp only [cond_false,List.cons_append,List.nil_append,List.cons.injEq,true_and] at he
   obtain⟨rfl,rfl⟩:=he
   rw [e1] at e1'
   exact⟨Option.some.inj e1',rfl⟩
 ·obtain⟨k,h1,rfl⟩:=h
  subst h'
  have hlt:t'<n:=by simp [Nat.blt] at hb';omega
  exfalso
  cases single<;>simp at he<;>omega
 ·obtain⟨k,h1,rfl⟩:=h'
  subst h
  have hlt:t<n:=by simp [Nat.blt] at hb;omega
  exfalso
  cases single<;>simp at he<;>omega
 ·subst h;subst h'
  simpa using he
theorem rho_ne{n:Nat}{single:Bool}{ts:List Nat}:∀ t p,rho n single ts t=some p→p≠[]:=by
 intro t p h
 unfold rho at h
 cases hb:Nat.blt t n with
 | true=>rw [hb,cond_true] at h;injection h with h;subst h;simp
 | false =>
  rw [hb,cond_false,Option.map_eq_some_iff] at h
  obtain⟨k,_,rfl⟩:=h
  cases single<;>simp
/-! ### results -/
def ResultVar.slot:ResultVar→Nat
 | .tmp t=>t
 | .cell t _=>t
def AV.one(ti:TI):AV→Bool
 | .agg _=>false
 | z=>!z.isOwn&&!ti.k.isAgg
theorem one_spec{ti:TI}{z:AV}(h:z.one ti=true):z.cells=[z]∧z.fits ti=true∧z.noOwn=true∧z.isOwn=false:=by
 cases z<;>simp_all [AV.one,AV.cells,AV.fits,AV.noOwn]
def resOf(S:Sys)(σ:St):ResultVar→Option AV
 | .tmp t=>match get σ t with
  | .av y=>some y
  | _=>none
 | .cell t ty=>match get σ t,S.T ty with
  | .av (.pt true cs),some ti=>match ti.k.isAgg with
   | true=>bif Nat.beq cs.length ti.size&&cs.all (fun z=>!z.isOwn) then some (.agg cs) else none
   | false=>match cs with
    | [y]=>bif y.one ti then some y else none
    | _=>none
  | _,_=>none
def resL(S:Sys)(σ:St):List ResultVar→Option (List AV)
 | []=>some []
 | r::rs=>match resOf S σ r,resL S σ rs with
  | some y,some ys=>some (y::ys)
  | _,_=>none
def pack:List AV→AV
 | [y]=>y
 | ys=>.tup ys
def packV:List Value→Value
 | [v]=>v
 | vs=>.tuple vs.toArray
def resSem(tmps:Array Value):ResultVar→Sem Value
 | .tmp t=>pure (tmps.getD t undef)
 | .cell p t=>do loadVar t (← asAddr (tmps.getD p undef))
section
variable {S:Sys} {N:Nat} {σ:St}
theorem resL_get:∀ {rvs:List ResultVar} {rs:List AV},resL S σ rvs=some rs→rs.length=rvs.length∧∀ (k:Nat) (rv:ResultVar) (y:AV),rvs[k]?=some rv→rs[k]?=some y→resOf S σ rv=some y
 | [],rs,h=>by simp only [resL,Option.some.injEq] at h;subst h;exact⟨rfl,fun k rv y h=>by simp at h⟩
 | r::rvs,rs,h=>by
  simp only [resL] at h
  cases h1:resOf S σ r with
  | none=>rw [h1] at h;cases h
  | some y =>
   cases h2:resL S σ rvs with
   | none=>rw [h1,h2] at h;cases h
   | some ys =>
    rw [h1,h2] at h
    simp only [Option.some.injEq] at h
    subst h
    obtain⟨e1,e2⟩:=resL_get h2
    refine⟨by simp [e1],fun k rv y' hk hy=>?_⟩
    cases k with
    | zero=>simp only [List.getElem?_cons_zero,Option.some.injEq] at hk hy;subst hk;subst hy;exact h1
    | succ k=>simp only [List.getElem?_cons_succ] at hk hy;exact e2 k rv y' hk hy
theorem res_run{w0:World}{L0:Nat→Lab}{a:Act}{w:World}{L:Nat→Lab}(hR:RelL S w0 L0 N σ a w L){rv:ResultVar}{y:AV}(h:resOf S σ rv=some y) :
  ∃ v,(resSem a.tmps rv).run S.P w=.ok v w∧Rep L w (some [ResultVar.slot rv]) y v:=by
 cases rv with
 | tmp t =>
  simp only [resOf] at h
  cases ht:get σ t with
  | av z =>
   rw [ht] at h
   simp only [Option.some.injEq] at h
   subst h
   have:=hR.hold t (own_lt hR ht (by simp))
   rw [ht] at this
   exact⟨_,rfl,this⟩
  | _=>rw [ht] at h;cases h
 | cell t ty =>
  simp only [resOf] at h
  split at h
  ·rename_i cs ti ht hT
   have hh:=hR.hold t (own_lt hR ht (by simp))
   rw [ht] at hh
   simp only [Hold] at hh
   have hok:=S.ok ty ti hT
   split at h
   ·rename_i hagg
    cases hc:(Nat.beq cs.length ti.size&&cs.all (fun z=>!z.isOwn)) with
    | false=>rw [hc] at h;cases h
    | true =>
     rw [hc,cond_true] at h
     injection h with h
     subst h
     simp only [Bool.and_eq_true] at hc
     generalize hgv:a.tmps.getD t undef=v at hh
     cases hh with
     | @ptO p cs b arr e u hL hb hsz hcell hr =>
      have hno:(AV.agg cs).noOwn=true:=hc.2
      obtain⟨v,h1,h2,_⟩:=load_core hok (y:=.agg cs) (b:=b) (off:=0) (L:=L) (π:=fun j=>some ([t]++[j])) (by simp [AV.fits,hagg,hc.1]) (Array.getElem?_eq_some_iff.1 hb).1 (noOwn_spec hno) (fun j z hz=>⟨u j,by
       rw [Nat.zero_add,cell_of_row w b j arr e (0,0) hb];exact hcell j (List.getElem?_eq_some_iff.1 hz).1,hr j z hz⟩)
      refine⟨v,?_,?_⟩
      ·simp only [resSem,hgv,asAddr,Sem.run_bind,Sem.run_pure,Result.andThen_ok]
       exact h1 w (Ext.refl w)
      ·exact h2.replace rfl
   ·rename_i hagg
    split at h
    ·rename_i z
     cases hc:z.one ti with
     | false=>rw [hc] at h;cases h
     | true =>
      rw [hc,cond_true] at h
      injection h with h
      subst h
      obtain⟨hz1,hfit,hno,hown⟩:=one_spec hc
      generalize hgv:a.tmps.getD t undef=v at hh
      cases hh with
      | @ptO p cs b arr e u hL hb hsz hcell hr =>
       obtain⟨v,h1,h2,_⟩:=load_core hok (y:=z) (b:=b) (off:=0) (L:=L) (π:=fun j=>some ([t]++[j])) hfit (Array.getElem?_eq_some_iff.1 hb).1 (noOwn_spec hno) (fun j z' hz=>⟨u j,by
        rw [hz1] at hz
        rw [Nat.zero_add,cell_of_row w b j arr e (0,0) hb];exact hcell j (List.getElem?_eq_some_iff.1 hz).1,by rw [hz1] at hz;exact hr j z' hz⟩)
       refine⟨v,?_,?_⟩
       ·simp only [resSem,hgv,asAddr,Sem.run_bind,Sem.run_pure,Result.andThen_ok]
        exact h1 w (Ext.refl w)
       ·exact h2.replace hown
    ·cases h
  ·cases h
theorem mapM_run{α β:Type}{P:Program}{w:World}(f:α→Sem β):∀ (l:List α) (vs:List β),vs.length=l.length→(∀ (k:Nat) x v,l[k]?=some x→vs[k]?=some v→(f x).run P w=.ok v w)→(l.mapM f).run P w=.ok vs w
 | [],vs,hl,_=>by
  have:vs=[]:=List.eq_nil_of_length_eq_zero (by simpa using hl)
  subst this
  rfl
 | x::l,[],hl,_=>by simp at hl
 | x::l,v::vs,hl,h=>by
  have h0:=h 0 x v rfl rfl
  have ih:=mapM_run f l vs (by simpa using hl) fun k y u hk hu=>h (k+1) y u (by simpa using hk) (by simpa using hu)
  simp only [List.mapM_cons,Sem.run_bind,h0,Result.andThen_ok,ih,Sem.run_pure]
theorem results_run{fn:Func}{rvs:List ResultVar}(hr:fn.results=rvs.toArray){tmps:Array Value}{P:Program}{w:World}{vs:List Value}(hl:vs.length=rvs.length)
  (h:∀ (k:Nat) rv v,rvs[k]?=some rv→vs[k]?=some v→(resSem tmps rv).run P w=.ok v w) :
  (results fn tmps).run P w=.ok (packV vs) w:=by
 have hm:=mapM_run (P:=P) (w:=w) (resSem tmps) rvs vs hl h
 have e:results fn tmps=(do let vs←fn.results.mapM (resSem tmps);pure (if h:vs.size=1 then vs[0] else .tuple vs)):=by
  unfold results
  congr 2
 rw [e,hr,Sem.run_bind,List.mapM_toArray,Sem.run_map,hm]
 simp only [Result.andThen_ok,Sem.run_pure]
 match vs with
 | []=>rfl
 | [v]=>rfl
 | v::u::vs=>simp [packV]
def initL:Nat→List AV→List (Nat×TV)
 | _,[]=>[]
 | k,a::r=>(k,.av a)::initL (k+1) r
theorem get_initL:∀ (xs9:List AV) (k n:Nat),get (ofL (initL k xs9)) n=if k≤n then(match xs9[n-k]? with|some x=>.av x|none=>.none) else .none
 | [],k,n=>by simp [initL,ofL,get]
 | a::xs9,k,n=>by
  simp only [initL,ofL,get,kill_eq]
  rw [get_initL xs9 (k+1) n]
  by_cases hkn:k=n
  ·subst hkn;simp [Nat.beq_refl]
  ·rw [not_beq hkn,cond_false]
   by_cases hlt:k+1≤n
   ·rw [if_pos hlt,if_pos (by omega),show n-k=(n-(k+1))+1 by omega,List.getElem?_cons_succ]
    cases xs9[n-(k+1)]?<;>simp [TV.dep]
   ·rw [if_neg hlt,if_neg (by omega)];rfl
def Sys.fixedF(S:Sys)(M:Nat→Bool)(v:Nat→Value):Sys:={ S with M:=M,v0:=v,D:=[],X:=fun _ _=>False }
def Sys.fixed(S:Sys)(m:Nat)(v:Nat→Value):Sys:=S.fixedF (fun i=>Nat.blt i m) v
inductive AV.le:AV→AV→Prop
 | refl (x:AV):AV.le x x
 | nil {o:Bool} {c:Nat}:AV.le .nil (.sl o c [])
 | tup {xs ys:List AV} (hl:xs.length=ys.length) (h:∀ (i:Nat) x y,xs[i]?=some x→ys[i]?=some y→AV.le x y):AV.le (.tup xs) (.tup ys)
 | sl {o:Bool} {c:Nat} {xs ys:List AV} (hl:xs.length=ys.length) (hx:∀ x∈xs,x.cells=[x]) (hy:∀ y∈ys,y.cells=[y]) (h:∀ (i:Nat) x y,xs[i]?=some x→ys[i]?=some y→AV.le x y):AV.le (.sl o c xs) (.sl o c ys)
theorem flat_single:∀ {xs:List AV},(∀ x∈xs,x.cells=[x])→flat xs=xs
 | [],_=>rfl
 | x::xs,h=>by
  have ih:=flat_single (xs:=xs) fun y hy=>h y (List.mem_cons_of_mem _ hy)
  simp only [flat,List.flatMap_cons] at ih ⊢
  rw [ih,h x (List.mem_cons_self ..)];rfl
theorem Rep.le{x y:AV}(h:AV.le x y):∀ {L:Nat→Lab} {w:World} {π:Option (List Nat)} {v:Value},Rep L w π x v→Rep L w π y v:=by
 induction h with
 | refl=>exact fun h=>h
 | nil=>intro L w π v h;cases h;exact .slE (fun _=>rfl)
 | @tup xs ys hl h ih =>
  intro L w π v h
  cases h with
  | tup hl' h' =>
   refine .tup (by rw [hl',hl]) fun i y u hy hu=>?_
   have hi:i<xs.length:=by rw [hl];exact(List.getElem?_eq_some_iff.1 hy).1
   exact ih i xs[i] y (List.getElem?_eq_getElem hi) hy (h' i xs[i] u (List.getElem?_eq_getElem hi) hu)
 | @sl o c xs ys hl hx hy h ih =>
  intro L w π v h
  have back:∀ (i:Nat) y,ys[i]?=some y→∃ x,xs[i]?=some x:=fun i y hy=>by
   have hi:i<xs.length:=by rw [hl];exact(List.getElem?_eq_some_iff.1 hy).1
   exact⟨xs[i],List.getElem?_eq_getElem hi⟩
  have hc':(∀ x∈xs,x.cells.length=c)→∀ y∈ys,y.cells.length=c:=fun hc y hm=>by
   obtain⟨i,hi⟩:=List.getElem?_of_mem hm
   obtain⟨x,hx'⟩:=back i y hi
   have h1:=hc x (List.mem_of_getElem? hx')
   rw [hx x (List.mem_of_getElem? hx')] at h1
   rw [hy y hm];exact h1
  cases h with
  | slE h0 =>
   have:ys=[]:=List.eq_nil_of_length_eq_zero (by rw [← hl];rfl)
   subst this
   exact .slE h0
  | slS u hcap hL hb hc hcell hr =>
   rw [hl]
   refine .slS u (by omega) hL hb (hc' hc) (by rw [← hl];exact hcell) fun o y hyo=>?_
   rw [flat_single hy] at hyo
   obtain⟨x,hx'⟩:=back o y hyo
   exact ih o x y hx' hyo (hr o x (by rw [flat_single hx];exact hx'))
  | slO u hL hb hcap hsz hc hcell hr =>
   rw [hl]
   refine .slO u hL hb (by omega) hsz (hc' hc) (by rw [← hl];exact hcell) fun o y hyo=>?_
   rw [flat_single hy] at hyo
   obtain⟨x,hx'⟩:=back o y hyo
   exact ih o x y hx' hyo (hr o x (by rw [flat_single hx];exact hx'))
def isRet:Exit→Bool
 | .ret|.normal=>true
 | _=>false
def Ret(S:Sys)(rvs:List ResultVar)(xs9 xs9':List AV)(r:AV)(e:Exit)(σ:St):Prop :=
 isRet e=true∧(∃ rs,resL S σ rvs=some rs∧AV.le (pack rs) r)∧xs9'.length=xs9.length ∧
 ∀ (i:Nat) (x y:AV),xs9[i]?=some x→xs9'[i]?=some y→(x.isOwn=false∧y=x)∨(S.M i=true∧(get σ i=.av y∨y=.dead))
structure FnSpecE(P:Program)(f:Nat)(xs9:List AV)(R:List AV→AV→Prop):Prop where
 ok:FnOk P f
 calls:∀ (w:World) (L:Nat→Lab) (vs:List Value),vs.length=xs9.length→Pre xs9.length L w→(∀ i x v,xs9[i]?=some x→vs[i]?=some v→Rep L w (some [i]) x v) →
  Calls P f vs.toArray w fun e w'=>∃ v L' xs9' r,e=.returned v∧R xs9' r∧Back xs9.length xs9' r L w vs v w' L'
theorem FnSpecE.toFn{P:Program}{f:Nat}{xs9 xs9':List AV}{r:AV}{R:List AV→AV→Prop}(h:FnSpecE P f xs9 R)(hR:∀ x y,R x y→x=xs9'∧y=r):FnSpec P f xs9 xs9' r :=
 ⟨h.ok,fun w L vs h1 h2 h3=>(h.calls w L vs h1 h2 h3).mono fun e w' ⟨v,L',x,y,he,hxy,hB⟩=>by
  obtain⟨rfl,rfl⟩:=hR x y hxy
  exact⟨v,L',he,hB⟩⟩
theorem FnSpec.toE{P:Program}{f:Nat}{xs9 xs9':List AV}{r:AV}(h:FnSpec P f xs9 xs9' r):FnSpecE P f xs9 fun x y=>x=xs9'∧y=r :=
 ⟨h.ok,fun w L vs h1 h2 h3=>(h.calls w L vs h1 h2 h3).mono fun e w' ⟨v,L',he,hB⟩=>⟨v,L',_,_,he,⟨rfl,rfl⟩,hB⟩⟩
theorem FnSpecE.enter (M:Nat→Bool) {f:Nat} {fn:Func} {c:Code} {rvs:List ResultVar} {xs9:List AV} {R:List AV→AV→Prop} (hf:S.P.funcs[f]?=some fn) (hb:fn.body=some c) (hname:(fn.name == "runtime.NumGoroutine")=false) (hr:fn.results=rvs.toArray) (hN:fn.ntmps=N)
  (hlen:Nat.ble xs9.length N=true) (hidx:idxOk (rvs.map ResultVar.slot)=true) (hge:(rvs.map ResultVar.slot).all (fun t=>Nat.ble xs9.length t)=true)
  (hm:∀ i,M i=true→i<xs9.length) (h:∀ v0,CW (S.fixedF M v0) N c (fun e σ'=>∃ xs9' r,R xs9' r∧Ret (S.fixedF M v0) rvs xs9 xs9' r e σ') (ofL (initL 0 xs9))):FnSpecE S.P f xs9 R:=by
 have hlen':xs9.length≤N:=Nat.le_of_ble_eq_true hlen
 refine⟨⟨fn,hf,hname,by rw [hb];rfl⟩,fun w L vs hvs hpre hargs=>?_⟩
 refine calls_of_wp hf hb ?_
 rw [List.size_toArray,hvs,hN]
 have h:=h fun i=>vs.getD i undef
 unfold CW at h
 have hsize:(vs.toArray++Array.replicate (N-xs9.length) undef).size=N:=by simp [hvs];omega
 have hget:∀ i v,vs[i]?=some v→(vs.toArray++Array.replicate (N-xs9.length) undef).getD i undef=v:=fun i v hv=>by
  have hi:i<vs.length:=(List.getElem?_eq_some_iff.1 hv).1
  rw [Array.getD_eq_getD_getElem?,Array.getElem?_append_left (by simpa using hi)]
  simp [hv]
 refine h w L _ _ w ⟨fun e σ' a' w' hret hR=>?_,fun ch a' w' hd=>by obtain⟨_,_,hx,_⟩:=hd.dies;exact hx.elim⟩ ⟨L,rfl,hsize,⟨rfl,rfl,rfl,Nat.le_refl _,fun _ _ _=>rfl⟩,⟨hpre.lt,hpre.inj,fun b p hb hp=>?_,fun b p _ hb=>⟨p,hb⟩,fun b _=>Iff.rfl,hpre.new⟩,fun n hn=>?_,fun n hn=>?_,fun i hi=>?_,hpre.glob⟩
 ·obtain⟨xs9',r,hRR,hee,⟨rs,hrs,hle⟩,hl',has⟩:=hret
  suffices hkk:bodyPost S.P fn _ .ret a' w' by
   cases e with
   | ret=>exact hkk
   | normal=>exact hkk
   | _=>cases hee
  clear hee
  obtain⟨L',hR⟩:=hR
  obtain⟨hrl,hrk⟩:=resL_get hrs
  -- the results' values
  obtain⟨us,hul,hus⟩:=gather (R:=fun k y v=>∃ rv,rvs[k]?=some rv∧(resSem a'.tmps rv).run S.P w'=.ok v w'∧Rep L' w' (some [ResultVar.slot rv]) y v) rs 0 (fun k y hy=>by
   have hk:k<rvs.length:=by rw [← hrl];exact(List.getElem?_eq_some_iff.1 hy).1
   obtain⟨v,h1,h2⟩:=res_run hR (hrk k rvs[k] y (List.getElem?_eq_getElem hk) hy)
   exact⟨v,rvs[k],by rw [Nat.zero_add];exact List.getElem?_eq_getElem hk,h1,h2⟩)
  have hrun:(results fn a'.tmps).run S.P w'=.ok (packV us) w':=results_run hr (by rw [hul,hrl]) fun k rv v hk hv=>by
   have hkr:k<rs.length:=by rw [hrl];exact(List.getElem?_eq_some_iff.1 hk).1
   obtain⟨rv',h1,h2,_⟩:=hus k rs[k] v (List.getElem?_eq_getElem hkr) hv
   rw [Nat.zero_add,hk] at h1
   injection h1 with h1
   subst h1
   exact h2
  refine⟨hR.defers,packV us,hrun,packV us,relab (rho xs9.length (Nat.beq rvs.length 1) (rvs.map ResultVar.slot)) L',xs9',r,rfl,hRR,hR.keep,hR.lok.relab rho_ne (rho_inj fun hs=>by simpa using Nat.eq_of_beq_eq_true hs),fun b p hb=>?_,fun i x u hx hu=>?_,?_⟩
  ·obtain⟨t,q,p',h1,h2,rfl⟩:=relab_my hb
   unfold rho at h2
   cases hbl:Nat.blt t xs9.length with
   | true =>
    rw [hbl,cond_true] at h2;injection h2 with h2;subst h2
    have:t<xs9.length:=by simp [Nat.blt] at hbl;omega
    exact⟨t,q,rfl,by omega⟩
   | false =>
    rw [hbl,cond_false,Option.map_eq_some_iff] at h2
    obtain⟨k,_,rfl⟩:=h2
    cases Nat.beq rvs.length 1 with
    | true=>exact⟨xs9.length,q,rfl,Nat.le_refl _⟩
    | false=>exact⟨xs9.length,k::q,rfl,Nat.le_refl _⟩
  ·have hi:i<xs9.length:=by rw [← hl'];exact(List.getElem?_eq_some_iff.1 hx).1
   have hrho:rho xs9.length (Nat.beq rvs.length 1) (rvs.map ResultVar.slot) i=some [i]:=by
    unfold rho
    have:Nat.blt i xs9.length=true:=by simp [Nat.blt];omega
    rw [this,cond_true]
   rcases has i xs9[i] x (List.getElem?_eq_getElem hi) hx with⟨ho,rfl⟩|⟨him,hg|rfl⟩
   ·-- an argument that is shared reads xs9 it did
    have h0:=(hargs i xs9[i] u (List.getElem?_eq_getElem hi) hu).replace (π':=none) ho
    have h1:Rep (relab (rho xs9.length (Nat.beq rvs.length 1) (rvs.map ResultVar.slot)) L') w' none xs9[i] u:=by
     refine Rep.frame hR.keep.size hR.keep.os hR.keep.tape hR.keep.output (fun b hb hlt=>?_) h0 none (fun p hp=>by cases hp)
     refine⟨?_,hR.keep.block b hlt (fun p hp=>by rw [hb] at hp;cases hp)⟩
     cases hL':L' b with
     | sh=>exact relab_sh hL'
     | fo=>have:=(hR.lok.fo b hlt).1 hL';rw [hb] at this;cases this
     | my p=>obtain⟨q,hq⟩:=hR.lok.old b p hlt hL';rw [hb] at hq;cases hq
    exact h1.any _
   ·have hiN:i<N:=by omega
    have hh:=hR.hold i hiN
    rw [hg] at hh
    simp only [Hold] at hh
    have hfix:=hR.fix i him
    have hui:vs.getD i undef=u:=by simp [List.getD_eq_getElem?_getD,hu]
    have:a'.tmps.getD i undef=u:=hfix.trans hui
    rw [this] at hh
    refine Rep.frame (Nat.le_refl _) rfl rfl rfl (fun b hb _=>⟨relab_sh hb,rfl⟩) hh _ fun p hp=>?_
    cases hp
    exact⟨[i],rfl,fun b q hb=>⟨relab_to hb hrho,rfl⟩⟩
   ·exact .dead
  ·refine Rep.le hle ?_
   have hge':=List.all_eq_true.1 hge
   have hbl:∀ k rv,rvs[k]?=some rv→rho xs9.length (Nat.beq rvs.length 1) (rvs.map ResultVar.slot) (ResultVar.slot rv)=some (bif Nat.beq rvs.length 1 then [xs9.length] else [xs9.length,k]):=fun k rv hk=>by
    have hm:(rvs.map ResultVar.slot)[k]?=some (ResultVar.slot rv):=by rw [List.getElem?_map,hk];rfl
    have:=hge' _ (List.mem_of_getElem? hm)
    unfold rho
    have hb:Nat.blt (ResultVar.slot rv) xs9.length=false:=by
     have:=Nat.le_of_ble_eq_true this
     rw [← Bool.not_eq_true];intro hc;simp [Nat.blt] at hc;omega
    rw [hb,cond_false,idx_of hidx hm];rfl
   have key:∀ k y v,rs[k]?=some y→us[k]?=some v→Rep (relab (rho xs9.length (Nat.beq rvs.length 1) (rvs.map ResultVar.slot)) L') w' (some (bif Nat.beq rvs.length 1 then [xs9.length] else [xs9.length,k])) y v:=fun k y v hy hv=>by
    obtain⟨rv,h1,_,h3⟩:=hus k y v hy hv
    rw [Nat.zero_add] at h1
    refine Rep.frame (Nat.le_refl _) rfl rfl rfl (fun b hb _=>⟨relab_sh hb,rfl⟩) h3 _ fun p hp=>?_
    cases hp
    exact⟨_,rfl,fun b q hb=>⟨relab_to hb (hbl k rv h1),rfl⟩⟩
   match hrs':rs,us,hul with
   | [],[],_=>exact .tup rfl (fun i x v h=>by simp at h)
   | [y],[v],_ =>
    have h1:Nat.beq rvs.length 1=true:=by rw [← hrl];rfl
    have:=key 0 y v (by simp) (by simp)
    rw [show(bif Nat.beq rvs.length 1 then [xs9.length] else [xs9.length,0])=[xs9.length] from by rw [h1];rfl] at this
    exact this
   | y::y'::ys,v::v'::us',hul =>
    have h1:Nat.beq rvs.length 1=false:=by rw [← hrl];exact not_beq (by simp)
    refine .tup hul fun k x u hx hu=>?_
    have:=key k x u (by simpa using hx) (by simpa using hu)
    rw [show(bif Nat.beq rvs.length 1 then [xs9.length] else [xs9.length,k])=[xs9.length,k] from by rw [h1];rfl] at this
    exact this
 ·subst hp
  obtain⟨i,q,h,_⟩:=hpre.head b [] hb
  cases h
 ·rw [get_initL xs9 0 n,if_pos (Nat.zero_le _),Nat.sub_zero]
  cases hx:xs9[n]? with
  | none=>trivial
  | some x =>
   have hn':n<vs.length:=by rw [hvs];exact(List.getElem?_eq_some_iff.1 hx).1
   simp only [Hold]
   rw [hget n vs[n] (List.getElem?_eq_getElem hn')]
   exact hargs n x _ hx (List.getElem?_eq_getElem hn')
 ·rw [get_initL xs9 0 n,if_pos (Nat.zero_le _),Nat.sub_zero,List.getElem?_eq_none (by omega)]
 ·have hml:i<xs9.length:=hm i hi
  have hi':i<vs.length:=by omega
  rw [hget i vs[i] (List.getElem?_eq_getElem hi')]
  show vs[i]=vs.getD i undef
  simp [List.getD_eq_getElem?_getD,hi']
theorem FnSpec.enter (m:Nat) {f:Nat} {fn:Func} {c:Code} {rvs:List ResultVar} {xs9 xs9':List AV} {r:AV} (hf:S.P.funcs[f]?=some fn) (hb:fn.body=some c) (hname:(fn.name == "runtime.NumGoroutine")=false) (hr:fn.results=rvs.toArray) (hN:fn.ntmps=N)
  (hlen:Nat.ble xs9.length N=true) (hidx:idxOk (rvs.map ResultVar.slot)=true) (hge:(rvs.map ResultVar.slot).all (fun t=>Nat.ble xs9.length t)=true)
  (hm:Nat.ble m xs9.length=true) (h:∀ v0,CW (S.fixed m v0) N c (Ret (S.fixed m v0) rvs xs9 xs9' r) (ofL (initL 0 xs9))):FnSpec S.P f xs9 xs9' r :=
 (FnSpecE.enter (R:=fun x y=>x=xs9'∧y=r) (fun i=>Nat.blt i m) hf hb hname hr hN hlen hidx hge (fun i hi=>by
  have:=Nat.le_of_ble_eq_true hm
  simp [Nat.blt] at hi;omega) fun v0=>(h v0).mono fun e σ' hret=>⟨_,_,⟨rfl,rfl⟩,hret⟩).toFn fun _ _ h=>h
end
end FM
