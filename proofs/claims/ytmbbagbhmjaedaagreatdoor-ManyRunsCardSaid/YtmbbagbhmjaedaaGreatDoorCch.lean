/- Part of the proof. -/
import Derived.Test.YtmbbagbhmjaedaaGreatDoorCcg
set_option linter.all false
set_option maxRecDepth 10000
set_option maxHeartbeats 6400000
namespace FM
open Go Go.RowKit
variable {S:Sys}{σ:St}{t:Nat}{g:Option (Nat×Bool)}
theorem EStep.IP{S:Sys}{bx:St}{o:Oper}{s i:Nat}{y:AV}{xs:List AV}(ht:get σ t=.rref s i y)(hs:get σ s=.av (.pt true xs))(hy:y≠.dead)(cH:Nat.beq s t=false)(hi:Nat.blt i xs.length=true)
  (h:EStep S o ((σ.upd false s (.av (.pt true (xs.set i .dead)))).put t (.av y)) bx):EStep S o σ bx:=by
 have ez:i<xs.length:=by have:=ah3 hi;omega
 intro w0 L0 N a w hN ⟨L,hR⟩;exact h w0 L0 N a w hN ⟨_,hR.wX hs ht hy (aC cH) ez⟩
theorem Rh{ty:Nat}{pos:String}{aft:Array Edge}{g:Option (Nat×Bool)}{s o t0:Nat}{ti:TI}{x:Operand}{y0 r:AV}{cs:List AV}(hx:ov σ x=.fpt s o y0)(hs:FM.get σ s=.av (.pt true cs))(DK:FM.get σ t0=.av r)(hok:r.dK=true)(cH:Nat.beq t0 s=false)(hT:S.T t=some ti)(kK:Nat.beq ti.size 1=true)(ho:Nat.blt o cs.length=true):
  EStep S ⟨none,.store t x (.tmp t0),ty,pos,aft,g⟩ σ (((σ.upd false s (.av (.pt true (cs.set o .dead)))).put t0 .none).upd false s (.av (.pt true ((cs.set o .dead).set o r)))):=by
 intro w0 L0 N a w _ ⟨L,hR⟩;have KL:=ahz kK;have ho:o<cs.length:=by have:=ah3 ho;omega
 obtain⟨_,⟨b0,hL0,hp0,_⟩,_⟩:=aM hR hx ag;have ja:=aJ hR hs ag;have HT:=aJ hR DK ag;have hh:=hR.hold s ja;have ht:=hR.hold t0 HT;rw [hs] at hh;rw [DK] at ht;simp only [Hold] at hh ht;obtain⟨c1,c2,c3⟩:=fx ht hok;obtain⟨b,hL,hp,_,_⟩:=fy hh;have eb:=hR.lok.inj _ _ _ hL0 hL;subst eb;have v1:(a.tmps.getD t0 undef).cells.size=1:=by rw [c1];rfl
 have v2:∀ u∈(a.tmps.getD t0 undef).cells.toList,u.oneCell'=true:=fun u hu=>by rw [c1] at hu;rw [ahL.1 hu];exact c2
 have core:=fun(z:AV) (hz:Rep L w none z (a.tmps.getD t0 undef))=>nw hT (off:=o) (zs:=[z]) (cs':=cs.set o z) (zv:=a.tmps.getD t0 undef) hL hR.lok.inj hh (by simp;omega) (by rw [KL];rfl) v1 v2 (fun j y hy=>by
  rw [c1]
  cases j with
  | zero=>simp only [ahq,ahp] at hy;subst hy;exact⟨_,rfl,hz⟩
  | succ j=>simp at hy) ag (fun j y hy=>by
  rw [aio] at hy
  by_cases By:o=j
  ·subst By
   rw [if_pos rfl,if_pos ho] at hy
   exact .inl ⟨ahr _,ag,by simpa using hy⟩
  ·rw [if_neg By] at hy
   exact .inr ⟨by simp;omega,hy⟩)
 obtain⟨W,aD,bc,ho',htp,hu,cw,bE⟩:=core .dead .dead;obtain⟨W2,Om,_,_,_,_,_,Vm⟩:=core (.val (a.tmps.getD t0 undef)) .val;rw [aD] at Om;cases Om;have hW:=hR.write (b:=b0) (q0:=[]) ja hL bc ho' htp hu cw bE false (fun h=>by cases h);have xq:t0≠s:=aC cH;have cn:a.eval (.tmp t0)=a.tmps.getD t0 undef:=rfl;refine⟨undef,W,.inr ⟨by simp only [execOp,hp0,Sem.run_bind,cn,aD];rfl,rfl⟩,_,hW.wW (s:=s) (i:=o) (t0:=t0) (r:=r) (xs:=cs.set o .dead) ?_ ?_ c3 xq (by simp;exact ho) fun b' bI=>?_⟩
 ·simp only [FM.get,ahy,cond_true]
 ·simp only [FM.get,au xq.symm,cond_false,DK];rfl
 ·have:=hR.lok.inj _ _ _ bI hL;subst this;obtain⟨b2,Yv,U8,_,hc⟩:=fy Vm;have e2:=hR.lok.inj _ _ _ Yv hL;subst e2;obtain⟨u,YN,YO⟩:=hc o (.val (a.tmps.getD t0 undef)) (by rw [aio,if_pos rfl,if_pos ho]);cases YO;exact YN
theorem RelL.say{N:Nat}{w0:World}{L0:Nat->aO}{a:Act}{w:World}{L:Nat->aO}(hR:RelL S w0 L0 N σ a w L){tv:TV}(ht:t<N)(h:Hold L w a.tmps t tv (a.tmps.getD t undef)):RelL S w0 L0 N (σ.put t tv) a w L:=by
 refine⟨hR.defers,hR.size,hR.keep,hR.lok,fun n hn=>?_,fun n hn=>?_,hR.fix,hR.glob⟩
 ·simp only [FM.get,aY];by_cases e:t=n
  ·subst e;rw [ahy,cond_true];exact h
  ·rw [au e,cond_false]
   cases hd:(FM.get σ n).dep t with
   | true=>trivial
   | false=>exact hR.hold n hn
 ·simp only [FM.get,aY];rw [au (show t≠n by omega),cond_false,hR.out n hn];rfl
theorem IQ{d ty:Nat}{pos:String}{aft:Array Edge}{g:Option (Nat×Bool)}{s o:Nat}{ti:TI}{x:Operand}{y y':AV}{cs:List AV}(hx:ov σ x=.fpt s o y')(hs:FM.get σ s=.av (.pt true cs))(hT:S.T t=some ti)(Ht:cs[o]?=some y)(hf:y.fits ti=true)(hy:y≠.dead)(h1:y.cells=[y])(c8:Nat.beq s d=false):
  Step S ⟨some d,.load t x,ty,pos,aft,g⟩ σ (σ.put d (.rref s o y)):=by
 intro w0 L0 N a w hN ⟨L,hR⟩;have hh:=hR.hold s (aJ hR hs ag);rw [hs] at hh;simp only [Hold] at hh;obtain⟨b,hL,Ft,aA,bt⟩:=fy hh;obtain⟨_,⟨b',fS,cn,_⟩,_⟩:=aM hR hx ag;have:=hR.lok.inj _ _ _ hL fS;subst this
 obtain⟨v,h2,h3,h4⟩:=dA (S.ok t ti hT) hf (off:=o) aA (fun cs e=>by
  subst e
  exfalso
  have h2:SizeOf.sizeOf cs=SizeOf.sizeOf [AV.agg cs]:=congrArg SizeOf.sizeOf h1
  simp at h2
  omega) (π:=fun j=>some ([s]++[o+j])) (fun j z hz=>by
   rw [h1] at hz
   cases j with
   | zero=>simp only [ahq,ahp] at hz;subst hz;exact bt o y Ht
   | succ j=>simp at hz)
 exact⟨v,fun w' e=>by simp only [execOp,cn,Instr.loadAt,Instr.sureAddr];simp [h2 w' e],Rel.aT (n:=d) hR (hN d rfl) rfl c8 ⟨b,hL,h4 h1,fun _=>by simpa using h3⟩⟩
theorem JAS.four{N:Nat}{l:List Oper}{fuel:Nat}{listed:List Bool}{K:St->Prop}{i j k m:Nat}{o1 o2 o3 o4:Oper}(hr:bV l listed=[i,j,k,m])(h1:l[i]?=some o1)(h2:l[j]?=some o2)(h3:l[k]?=some o3)(h4:l[m]?=some o4)(g1:J false S N l.toArray [o1] (JAS S N l.toArray fuel (listed.set i true) K) σ)(g2:J false S N l.toArray [o2] (JAS S N l.toArray fuel (listed.set j true) K) σ)(g3:J false S N l.toArray [o3] (JAS S N l.toArray fuel (listed.set k true) K) σ)(g4:J false S N l.toArray [o4] (JAS S N l.toArray fuel (listed.set m true) K) σ):JAS S N l.toArray (fuel+1) listed K σ :=
 .all [i,j,k,m] hr rfl fun x hx=>by
  simp only [ah1,aiK,or_false] at hx;rcases hx with rfl|rfl|rfl|rfl
  ·exact⟨_,h1,g1⟩
  ·exact⟨_,h2,g2⟩
  ·exact⟨_,h3,g3⟩
  ·exact⟨_,h4,g4⟩
end FM
namespace FM
open Go Go.RowKit
section
variable {S:Sys} {σ:St}
theorem IS{L:Nat->aO}{w:World}{π:Option (List Nat)}{v:Value}{cs cs':List AV}(hl:cs.length=cs'.length)(hle:∀ (i:Nat) x y,cs[i]?=some x->cs'[i]?=some y->AV.le x y)(h:Rep L w π (.pt true cs) v):Rep L w π (.pt true cs') v:=by
 cases h with
 | ptO u hL hb bc aH hr =>
  refine .ptO u hL hb (by rw [bc,hl]) (fun o ho=>aH o ae) fun o y hy=>?_;have ho:=(aho.1 hy).1;have hx:cs[o]?=some cs[o]:=ahn ae;exact Rep.le (hle o _ y hx hy) (hr o _ hx)
theorem CW.Vn{N:Nat}{c:Code}{Q:Exit->St->Prop}(s:Nat){cs cs':List AV}(hs:FM.get σ s=.av (.pt true cs))(hl:cs.length=cs'.length)(hle:∀ (i:Nat) x y,cs[i]?=some x->cs'[i]?=some y->AV.le x y)(h:CW S N c Q (σ.upd false s (.av (.pt true cs')))):CW S N c Q σ:=by
 unfold CW at *;refine fun w0 L0 Q' a w hQ ⟨L,hR⟩=>h w0 L0 Q' a w hQ ⟨L,hR.defers,hR.size,hR.keep,hR.lok,fun n hn=>?_,fun n hn=>?_,hR.fix,hR.glob⟩
 ·simp only [FM.get];by_cases qy:s=n
  ·subst qy;rw [ahy,cond_true];have:=hR.hold s hn;rw [hs] at this;exact IS hl hle this
  ·rw [au qy,cond_false];have hh:=hR.hold n hn;generalize FM.get σ n=tv at hh
   cases tv with
   | rref s' q y=>simp only [TV.bk];cases Nat.beq s' s<;>first|exact hh|trivial
   | ptr s' q c y=>simp only [TV.bk];cases Nat.beq s' s<;>first|exact hh|(obtain⟨k,h1,h2,_⟩:=hh;exact⟨k,h1,h2,fun h=>absurd rfl h⟩)
   | fpt s' q y=>simp only [TV.bk];cases Nat.beq s' s<;>first|exact hh|(obtain⟨k,h1,h2,_⟩:=hh;exact⟨k,h1,h2,fun h=>absurd rfl h⟩)
   | rptr s' q j y=>simp only [TV.bk];cases Nat.beq s' s<;>first|exact hh|trivial
   | bdp s' x=>simp only [TV.bk];cases Nat.beq s' s<;>first|exact hh|trivial
   | bor s' x=>simp only [TV.bk];cases Nat.beq s' s<;>first|exact hh|trivial
   | _=>exact hh
 ·simp only [FM.get];have:=aJ hR hs ag;rw [au (show s≠n by omega),cond_false,hR.out n hn];rfl
end
end FM
namespace Go.Proofs.YtmbbagbhmjaedaaGreatDoor
open Go FM Go.Proofs
abbrev oB(l:List De):AV:=.sl false 9 (l.map Ep)
def sw(d:De):Prop:=d.2.2.1.length<=9223372036854775807/\d.2.2.2.1.1.length<=9223372036854775807/\d.2.2.2.1.2.1.length<=9223372036854775807
abbrev Er:=Hs->De->Hs×Int×Int×Int
def vk(R:Er):Prop:=∀ s d,k8 s->sw d->Rg s d (R s d).1 (R s d).2.1 (R s d).2.2.1 (R s d).2.2.2
theorem Ri:∃ R:Er,vk R:=by
 have h:∀ s:Hs,∀ d:De,∃ x:Hs×Int×Int×Int,k8 s->sw d->Rg s d x.1 x.2.1 x.2.2.1 x.2.2.2:=fun s d=>by
  rcases Classical.em (k8 s/\sw d) with⟨h1,h2⟩|h
  ·obtain⟨s',t,m,e,hb⟩:=MI s h1 d h2.1 h2.2.1 h2.2.2;exact⟨(s',t,m,e),fun _ _=>hb⟩
  ·exact⟨(s,0,0,0),fun h1 h2=>absurd ⟨h1,h2⟩ h⟩
 exact⟨fun s d=>(h s d).choose,fun s d=>(h s d).choose_spec⟩
def On(R:Er)(s:Hs)(l:List De):Hs:=l.foldl (fun s d=>(R s d).1) s
def qL(R:Er):Hs->List De->List (Int×Int×Int)
 | _,[]=>[]
 | s,d::l=>(R s d).2::qL R (R s d).1 l
theorem nR{R:Er}:∀ (s:Hs) (l:List De),(qL R s l).length=l.length
 | _,[]=>rfl
 | s,d::l=>by simp [qL,nR]
theorem zS{R:Er}{s:Hs}{l:List De}{k:Nat}(h:k<l.length):On R s (l.take (k+1))=(R (On R s (l.take k)) l[k]).1:=by
 unfold On;rw [aid h,List.foldl_append];rfl
theorem Es{R:Er}{d:De}:∀ (l:List De) (s:Hs),qL R s (l++[d])=qL R s l++[(R (On R s l) d).2]
 | [],s=>rfl
 | x::l,s=>by show _::qL R (R s x).1 (l++[d])=_;rw [Es l];rfl
theorem zT{R:Er}{s:Hs}{l:List De}{k:Nat}(h:k<l.length):qL R s (l.take (k+1))=qL R s (l.take k)++[(R (On R s (l.take k)) l[k]).2]:=by
 rw [aid h,Es]
theorem Cd{R:Er}(hR:vk R):∀ (l:List De) {s:Hs},k8 s->(∀ d∈l,sw d)->k8 (On R s l)
 | [],s,h,_=>h
 | d::l,s,h,hd=>Cd hR l (hR s d h (hd d (.head _))).ok fun x hx=>hd x (.tail _ hx)
abbrev eT(l:List (Int×Int×Int)):List AV:=l.map fun x=>lV x.1 x.2.1
abbrev kq(l:List (Int×Int×Int)):List AV:=l.map fun x=>.int x.2.2
abbrev qj:Hs:=⟨[],[],[],0⟩
theorem Vo:k8 qj:=⟨⟨ag,fun a ha=>(by cases ha)⟩,ag,⟨ag,fun d hd=>(by cases hd),fun d hd=>(by cases hd)⟩,ag,fun x hx=>(by cases hx),by simp [Hs.k,dk],by simp [Hs.k,dk]⟩
theorem Zy:∀ (i:Nat) (x y:AV),[AV.nil,.nil][i]?=some x->[AV.sl true 2 (eT []),.sl true 1 (kq [])][i]?=some y->AV.le x y:=fun i x y hx hy=>by
 match i with
 | 0=>cases hx;cases hy;exact .nil
 | 1=>cases hx;cases hy;exact .nil
 | i+2=>simp at hx
theorem MJ(l:List (Int×Int×Int)):(AV.pt true [.sl true 2 (eT l),.sl true 1 (kq l)]).sh=.pt false [.sl false 2 (eT l),.sl false 1 (kq l)]:=by
 show AV.pt false [.sl false 2 (AV.Bb (eT l)),.sl false 1 (AV.Bb (kq l))]=_;rw [fZ _ l (fun x=>lV x.1 x.2.1) (fun _=>rfl),fZ _ l (fun x=>.int x.2.2) (fun _=>rfl)]
theorem Oo(t m:Int):(AV.pt true [.int t,.int m]).sh=.pt false [.int t,.int m]:=rfl
abbrev KX(l:List (Int×Int×Int)):AV:=.agg [.sl false 2 (eT l),.sl false 1 (kq l)]
end Go.Proofs.YtmbbagbhmjaedaaGreatDoor
namespace FM
open Go Go.RowKit
section
variable {S:Sys} {σ:St} {d:Nat} {ty:Nat} {pos:String} {aft:Array Edge} {g:Option (Nat×Bool)}
theorem IU{P:Program}{t e:Nat}{k:IntKind}{f1 f2:Field}(ht:P.underlying t=some (.struct #[f1,f2]))(h1:f1.type=e)(h2:f2.type=e)(o1:f1.offset=0)(o2:f2.offset=1)(n1:f1.name ≠ "_")(n2:f2.name ≠ "_")(hs:P.stoodInHeld t=false)
  (he:P.underlying e=some (.int k)) (a b c d:Int) (w:World):(Op.equal t (.agg #[.int .i64 a,.int .i64 b]) (.agg #[.int .i64 c,.int .i64 d])).run P w=.ok (decide (a=c/\b=d)) w:=by
 have hg:=fun w=>Fu (P:=P) he w;show(Op.equalIn (9999+1) t _ _).run P w=_;have inner:∀ (x y:Int) (w:World),(Op.equalIn 9999 e (.int .i64 x) (.int .i64 y)).run P w=.ok (x==y) w:=fun x y w=>by
  show(Op.equalIn (9998+1) e _ _).run P w=_;unfold Op.equalIn;rw [Sem.run_bind,run_underlying he,Result.andThen_ok];rfl
 have hb:∀ x y:Int,(x==y)=decide (x=y):=fun x y=>by rw [aiG];simp
 rw [Op.equalIn];simp only [Sem.run_bind,run_underlying ht,Result.andThen_ok,run_program,Sem.run_pure,hs];by_cases e1:a=c<;>by_cases e2:b=d<;>simp [inner,hb,e1,e2,hg,part,h1,h2,o1,o2,n1,n2]
end
section
variable {S:Sys} {σ:St} {d ty:Nat} {pos:String} {aft:Array Edge} {g:Option (Nat×Bool)}
theorem Rj{t sz cA:Nat}{fs:List (Nat×Nat)}{zz:List AV}{ps:Array (Nat×Operand)}(Lp:ps=#[])(hT:S.T t=some ⟨.struct fs,sz,cA,zz⟩)(hf:(fs.all fun p=>(S.T p.2).isSome)=true):Step S ⟨some d,.build t ps,ty,pos,aft,g⟩ σ (σ.put d (.av (.agg zz))):=by
 subst Lp;refine step_val rfl fun w0 L0 N a w L hR=>?_;obtain⟨f,zv,lC,j4,uO,yz,wa,DC,Bg⟩:=(S.ok t _ hT).info;obtain⟨dd,hd,fields,qC,DV⟩:=(S.ok t _ hT).desc;subst qC;simp only at j4 uO wa DC Bg;refine⟨.agg zv.cells,fun w' _=>?_,?_⟩
 ·have X5:=nk (P:=S.P) (w:=w') (fun f:Field=>(do pure (f.offset,<-Go.sizeOf f.type):Sem (Nat×Nat))) fields.toList (fields.toList.map fun f=>(f.offset,((S.P.info? f.type).map (·.size)).getD 0)) ag (fun k x v hx hv=>by
   rw [ahE,hx] at hv
   simp only [ah2,ahp] at hv
   subst hv
   have hm:(x.offset,x.type)∈fs:=by rw [<- DV];exact ahY.2 ⟨x,ahH hx,rfl⟩
   have h1:=ahM.1 hf _ hm
   obtain⟨ti,h2⟩:=Option.isSome_iff_exists.1 h1
   obtain⟨fe,h5,h6⟩:=(S.ok _ ti h2).size
   simp [Go.sizeOf,typeInfo,h5])
  have wC:∃ pl,(fields.mapM fun f=>do pure (f.offset,<-Go.sizeOf f.type):Sem (Array (Nat×Nat))).run S.P w'=.ok pl w':=by
   rw [Array.mapM_eq_mapM_toList];simp only [map_eq_pure_bind,Sem.run_bind,X5,Result.andThen_ok,Sem.run_pure];exact⟨_,rfl⟩
  obtain⟨pl,hpl⟩:=wC;simp only [execOp,Sem.run_bind,Instr.build,zeroValue,typeInfo,run_program,lC,yz,Result.andThen_ok,Sem.run_pure,run_underlying hd];rw [hpl];simp [Instr.fill]
 ·have hl:zv.cells.toList.length=zz.length:=by rw [wa,ahu]
  have:(Value.agg zv.cells)=.agg zv.cells.toList.toArray:=ag;rw [this];refine .agg hl fun i x v hx hv=>?_;rw [wa,ahE,hx] at hv;simp only [ah2,ahp] at hv;subst hv;exact toV_rep (ahM.1 DC x (ahH hx))
theorem Rk{t t2 e:Nat}{k:IntKind}{f1 f2:Field}{x y:Operand}{a b c d':Int}(ht:S.P.underlying t=some (.struct #[f1,f2]))(h1:f1.type=e)(h2:f2.type=e)(o1:f1.offset=0)(o2:f2.offset=1)(n1:f1.name ≠ "_")(n2:f2.name ≠ "_")(hs:S.P.stoodInHeld t=false)
  (he:S.P.underlying e=some (.int k)) (hg:S.P.eqGuardType S.P.depth t=false)
  (hx:ov σ x=.av (.agg [.int a,.int b])) (hy:ov σ y=.av (.agg [.int c,.int d'])):Step S ⟨some d,.binOp .neq t x y t2,ty,pos,aft,g⟩ σ (σ.put d (.av (.bool (decide (¬ (a=c/\b=d')))))) :=
 step_val rfl fun w0 L0 N A w L hR=>⟨.bool (decide (¬ (a=c/\b=d'))),fun w' _=>by
  have eQ:=yJ (cU hR hx).choose_spec
  have qx:=yJ (cU hR hy).choose_spec
  have e1:=IU ht h1 h2 o1 o2 n1 n2 hs he a b c d' w'
  have e2:(binOp .neq t (.agg #[.int .i64 a,.int .i64 b]) (.agg #[.int .i64 c,.int .i64 d'])).run S.P w'=.ok (.bool (decide (¬ (a=c/\b=d')))) w':=by
   show(do pure (.bool (!(<- Op.equal t _ _))):Sem Value).run S.P w'=_
   rw [Sem.run_bind,e1,decide_not];rfl
  simp only [execOp,eQ,qx,Sem.run_bind]
  simp [yK hg,e2],.bool⟩
theorem MK{t t2 e:Nat}{k:IntKind}{f1 f2:Field}{x y:Operand}{a b:Int}(ht:S.P.underlying t=some (.struct #[f1,f2]))(h1:f1.type=e)(h2:f2.type=e)(o1:f1.offset=0)(o2:f2.offset=1)(n1:f1.name ≠ "_")(n2:f2.name ≠ "_")(hs:S.P.stoodInHeld t=false)
  (he:S.P.underlying e=some (.int k)) (hg:S.P.eqGuardType S.P.depth t=false)
  (hx:ov σ x=.av (.agg [.int a,.int b])) (hy:ov σ y=.av (.agg [.int a,.int b])):Step S ⟨some d,.binOp .neq t x y t2,ty,pos,aft,g⟩ σ (σ.put d (.av (.bool false))):=by
 have h:=Rk (d:=d) (ty:=ty) (pos:=pos) (aft:=aft) (g:=g) (t2:=t2) ht h1 h2 o1 o2 n1 n2 hs he hg hx hy
 rwa [show decide (¬ (a=a/\b=b))=false by simp] at h
theorem Ce{t t2:Nat}{x y:Operand}{a:Int}(hx:ov σ x=.av (.int a))(hy:ov σ y=.av (.int a)):Step S ⟨some d,.binOp .neq t x y t2,ty,pos,aft,g⟩ σ (σ.put d (.av (.bool false))):=by
 have h:=NL (S:=S) (d:=d) (ty:=ty) (pos:=pos) (aft:=aft) (g:=g) (t:=t) (t2:=t2) hx hy
 rwa [show decide (a≠a)=false by simp] at h
end
end FM
namespace Go.Proofs.YtmbbagbhmjaedaaGreatDoor
open Go FM Go.Proofs Tryz
theorem F8:Tryz.prog.stoodInHeld 41=false:=ah
theorem F9:Tryz.prog.eqGuardType Tryz.prog.depth 41=false:=ah
theorem zU(a:List (Int×Int×Int))(hb:a.length<=9223372036854775807):FnSpec Sy.P 6 [.sl false 2 (eT a),.sl false 2 (eT a)] [.sl false 2 (eT a),.sl false 2 (eT a)] (.bool true):=by
 refine bQ func6 ntmps6 fun v0=>?_;repeat' first|refine uc @Ce ?_|refine aG ?_|(refine aK ?_ ?_<;>intro _<;>try exact aE)|fail
 all_goals try exact aE
 refine CW.loop (fun k:Nat=>[(0,.av (.sl false 2 (eT a))),(1,.av (.sl false 2 (eT a))),(12,.av (.int (a.length))),(13,.av (.int (k)))]) (fun k=>k<=a.length) (fun k=>a.length-k) (0) ?_ (ck) ?_
 ·exact ahQ _
 intro k hk;by_cases aA:k<a.length
 ·have hx:a[k]?=some a[k]:=ahn aA;generalize a[k]=y at hx;repeat' first|((with_reducible apply J.step);rfl;(exact MK underlying41 rfl rfl rfl rfl af af F8 underlying3 F9 rfl rfl))|refine aG ?_|(refine aK ?_ ?_<;>intro _<;>try exact aE)|fail
  all_goals first|(exfalso;omega)|contradiction|skip
  all_goals
   refine⟨k+1,?_,fM,ck⟩;omega
 ·repeat' first|refine aG ?_|(refine aK ?_ ?_<;>intro _<;>try exact aE)|fail
  all_goals exact bw
theorem Cf(a:List (Int×Int×Int))(hb:a.length<=9223372036854775807):FnSpec Sy.P 7 [.sl false 1 (kq a),.sl false 1 (kq a)] [.sl false 1 (kq a),.sl false 1 (kq a)] (.bool true):=by
 refine bQ func7 ntmps7 fun v0=>?_;repeat' first|refine uc @Ce ?_|refine aG ?_|(refine aK ?_ ?_<;>intro _<;>try exact aE)|fail
 all_goals try exact aE
 refine CW.loop (fun k:Nat=>[(0,.av (.sl false 1 (kq a))),(1,.av (.sl false 1 (kq a))),(12,.av (.int (a.length))),(13,.av (.int (k)))]) (fun k=>k<=a.length) (fun k=>a.length-k) (0) ?_ (ck) ?_
 ·exact ahQ _
 intro k hk;by_cases aA:k<a.length
 ·have hx:a[k]?=some a[k]:=ahn aA;generalize a[k]=y at hx;repeat' first|refine uc @Ce ?_|refine aG ?_|(refine aK ?_ ?_<;>intro _<;>try exact aE)|fail
  all_goals first|(exfalso;omega)|contradiction|skip
  all_goals
   refine⟨k+1,?_,fM,ck⟩;omega
 ·repeat' first|refine aG ?_|(refine aK ?_ ?_<;>intro _<;>try exact aE)|fail
  all_goals exact bw
theorem Rl:∀ (i:Nat) (x y:AV),[AV.nil,.nil,.str [],.int 0][i]?=some x->(js [] [] [] 0).cells[i]?=some y->AV.le x y:=fun i x y hx hy=>by
 match i with
 | 0=>cases hx;cases hy;exact .nil
 | 1=>cases hx;cases hy;exact .nil
 | 2=>cases hx;cases hy;exact .refl _
 | 3=>cases hx;cases hy;exact .refl _
 | i+4=>simp at hx
abbrev la(Jb:List (List De)):AV:=.sl false 1 (Jb.map oB)
abbrev Et(R:Er)(Jb:List (List De)):AV:=.sl false 2 (Jb.map fun l=>KX (qL R qj l))
theorem IV(h:Int)(hh:h<1∨8<h)(Jb:List (List De)):∃ c0 c1 c,(Tryz.f3).body=some (.seq c0 (.seq c1 c))/\∀ v0,CW (Sy.fixed 0 v0) 95 c (Ret (Sy.fixed 0 v0) [.tmp 4] [] [] (.bool true)) (jc [(0,.av (.int h)),(1,.av (la Jb)),(5,.av .nil),(6,.av (.int 1))]):=by
 refine⟨_,_,_,rfl,fun v0=>?_⟩;repeat' first|refine aG ?_|(refine aK ?_ ?_<;>intro _<;>try exact aE)|fail
 all_goals exact bw
theorem Ga(R:Er)(hR:vk R)(h:Int)(hh:1<=h/\h<=8)(Jb:List (List De))(hJ:Jb.length<=9223372036854775807)(hl:∀ l∈Jb,l.length<=4000000000000/\∀ d∈l,sw d):∃ c0 c1 c,(Tryz.f3).body=some (.seq c0 (.seq c1 c))/\∀ v0,CW (Sy.fixed 0 v0) 95 c (Ret (Sy.fixed 0 v0) [.tmp 4] [] [] (.bool true)) (jc [(0,.av (.int h)),(1,.av (la Jb)),(5,.av (Et R Jb)),(6,.av (.int 0))]):=by
  refine⟨_,_,_,rfl,fun v0=>?_⟩;have hG:=fun(s:Hs) (d:De) (hs:k8 s) (h:sw d)=>(hR s d hs h).g;repeat' first|refine aG ?_|(refine aK ?_ ?_<;>intro _<;>try exact aE)|fail
  all_goals first|(exfalso;omega)|(exfalso;simp at *;omega)|skip
  refine CW.loop (fun k:Nat=>[(1,.av (la Jb)),(5,.av (Et R Jb)),(45,.av (la Jb)),(46,.av (.int (Jb.length))),(47,.av (.int (k)))]) (fun k=>k<=Jb.length) (fun k=>Jb.length-k) (0) ?_ (ck) ?_
  · exact ahQ _
  intro k hk;by_cases aA:k<Jb.length
  · have hx:Jb[k]?=some Jb[k]:=ahn aA;obtain⟨Vb,hld⟩:=hl _ (ahB aA);generalize Jb[k]=l at *;have hT:=zU (qL R qj l) (by rw [nR];omega);have hE:=Cf (qL R qj l) (by rw [nR];omega);repeat' first|refine uc @Rj ?_|refine aG ?_|(refine aK ?_ ?_<;>intro _<;>try exact aE)|fail
    refine CW.Vn 9 (cs':=(js [] [] [] 0).cells) rfl rfl Rl ?_;refine CW.NX (x:=.nil) 10 rfl (AV.le.nil (o:=true) (c:=2)) ?_;refine CW.NX (x:=.nil) 11 rfl (AV.le.nil (o:=true) (c:=1)) ?_;refine CW.loop (fun z:Nat×Hs×List (Int×Int×Int)=>[(1,.av (la Jb)),(5,.av (Et R Jb)),(45,.av (la Jb)),(46,.av (.int (Jb.length))),(47,.av (.int (k))),(7,.av (.int (k))),(9,.av (.pt true (js z.2.1.A z.2.1.O z.2.1.k z.2.1.n).cells)),(10,.av (.sl true 2 (eT z.2.2))),(11,.av (.sl true 1 (kq z.2.2))),(53,.av (oB l)),(54,.av (.int (l.length))),(55,.av (.int (z.1)))]) (fun z=>z.1<=l.length/\z.2.1=On R qj (l.take z.1)/\z.2.2=qL R qj (l.take z.1)) (fun z=>l.length-z.1) ((0,qj,[])) ?_ (ck) ?_
    · exact⟨ahQ _,rfl,rfl⟩
    rintro⟨j,s,A⟩ ⟨hj,hs,hA⟩;dsimp only at hj hs hA ⊢;by_cases pI:j<l.length
    · have hy:l[j]?=some l[j]:=ahn pI;have hD:=hld _ (ahB pI);have e1:=zS (R:=R) (s:=qj) pI;have e2:=zT (R:=R) (s:=qj) pI;rw [<- hs] at e1 e2;rw [<- hA] at e2;have Zz:k8 s:=hs▸Cd hR _ Vo fun d h=>hld d (aii h);have hAl:A.length<=l.length:=by rw [hA,nR,ahF];omega
      clear hs hA;generalize l[j]=d at *;have hG:=hG s d Zz hD;generalize (R s d)=r at *;obtain⟨s',t,m,e⟩:=r;dsimp only at hG e1 e2;obtain⟨kd,n0,w,dl,⟨⟩⟩:=d;repeat' first|(refine J.aN 14 rfl rfl (su (A:=s'.A) (O:=s'.O) (k:=s'.k) (n:=s'.n)) rfl ?_)|(refine J.aN 15 rfl rfl (Oo t m) rfl ?_)|refine qf 0 12 ?_|(with_reducible refine JA.held ?_)|refine aI 11 0 ?_|refine aI 10 1 ?_|refine aI 9 2 ?_|refine aI 8 5 ?_|refine aI 7 6 ?_|(with_reducible refine JAF.go ?_)|refine qi 6 3 7 ?_ ?_|refine qi 5 4 7 ?_ ?_|refine bP 5 3 ?_|refine bP 4 7 ?_|refine bP 4 4 ?_|refine bP 3 8 ?_|refine bP 2 9 ?_|refine bn 1 10 ?_|refine bn 0 11 ?_|refine iR ?_|((with_reducible apply J.fJ);rfl;((with_reducible apply jJ (a:=(t,m,e)))<;>exact bu))|refine aG ?_|refine aF (hG) ?_|(refine aK ?_ ?_<;>intro _<;>try exact aE)|fail
      all_goals first
        | (exfalso;omega)
        | (refine⟨(j+1,s',A++[(t,m,e)]),?_,fM,ck⟩
           exact⟨by simp only;omega,e1.symm,e2.symm⟩)
    · obtain rfl:j=l.length:=ae;have ZA:A=qL R qj l:=by rw [hA,aiM (ahr _)]
      subst ZA;repeat' first|refine aG ?_|refine aF (hT) ?_|refine aF (hE) ?_|(refine aK ?_ ?_<;>intro _<;>try exact aE)|fail
      all_goals first
        | (exfalso;omega)
        | (refine⟨k+1,?_,fM,ck⟩
           omega)
  · obtain rfl:k=Jb.length:=ae;repeat' first|refine aG ?_|(refine aK ?_ ?_<;>intro _<;>try exact aE)|fail
    all_goals exact bw
end Go.Proofs.YtmbbagbhmjaedaaGreatDoor
namespace CO
open Go
structure Ren where
 r:Nat->Nat->Prop
 eq:Prop
 il:∀ {a b b'},r a b->r a b'->b=b'
 ir:∀ {a a' b},r a b->r a' b->a=a'
 g:Nat
 lo:∀ {a b},r a b->(a<g↔b<g)
 F:Nat->Prop
 m:Addr->Value->Prop
 mf:∀ {a u},m a u->∀ b,¬ r a.block b/\¬ r b a.block
instance : CoeFun Ren fun _ => Nat -> Nat -> Prop := ⟨Ren.r⟩
structure Ren.le(ρ aQ:Ren):Prop where
 r:∀ a b,ρ a b->aQ a b
 eq:aQ.eq=ρ.eq
 g:aQ.g=ρ.g
 F:aQ.F=ρ.F
 m:aQ.m=ρ.m
theorem Ren.le.refl(ρ:Ren):Ren.le ρ ρ:=⟨fun _ _ h=>h,rfl,rfl,rfl,rfl⟩
theorem Ren.le.trans{ρ σ τ:Ren}(h:Ren.le ρ σ)(g:Ren.le σ τ):Ren.le ρ τ:=⟨fun a b x=>g.r a b (h.r a b x),g.eq.trans h.eq,g.g.trans h.g,g.F.trans h.F,g.m.trans h.m⟩
def Ren.more(ρ:Ren)(x y:Nat)(hx:∀ b,¬ ρ x b)(hy:∀ a,¬ ρ a y)(gx:ρ.g<=x)(gy:ρ.g<=y)(hm:∀ a u,ρ.m a u->a.block≠x/\a.block≠y):Ren :=
 ⟨fun a b=>ρ a b∨(a=x/\b=y),ρ.eq,fun{a b b'} h g=>by
  rcases h with h|⟨h1,h2⟩<;>rcases g with g|⟨g1,g2⟩
  ·exact ρ.il h g
  ·subst g1;exact absurd h (hx _)
  ·subst h1;exact absurd g (hx _)
  ·omega,fun{a a' b} h g=>by
  rcases h with h|⟨h1,h2⟩<;>rcases g with g|⟨g1,g2⟩
  ·exact ρ.ir h g
  ·subst g2;exact absurd h (hy _)
  ·subst h2;exact absurd g (hy _)
  ·omega,ρ.g,fun{a b} h=>by
  rcases h with h|⟨h1,h2⟩
  ·exact ρ.lo h
  ·omega,ρ.F,ρ.m,fun{a u} h b=>⟨fun h'=>h'.elim (ρ.mf h b).1 fun e=>(hm a u h).1 e.1,fun h'=>h'.elim (ρ.mf h b).2 fun e=>(hm a u h).2 e.2⟩⟩
theorem Ren.ML(ρ:Ren)(x y:Nat)(hx:∀ b,¬ ρ x b)(hy:∀ a,¬ ρ a y)(gx:ρ.g<=x)(gy:ρ.g<=y)(hm:∀ a u,ρ.m a u->a.block≠x/\a.block≠y):ρ.le (ρ.more x y hx hy gx gy hm):=⟨fun _ _ h=>.inl h,rfl,rfl,rfl,rfl⟩
inductive cu(ρ:Ren):Addr->Addr->Prop
 | mk {b b':Nat} (off:Nat) (spot:Option Nat):ρ b b'->cu ρ ⟨b,off,spot⟩ ⟨b',off,spot⟩
inductive VR(ρ:Ren):Value->Value->Prop
 | bool (b:Bool):VR ρ (.bool b) (.bool b)
 | int (k:IntKind) (n:Int):VR ρ (.int k n) (.int k n)
 | float (k:FloatKind) (n:Nat):VR ρ (.float k n) (.float k n)
 | complex (k:FloatKind) (n m:Nat):VR ρ (.complex k n m) (.complex k n m)
 | string (s:ByteArray):VR ρ (.string s) (.string s)
 | ptrN:VR ρ (.pointer none) (.pointer none)
 | ptr {a a':Addr}:cu ρ a a'->VR ρ (.pointer (some a)) (.pointer (some a'))
 | sliceN (l c:Nat):VR ρ (.slice none l c) (.slice none l c)
 | slice {a a':Addr} (l c:Nat):cu ρ a a'->VR ρ (.slice (some a) l c) (.slice (some a') l c)
 | mapN:VR ρ (.map none) (.map none)
 | map {r r':Nat}:ρ r r'->VR ρ (.map (some r)) (.map (some r'))
 | chanN:VR ρ (.chan none) (.chan none)
 | func (f:FuncId) {p q p' q':Array Value}:ρ.F f->p.size=p'.size->q.size=q'.size->(∀ (i:Nat) x y,p[i]?=some x->p'[i]?=some y->VR ρ x y)->(∀ (i:Nat) x y,q[i]?=some x->q'[i]?=some y->VR ρ x y)->VR ρ (.func (.func f) p q) (.func (.func f) p' q')
 | nilFunc:VR ρ .nilFunc .nilFunc
 | iface (t:TypeId) {v v':Value}:VR ρ v v'->VR ρ (.iface t v) (.iface t v')
 | nilIface:VR ρ .nilIface .nilIface
 | agg {p p':Array Value}:p.size=p'.size->(∀ (i:Nat) x y,p[i]?=some x->p'[i]?=some y->VR ρ x y)->VR ρ (.agg p) (.agg p')
 | junk (a:Addr):VR ρ (.tuple #[]) (.pointer (some a))
 | tuple {p p':Array Value}:p.size=p'.size->(∀ (i:Nat) x y,p[i]?=some x->p'[i]?=some y->VR ρ x y)->VR ρ (.tuple p) (.tuple p')
structure AR(ρ:Ren)(p p':Array Value):Prop where
 size:p.size=p'.size
 get:∀ (i:Nat) x y,p[i]?=some x->p'[i]?=some y->VR ρ x y
theorem cu.mono{ρ aQ:Ren}(h:ρ.le aQ){a a':Addr}:cu ρ a a'->cu aQ a a'
 | .mk o s r=>.mk o s (h.r _ _ r)
theorem VR.mono{ρ aQ:Ren}(h:ρ.le aQ){v v':Value}(x:VR ρ v v'):VR aQ v v':=by
 induction x with
 | bool b=>exact .bool b
 | int k n=>exact .int k n
 | float k n=>exact .float k n
 | complex k n m=>exact .complex k n m
 | string s=>exact .string s
 | ptrN=>exact .ptrN
 | ptr a=>exact .ptr (a.mono h)
 | sliceN l c=>exact .sliceN l c
 | slice l c a=>exact .slice l c (a.mono h)
 | mapN=>exact .mapN
 | map r=>exact .map (h.r _ _ r)
 | chanN=>exact .chanN
 | func f hf s1 s2 _ _ h1 h2=>exact .func f (h.F▸hf) s1 s2 h1 h2
 | nilFunc=>exact .nilFunc
 | iface t _ ih=>exact .iface t ih
 | nilIface=>exact .nilIface
 | junk a=>exact .junk a
 | agg s _ ih=>exact .agg s ih
 | tuple s _ ih=>exact .tuple s ih
theorem AR.mono{ρ aQ:Ren}(h:ρ.le aQ){p p':Array Value}(x:AR ρ p p'):AR aQ p p':=⟨x.size,fun i a b ha hb=>(x.get i a b ha hb).mono h⟩
theorem AR.nil{ρ:Ren}:AR ρ #[] #[]:=⟨rfl,fun i x y h _=>by simp at h⟩
theorem AR.push{ρ:Ren}{p p':Array Value}{v v':Value}(h:AR ρ p p')(g:VR ρ v v'):AR ρ (p.push v) (p'.push v'):=by
 refine⟨by simp [h.size],fun i x y hx hy=>?_⟩;rw [aiB] at hx hy;rw [<- h.size] at hy;split at hx
 ·rename_i e;rw [if_pos e] at hy;cases hx;cases hy;exact g
 ·rename_i e;rw [if_neg e] at hy;exact h.get i x y hx hy
theorem AR.some{ρ:Ren}{p p':Array Value}(h:AR ρ p p'){i:Nat}{x:Value}(hx:p[i]?=some x):∃ y,p'[i]?=.some y/\VR ρ x y:=by
 have hl:=(ahx.1 hx).1;rw [h.size] at hl;exact⟨p'[i],by simp [hl],h.get i x _ hx (by simp [hl])⟩
theorem AR.none{ρ:Ren}{p p':Array Value}(h:AR ρ p p'){i:Nat}(hx:p[i]?=none):p'[i]?=.none:=by
 rw [Array.getElem?_eq_none_iff] at hx ⊢;rw [<- h.size];exact hx
structure ER(ρ:Ren)(es gB:Array MapEntry):Prop where
 size:es.size=gB.size
 get:∀ (i:Nat) x y,es[i]?=some x->gB[i]?=some y->VR ρ x.key y.key/\VR ρ x.val y.val/\x.born=y.born
def Rm(q:Prop)(z z':Nat×Nat):Prop:=z=z'∨¬ q/\(z'=(0,0)∨(z.1≠z.2/\z.1<=z'.1/\z'.2<=z.2))
inductive OR(ρ:Ren):Obj->Obj->Prop
 | cells {c c':Array Value} (e:TypeId) {z z':Nat×Nat}:Rm ρ.eq z z'->AR ρ c c'->OR ρ (.cells c e z) (.cells c' e z')
 | map {es gB:Array MapEntry} (k:Nat):ER ρ es gB->OR ρ (.map es k) (.map gB k)
 | iter (s:ByteArray) (n:Nat):OR ρ (.stringIter s n) (.stringIter s n)
 | view {a a':Addr} (t:TypeId):cu ρ a a'->OR ρ (.view a t) (.view a' t)
 | number {a a':Addr} (b:Bool):cu ρ a a'->OR ρ (.number a b) (.number a' b)
theorem OR.mono{ρ aQ:Ren}(h:ρ.le aQ){o o':Obj}:OR ρ o o'->OR aQ o o'
 | .cells e z a=>.cells e (h.eq▸z) (a.mono h)
 | .map k e=>.map k ⟨e.size,fun i x y hx hy=>let ⟨a,b,c⟩:=e.get i x y hx hy;⟨a.mono h,b.mono h,c⟩⟩
 | .iter s n=>.iter s n
 | .view t a=>.view t (a.mono h)
 | .number b a=>.number b (a.mono h)
structure WR(ρ:Ren)(w w':World):Prop where
 lo:ρ.g<=w.heap.size/\ρ.g<=w'.heap.size
 obj:∀ b b',ρ b b'->∃ o o',w.heap[b]?=some o/\w'.heap[b']?=some o'/\OR ρ o o'
 std:∀ a u,ρ.m a u->w.cell? a=some u/\w'.cell? a=some u
def sx:Halt->Prop
 | .panic _=>True
 | .stuck _=>True
 | .unsupported (.initOrder _)=>False
 | .unsupported _=>True
 | _=>False
inductive Ts(P:Program){α:Type}:Sem α->Prop
 | pure (a:α):Ts P (.pure a)
 | program {k:Program->Sem α}:Ts P (k P)->Ts P (.program k)
 | choose {q:Question} {k:Nat->Sem α}:(∀ n,Ts P (k n))->Ts P (.choose q k)
 | new {o:Obj} {k:Nat->Sem α}:(∀ n,Ts P (k n))->Ts P (.new o k)
 | mark {m:Mark} {k:Sem α}:Ts P k->Ts P (.mark m k)
 | shape {r:Nat} {k:Option (TypeId×Nat)->Sem α}:(∀ s,Ts P (k s))->Ts P (.shape r k)
 | frozen {a:Addr} {k:Bool->Sem α}:(∀ b,Ts P (k b))->Ts P (.frozen a k)
 | env {k:SysRet->Sem α}:(∀ r,Ts P (k r))->Ts P (.sys .env k)
 | halt {h:Halt}:sx h->Ts P (.halt h)
inductive Dd(P:Program){α:Type}:Sem α->Prop
 | program {k:Program->Sem α}:Dd P (k P)->Dd P (.program k)
 | choose {q:Question} {k:Nat->Sem α}:(∀ n,Dd P (k n))->Dd P (.choose q k)
 | new {o:Obj} {k:Nat->Sem α}:(∀ n,Dd P (k n))->Dd P (.new o k)
 | mark {m:Mark} {k:Sem α}:Dd P k->Dd P (.mark m k)
 | shape {r:Nat} {k:Option (TypeId×Nat)->Sem α}:(∀ s,Dd P (k s))->Dd P (.shape r k)
 | frozen {a:Addr} {k:Bool->Sem α}:(∀ b,Dd P (k b))->Dd P (.frozen a k)
 | env {k:SysRet->Sem α}:(∀ r,Dd P (k r))->Dd P (.sys .env k)
 | halt {h:Halt}:sx h->Dd P (.halt h)
theorem Dd.bind{P:Program}{α β:Type}{s:Sem α}{f:α->Sem β}(h:Dd P s):Dd P (s.bind f):=by
 induction h with
 | program _ ih=>exact .program ih
 | choose _ ih=>exact .choose ih
 | new _ ih=>exact .new ih
 | mark _ ih=>exact .mark ih
 | shape _ ih=>exact .shape ih
 | frozen _ ih=>exact .frozen ih
 | env _ ih=>exact .env ih
 | halt h=>exact .halt h
theorem Ts.dead{P:Program}{α β:Type}{s:Sem α}{f:α->Sem β}(h:Ts P s)(k:∀ a,Dd P (f a)):Dd P (s.bind f):=by
 induction h with
 | pure a=>exact k a
 | program _ ih=>exact .program ih
 | choose _ ih=>exact .choose ih
 | new _ ih=>exact .new ih
 | mark _ ih=>exact .mark ih
 | shape _ ih=>exact .shape ih
 | frozen _ ih=>exact .frozen ih
 | env _ ih=>exact .env ih
 | halt h=>exact .halt h
theorem Ts.bind{P:Program}{α β:Type}{s:Sem α}{f:α->Sem β}(h:Ts P s)(k:∀ a,Ts P (f a)):Ts P (s.bind f):=by
 induction h with
 | pure a=>exact k a
 | program _ ih=>exact .program ih
 | choose _ ih=>exact .choose ih
 | new _ ih=>exact .new ih
 | mark _ ih=>exact .mark ih
 | shape _ ih=>exact .shape ih
 | frozen _ ih=>exact .frozen ih
 | env _ ih=>exact .env ih
 | halt h=>exact .halt h
inductive SR(P:Program){α β:Type}(R:Ren->α->β->Prop):Ren->Sem α->Sem β->Prop
 | pure {ρ a b}:R ρ a b->SR P R ρ (.pure a) (.pure b)
 | load {ρ a a' k k'}:cu ρ a a'->(∀ v v',VR ρ v v'->SR P R ρ (k v) (k' v'))->SR P R ρ (.load .plain a k) (.load .plain a' k')
 | peek {ρ a u k k'}:ρ.m a u->SR P R ρ (k u) (k' u)->SR P R ρ (.load .plain a k) (.load .plain a k')
 | store {ρ a a' v v' k k'}:cu ρ a a'->VR ρ v v'->SR P R ρ k k'->SR P R ρ (.store .plain a v k) (.store .plain a' v' k')
 | new {ρ o o' k k'}:OR ρ o o'->(∀ r r' (aQ:Ren),ρ.le aQ->aQ r r'->SR P R aQ (k r) (k' r'))->SR P R ρ (.new o k) (.new o' k')
 | shape {ρ r r' k k'}:ρ r r'->(∀ s,SR P R ρ (k s) (k' s))->SR P R ρ (.shape r k) (.shape r' k')
 | freeze {ρ a a' n k k'}:cu ρ a a'->SR P R ρ k k'->SR P R ρ (.freeze a n k) (.freeze a' n k')
 | frozen {ρ a a' k k'}:cu ρ a a'->(∀ b b',(b'=true->b=true)->(ρ.eq->b=b')->SR P R ρ (k b) (k' b'))->SR P R ρ (.frozen a k) (.frozen a' k')
 | shapeR {ρ r' k k'}:(∀ s,SR P R ρ k (k' s))->SR P R ρ k (.shape r' k')
 | frozenR {ρ a' k k'}:(∀ b,SR P R ρ k (k' b))->SR P R ρ k (.frozen a' k')
 | getObj {ρ r r' k k'}:ρ r r'->(∀ o o',OR ρ o o'->SR P R ρ (k o) (k' o'))->SR P R ρ (.getObj r k) (.getObj r' k')
 | setObj {ρ r r' o o' k k'}:ρ r r'->OR ρ o o'->SR P R ρ k k'->SR P R ρ (.setObj r o k) (.setObj r' o' k')
 | choose {ρ q k k'}:(∀ n,SR P R ρ (k n) (k' n))->SR P R ρ (.choose q k) (.choose q k')
 | chooseL {ρ q k k'} (t:Nat):¬ ρ.eq->q.forced=false->SR P R ρ (k (q.cut t)) k'->SR P R ρ (.choose q k) k'
 | program {ρ k k'}:SR P R ρ (k P) (k' P)->SR P R ρ (.program k) (.program k')
 | room {ρ k k'}:SR P R ρ k k'->SR P R ρ (.mark .noRoom k) (.mark .noRoom k')
 | ext {ρ k k'} (f:FuncId):SR P R ρ k k'->SR P R ρ (.mark (.extern f) k) (.mark (.extern f) k')
 | dead {ρ s s'}:Dd P s->SR P R ρ s s'
theorem SR.bind{P:Program}{α β γ δ:Type}{R:Ren->α->β->Prop}{Q:Ren->γ->δ->Prop}{ρ:Ren}{s:Sem α}{s':Sem β}{f:α->Sem γ}{g:β->Sem δ}
  (h:SR P R ρ s s') (k:∀ aQ,ρ.le aQ->∀ a b,R aQ a b->SR P Q aQ (f a) (g b)):SR P Q ρ (s.bind f) (s'.bind g):=by
 induction h with
 | pure r=>exact k _ (.refl _) _ _ r
 | load a _ ih=>exact .load a fun v v' hv=>ih v v' hv k
 | peek h _ ih=>exact .peek h (ih k)
 | store a v _ ih=>exact .store a v (ih k)
 | new o _ ih=>exact .new o fun r r' aQ hl hr=>ih r r' aQ hl hr fun σ hs a b yh=>k σ (hl.trans hs) a b yh
 | shape r _ ih=>exact .shape r fun s=>ih s k
 | freeze a _ ih=>exact .freeze a (ih k)
 | frozen a _ ih=>exact .frozen a fun b b' h1 h2=>ih b b' h1 h2 k
 | shapeR _ ih=>exact .shapeR fun s=>ih s k
 | frozenR _ ih=>exact .frozenR fun b=>ih b k
 | getObj r _ ih=>exact .getObj r fun o o' ho=>ih o o' ho k
 | setObj r o _ ih=>exact .setObj r o (ih k)
 | choose _ ih=>exact .choose fun n=>ih n k
 | chooseL t h1 h2 _ ih=>exact .chooseL t h1 h2 (ih k)
 | program _ ih=>exact .program (ih k)
 | room _ ih=>exact .room (ih k)
 | ext f _ ih=>exact .ext f (ih k)
 | dead h=>exact .dead h.bind
theorem SR.Bn{P:Program}{α β:Type}{R Q:Ren->α->β->Prop}{ρ:Ren}{s:Sem α}{s':Sem β}(h:SR P R ρ s s')(k:∀ aQ a b,R aQ a b->Q aQ a b):SR P Q ρ s s':=by
 induction h with
 | pure r=>exact .pure (k _ _ _ r)
 | load a _ ih=>exact .load a ih
 | peek h _ ih=>exact .peek h ih
 | store a v _ ih=>exact .store a v ih
 | new o _ ih=>exact .new o ih
 | shape r _ ih=>exact .shape r ih
 | freeze a _ ih=>exact .freeze a ih
 | frozen a _ ih=>exact .frozen a ih
 | shapeR _ ih=>exact .shapeR ih
 | frozenR _ ih=>exact .frozenR ih
 | getObj r _ ih=>exact .getObj r ih
 | setObj r o _ ih=>exact .setObj r o ih
 | choose _ ih=>exact .choose ih
 | chooseL t h1 h2 _ ih=>exact .chooseL t h1 h2 ih
 | program _ ih=>exact .program ih
 | room _ ih=>exact .room ih
 | ext f _ ih=>exact .ext f ih
 | dead h=>exact .dead h
end CO
