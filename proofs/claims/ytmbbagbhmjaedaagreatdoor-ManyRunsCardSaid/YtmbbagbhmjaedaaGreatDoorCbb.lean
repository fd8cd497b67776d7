/- Part of the proof. -/
import Derived.Test.YtmbbagbhmjaedaaGreatDoorCba
set_option linter.all false
namespace FM
open Go Go.RowKit
variable {cs:List AV}
theorem BE{x:AV}(h:x.aR=true):NoSh x:=by
 cases x<;>first|exact .int|exact .bool|exact .str|exact .val|exact .nil|(simp [AV.aR] at h)
theorem jk(h:cs.all AV.aR=true):NoSh (.agg cs):=.agg fun x hx=>BE (ahM.1 h x hx)
section
variable {S:Sys} {σ:St} {d:Nat} {ty:Nat} {pos:String} {aft:Array Edge} {g:Option (Nat×Bool)}
inductive eZ(σ:St):Nat->List AV->List (Nat×Operand)->List AV->Prop
 | nil {k}:eZ σ k [] [] []
 | part {k i:Nat} {z y:AV} {x:Operand} {zs ys:List AV} {ps:List (Nat×Operand)} (hi:Nat.beq k i=true) (hx:ov σ x=.av y) (hy:y.dK=true) (ho:y.aW=false) (h:eZ σ (k+1) zs ps ys):eZ σ k (z::zs) ((i,x)::ps) (y::ys)
 | zero {k:Nat} {z:AV} {zs ys:List AV} {ps:List (Nat×Operand)} (h:eZ σ (k+1) zs ps ys):eZ σ k (z::zs) ps (z::ys)
theorem eZ.length{k:Nat}{zs ys:List AV}{ps:List (Nat×Operand)}(h:eZ σ k zs ps ys):ys.length=zs.length:=by
 induction h with
 | nil=>rfl
 | part _ _ _ _ _ ih=>simp [ih]
 | zero _ ih=>simp [ih]
theorem eZ.run{w0:World}{L0:Nat->aO}{N:Nat}{a:Act}{w:World}{L:Nat->aO}(hR:RelL S w0 L0 N σ a w L){place:Nat->Option (Nat×Nat)}{n:Nat}(hp:∀ i,i<n->place i=some (i,1)){k:Nat}{zs ys:List AV}{ps:List (Nat×Operand)}(h:eZ σ k zs ps ys):
  ∀ cells:Array Value,cells.size=n->k+zs.length=n->(∀ j z,zs[j]?=some z->∃ u,cells[k+j]?=some u/\Rep L w none z u) ->
   ∃ fL,Instr.fill place cells (ps.map fun p=>(p.1,a.eval p.2))=some fL/\fL.size=n/\(∀ j,j<k->fL[j]?=cells[j]?)/\∀ j y,ys[j]?=some y->∃ u,fL[k+j]?=some u/\Rep L w none y u:=by
 induction h with
 | nil=>exact fun cells hs _ _=>⟨cells,rfl,hs,fun _ _=>rfl,fun j y hy=>by simp at hy⟩
 | @part k i z y x zs ys ps hi hx hy ho _ ih =>
  intro cells hs hk hz;have hi:=ahz hi;subst hi;rw [ahI] at hk;obtain⟨m,hm⟩:=cU hR hx;obtain⟨c1,c2,c3⟩:=fx hm hy;have tY:Rep L w none y (a.eval x):=Rep.replace hm ho;have aA:k<cells.size:=ae
  obtain⟨fL,e1,e2,e3,e4⟩:=ih (cells.setIfInBounds k (a.eval x)) (by simp [hs]) ae (fun j z' qw=>by
   obtain⟨u,hu,hr⟩:=hz (j+1) z' (by simpa using qw)
   refine⟨u,?_,hr⟩
   rw [ahw ae,show k+1+j=k+(j+1) by omega];exact hu)
  refine⟨fL,?_,e2,fun j hj=>by rw [e3 j ae,ahw ae],fun j y' qx=>?_⟩
  ·simp only [aiw,Instr.fill,hp k ae];have bc:(a.eval x).cells.size=1:=by rw [c1];rfl
   have cr:((a.eval x).cells.size≠1||k+(a.eval x).cells.size>cells.size)=false:=by
    simp [bc];omega
   simp only [cr,ahD,if_false];have hf:((a.eval x).cells.zipIdx.foldl (fun cs (p:Value×Nat)=>cs.setIfInBounds (k+p.2) p.1) cells)=cells.setIfInBounds k (a.eval x):=by
    rw [c1];simp
   rw [<- hf] at e1;exact e1
  ·cases j with
   | zero =>
    simp only [ahq,ahp] at qx;subst qx;refine⟨a.eval x,?_,tY⟩;rw [aib,e3 k ae];simp [aA]
   | succ j =>
    simp only [ahP] at qx;obtain⟨u,hu,hr⟩:=e4 j y' qx;exact⟨u,by rw [show k+(j+1)=k+1+j by omega];exact hu,hr⟩
 | @zero k z zs ys ps _ ih =>
  intro cells hs hk hz;rw [ahI] at hk
  obtain⟨fL,e1,e2,e3,e4⟩:=ih cells hs ae (fun j z' qw=>by
   obtain⟨u,hu,hr⟩:=hz (j+1) z' (by simpa using qw)
   exact⟨u,by rw [show k+1+j=k+(j+1) by omega];exact hu,hr⟩)
  refine⟨fL,e1,e2,fun j hj=>e3 j ae,fun j y' qx=>?_⟩
  cases j with
  | zero =>
   simp only [ahq,ahp] at qx;subst qx;obtain⟨u,hu,hr⟩:=hz 0 z rfl;exact⟨u,by rw [aib,e3 k ae];exact hu,hr⟩
  | succ j =>
   simp only [ahP] at qx;obtain⟨u,hu,hr⟩:=e4 j y' qx;exact⟨u,by rw [show k+(j+1)=k+1+j by omega];exact hu,hr⟩
def yQ(T:Nat->Option TI):List (Nat×Nat)->Nat->Bool
 | [],_=>true
 | f::fs,j=>Nat.beq f.1 j&&(match T f.2 with|some ti=>Nat.beq ti.size 1|none=>false)&&yQ T fs (j+1)
theorem uR{T:Nat->Option TI}:∀ {fs:List (Nat×Nat)} {j i:Nat} {f:Nat×Nat},yQ T fs j=true->fs[i]?=some f->f.1=j+i/\∃ ti,T f.2=some ti/\ti.size=1
 | [],j,i,f,_,h=>by simp at h
 | x::fs,j,i,f,h,hf=>by
  simp only [yQ,aht] at h
  cases i with
  | zero =>
   simp only [ahq,ahp] at hf;subst hf;refine⟨ahz h.1.1,?_⟩;have h2:=h.1.2
   cases hT:T x.2 with
   | none=>rw [hT] at h2;cases h2
   | some ti=>rw [hT] at h2;exact⟨ti,rfl,ahz h2⟩
  | succ i =>
   simp only [ahP] at hf;have:=uR (j:=j+1) h.2 hf;exact⟨ae,this.2⟩
theorem H5{t sz cA:Nat}{fs:List (Nat×Nat)}{zz ys:List AV}{ps:Array (Nat×Operand)}(hT:S.T t=some ⟨.struct fs,sz,cA,zz⟩)(hf:yQ S.T fs 0=true)(hl:Nat.beq fs.length sz=true)(hp:eZ σ 0 zz ps.toList ys):Step S ⟨some d,.build t ps,ty,pos,aft,g⟩ σ (σ.put d (.av (.agg ys))):=by
 refine step_val rfl fun w0 L0 N a w L hR=>?_;have hl:=ahz hl;obtain⟨f,zv,lC,j4,uO,yz,wa,DC,Bg⟩:=(S.ok t _ hT).info;obtain⟨dd,hd,fields,qC,DV⟩:=(S.ok t _ hT).desc;subst qC;simp only at j4 uO wa DC Bg;have wB:fields.size=sz:=by
  have:=congrArg List.length DV;rw [ahu,aiA] at this;omega
 have DD:zz.length=sz:=by
  have:=congrArg List.length wa;rw [ahu,aiA] at this;omega
 have aH:∀ j z,zz[j]?=some z->∃ u,zv.cells[0+j]?=some u/\Rep L w none z u:=fun j z hz=>by
  refine⟨z.toV,?_,toV_rep (ahM.1 DC z (ahH hz))⟩;rw [ahR,<-air,wa,ahE,hz];rfl
 have Qr:∀ (i:Nat) (fd:Field),fields[i]?=some fd->fd.offset=i/\∃ fe,S.P.info? fd.type=some fe/\fe.size=1:=fun i fd hfd=>by
  have h1:fs[i]?=some (fd.offset,fd.type):=by rw [<- DV,ahE,air,hfd];rfl
  obtain⟨h2,ti,h3,h4⟩:=uR hf h1;obtain⟨fe,h5,h6⟩:=(S.ok _ ti h3).size;exact⟨by simpa using h2,fe,h5,by rw [h6,h4]⟩
 obtain⟨fL,e1,e2,_,e4⟩:=hp.run hR (place:=fun i=>((Array.range sz).map fun i=>(i,1))[i]?) (n:=sz) (fun i hi=>by simp [hi]) zv.cells Bg (by rw [DD];omega) aH;refine⟨.agg fL,fun w' _=>?_,?_⟩
 ·have wC:(fields.mapM fun f=>do pure (f.offset,<-Go.sizeOf f.type):Sem (Array (Nat×Nat))).run S.P w'=.ok ((Array.range sz).map fun i=>(i,1)) w':=by
   have X5:=nk (P:=S.P) (w:=w') (fun f:Field=>(do pure (f.offset,<-Go.sizeOf f.type):Sem (Nat×Nat))) fields.toList ((List.range sz).map fun i=>(i,1)) (by simp [wB]) (fun k x v hx hv=>by
    rw [air] at hx
    obtain⟨h1,fe,h2,h3⟩:=Qr k x hx
    have hk:k<sz:=by rw [<- wB];exact(ahx.1 hx).1
    rw [ahE,List.getElem?_range hk] at hv
    simp only [ah2,ahp] at hv
    subst hv
    simp [Go.sizeOf,typeInfo,h2,h3,h1])
   rw [Array.mapM_eq_mapM_toList];simp only [map_eq_pure_bind,Sem.run_bind,X5,Result.andThen_ok,Sem.run_pure];congr 1
   apply Array.ext';simp
  simp only [execOp,Sem.run_bind,Instr.build,zeroValue,typeInfo,run_program,lC,yz,Result.andThen_ok,Sem.run_pure,run_underlying hd];rw [wC];simp only [Result.andThen_ok,Array.toList_map];rw [show(ps.toList.map fun x=>match x with|(i,x)=>(i,a.eval x))=ps.toList.map fun p=>(p.1,a.eval p.2) from rfl,e1];simp
 ·have X6:ys.length=sz:=by rw [hp.length,DD]
  have:(Value.agg fL)=.agg fL.toList.toArray:=ag;rw [this];refine .agg (by rw [aiA,e2,X6]) fun i x v hx hv=>?_;obtain⟨u,hu,hr⟩:=e4 i x hx;rw [ahR] at hu;rw [air,hu] at hv;cases hv;exact hr
theorem Qs{x:Operand}{s:Nat}{o:Bool}(hx:ov σ x=.ref s)(hs:get σ s=.av (.pt o cs))(c8:Nat.beq s d=false):Step S ⟨some d,.nilCheck x,ty,pos,aft,g⟩ σ (σ.put d (.ref s)):=by
 intro w0 L0 N a w hN ⟨L,h⟩;obtain⟨m,hm,_⟩:=aM h hx ag;simp only [Hold] at hm;have hh:=h.hold s (aJ h hs ag);rw [hs,<-hm] at hh;obtain⟨ad,hv⟩:∃ ad,a.eval x=.pointer (some ad):=by generalize a.eval x=v at hh;cases hh<;>exact⟨_,rfl⟩
 refine⟨a.eval x,fun w' _=>?_,_,h.put (hN d rfl) ?_⟩
 ·simp [execOp,hv]
 ·simp only [Hold];rw [hm,ay (fun e=>aC c8 e.symm)]
theorem Qt{x:Operand}(hx:ov σ x=.av (.pt false cs)):Step S ⟨some d,.nilCheck x,ty,pos,aft,g⟩ σ (σ.put d (.av (.pt false cs))) :=
 step_val rfl fun w0 L0 N c w L hR=>by
  obtain⟨m,hm⟩:=cU hR hx;obtain⟨ad,hv⟩:∃ ad,c.eval x=.pointer (some ad):=by generalize c.eval x=v at hm;cases hm;exact⟨_,rfl⟩
  exact⟨c.eval x,fun w' _=>by simp [execOp,hv],Rep.replace hm rfl⟩
end
end FM
namespace FM
open Go
variable {S:Sys}{σ:St}{i id N fuel:Nat}{l:List Oper}{listed:List Bool}{K:St->Prop}
theorem kC.mk{n:Int}(h:-9223372036854775808<=n/\n<=9223372036854775807):kC n:=h
theorem get_map{α:Type}{f:α->AV}{l:List α}{a:α}(h:l[i]?=some a):(l.map f)[i]?=some (f a):=by rw [ahE,h];rfl
section
variable {K:St->Prop} {Q:Exit->St->Prop} {σ:St}
theorem wD(h:K σ):pw K Q .normal σ:=h
theorem wF(h:Q (.exit i) σ):pw K Q (.exit i) σ:=h
theorem wG(h:Q .ret σ):pw K Q .ret σ:=h
theorem rE(h:Q .normal σ):kE id Q .normal σ:=h
theorem rG(h:Q .ret σ):kE id Q .ret σ:=h
theorem rH(hi:Nat.beq i id=true)(h:Q .normal σ):kE id Q (.exit i) σ:=by simp only [kE,hi];exact h
theorem rI(hi:Nat.beq i id=false)(h:Q (.exit i) σ):kE id Q (.exit i) σ:=by simp only [kE,hi];exact h
end
def N4(ops:Array Oper):Option (Nat×Bool)->Option Nat
 | none=>none
 | some (j,_)=>(ops[j]?).bind (·.dst)
section
variable {S:Sys} {N:Nat} {σ:St} {q:Bool} {ops:Array Oper} {l:List Oper} {K:St->Prop} {o:Oper} {t:Nat}
theorem J.Qu{p:Prop}{inst:Decidable p}(_hg:N4 ops o.guard=some t)(ht:get σ t=.av (.bool (decide p)))(h1:p->J q S N ops (o::l) K (σ.upd true t (.av (.bool true))))(h2:¬ p->J q S N ops (o::l) K (σ.upd true t (.av (.bool false)))):J q S N ops (o::l) K σ :=
 .Pv ht (fun h bx e=>by subst e;exact h1 h) (fun h bx e=>by subst e;exact h2 h)
theorem J.splitB{b:Bool}(_hg:N4 ops o.guard=some t)(ht:get σ t=.av (.bool b))(h1:b=true->J q S N ops (o::l) K (σ.upd true t (.av (.bool true))))(h2:b=false->J q S N ops (o::l) K (σ.upd true t (.av (.bool false)))):J q S N ops (o::l) K σ :=
 .split ht (fun h bx e=>by subst e;exact h1 h) (fun h bx e=>by subst e;exact h2 h)
end
theorem BF{o:Bool}{c:Nat}{l l':List Int}(h:l=l'):TV.av (.sl o c (l.map .int))=.av (.sl o c (l'.map .int)):=by rw [h]
theorem rJ{α:Type}{f:α->AV}{o:Bool}{c:Nat}{l l':List α}(h:l=l'):TV.av (.sl o c (l.map f))=.av (.sl o c (l'.map f)):=by rw [h]
theorem bf{n n':Int}(h:n=n'):TV.av (.int n)=.av (.int n'):=by rw [h]
theorem uS:∀ {xs9:List AV},(xs9.all fun x=>!x.aW)=true->∀ (i:Nat) (x y:AV),xs9[i]?=some x->xs9[i]?=some y->(x.aW=false/\y=x)∨(S.M i=true/\(get σ i=.av y∨y=.dead)):=fun{xs9} h i x y hx hy=>by
 rw [hx] at hy;injection hy with hy;subst hy
 exact .inl ⟨by simpa using ahM.1 h x (ahH hx),rfl⟩
theorem Ret.mk{eR:List ResultVar}{xs9:List AV}{rs:List AV}{r:AV}(hr:yr S σ eR=some rs)(hp:r=pack rs)(hs:(xs9.all fun x=>!x.aW)=true):Ret S eR xs9 xs9 r .ret σ :=
 ⟨rfl,⟨rs,hr,hp▸.refl _⟩,rfl,uS hs⟩
theorem Ret.KN{eR:List ResultVar}{xs9:List AV}{rs:List AV}{r:AV}(hr:yr S σ eR=some rs)(hp:AV.le (pack rs) r)(hs:(xs9.all fun x=>!x.aW)=true):Ret S eR xs9 xs9 r .ret σ :=
 ⟨rfl,⟨rs,hr,hp⟩,rfl,uS hs⟩
theorem nB{a b c d:AV}(h1:AV.le a c)(h2:AV.le b d):AV.le (.tup [a,b]) (.tup [c,d]):=.tup rfl fun i x y hx hy=>by
 match i with
 | 0=>simp only [ahq,ahp] at hx hy;subst hx;subst hy;exact h1
 | 1=>simp only [ahP,ahq,ahp] at hx hy;subst hx;subst hy;exact h2
 | i+2=>simp at hx
theorem Ug{σ:St}{t e c:Nat}{sz cA:Nat}{zz:List AV}{ti:TI}{ys:List AV}{n d ty:Nat}{ps:Array (Nat×Operand)}{pos:String}{aft:Array Edge}{g:Option (Nat×Bool)}(hT:S.T t=some ⟨.slice e,sz,cA,zz⟩)(hE:S.T e=some ti)(hc:ti.size=c)
  (Lp:ps=((ps.toList.map (·.2)).zipIdx.map fun p=>(p.2,p.1)).toArray) (hn:(ps.toList.map (·.2)).length=n) (hp:di σ (ps.toList.map (·.2)) ys) (hok:ys.all (fun y=>y.fV&&Nat.beq y.cells.length c)=true) (hb:Nat.ble (n*c) 16777216=true) :
  EStep S ⟨some d,.buildSlice t n ps,ty,pos,aft,g⟩ σ (σ.put d (.av (.sl true c ys))):=TN hT hE hc Lp hn hp hok hb
section
variable {S:Sys} {N:Nat} {σ:St} {P:Program} {f:Nat} {xs9:List AV} {r:AV} {xs:List Operand} {b:Bool} {ops:Array Oper} {l:List Oper} {K:St->Prop} {d ty:Nat} {ts:Array Nat} {pos:String} {aft:Array Edge} {g:Option (Nat×Bool)}
theorem J.bq(hs:FnSpec P f xs9 xs9 r)(hP:P=S.P)(hg:live ops g σ=some true)(ha:aV S N σ xs b xs9)(hb:b=true->NoSh r)(h:J false S N ops l K (σ.put d (.av r))):
  J false S N ops (⟨some d,.call ⟨.value (.func f),xs.toArray,ts⟩,ty,pos,aft,g⟩::l) K σ:=by subst hP;exact J.call hs hg ha hb h
theorem J.dE(hs:FnSpec P f xs9 xs9 r)(hP:P=S.P)(hg:live ops g σ=some true)(ha:aV S N σ xs b xs9)(hr:r.aR=true)(h:J true S N ops l K (σ.put d (.av r))):
  J true S N ops (⟨some d,.call ⟨.value (.func f),xs.toArray,ts⟩,ty,pos,aft,g⟩::l) K σ:=by subst hP;exact J.TZ hs hg ha hr h
end
def Oper.Uh(o:Oper):Bool:=match o.op with
 | .store ..|.buildSlice ..|.makeSlice ..|.alloc ..|.box ..|.makeMap ..|.mapUpdate ..=>false
 | .call c=>match c.callee with
  | .builtin .append|.builtin .copy|.builtin .clear|.builtin .delete=>false
  | _=>true
 | _=>true
theorem CW.N5{Q:Exit->St->Prop}(_hn:l.all Oper.Uh=true)(hB:Region.lexB .any l.toArray=true)(hd:dstOk S N l=true)(h:J true S N l.toArray l (Q .normal) σ):CW S N (.region id l.toArray true) Q σ:=.XF hB hd h
theorem w9t{a b:TV}(h:a=b):a=b:=h
theorem w9u{a b:Option TI}(h:a=b):a=b:=h
theorem bu{p:Prop}(h:p:=by first|rfl|((fail_if_success (with_reducible refine w9t ?_));(fail_if_success (with_reducible refine w9u ?_));first|assumption|exact get_map (by assumption)|exact Ui (by first|assumption|(simp only [ahu];omega))|omega|exact kC.mk ae|exact kC.mk (by dsimp only;omega)|exact AV.noConfusion|exact kJ.int|exact fl.int|exact fl.lit rfl|exact kJ.map (fun _=>rfl)|exact fl.map (fun _=>rfl)|exact of_decide_eq_true rfl|(simp only [ahC,aiy,ahu,ahI,aim,ahF,ahV,List.length_replicate] at *;omega))|fail):p:=h
theorem W4{p:Prop}(h:p:=by first|exact(rfl:_=TV.av _)|rfl|fail):p:=h
theorem aE{p:Prop}(h:False:=by first|omega|fail):p:=h.elim
theorem l6{p:Prop}(h:False:=by first|(simp only [decide_eq_true_eq,decide_eq_false_iff_not,aht,aiR] at *;omega)|fail):p:=h.elim
theorem ck{p:Prop}(h:p:=by(repeat' (first|exact ky|refine And.intro ?_ ?_))):p:=h
theorem st{o:Oper}{bx:St}(h:Step S o σ bx:=by(first|((with_reducible apply To)<;>exact W4)|((with_reducible apply Tq)<;>exact W4)|((with_reducible apply Pg)<;>exact bu)|((with_reducible apply X7)<;>exact bu)|((with_reducible apply Pn)<;>exact bu)|((with_reducible apply Po)<;>exact bu)|((with_reducible apply TB)<;>exact bu)|((with_reducible apply TC)<;>exact bu)|((with_reducible apply TD)<;>exact bu)|((with_reducible apply abo)<;>exact bu)|((with_reducible apply abp)<;>exact bu)|((with_reducible apply W5)<;>exact bu)|((with_reducible apply Pk)<;>exact bu)|((with_reducible apply Pm)<;>exact bu)|((with_reducible apply X8)<;>exact bu)|((with_reducible apply X9)<;>exact bu)|((with_reducible apply Tu)<;>exact bu)|((with_reducible apply Tv)<;>exact bu)|((with_reducible apply Tw)<;>exact bu)|((with_reducible apply Tx)<;>exact bu)|((with_reducible apply Tz)<;>exact bu)|((with_reducible apply Ya)<;>exact bu)|((with_reducible apply Yb)<;>exact bu)|((with_reducible apply Uj)<;>exact bu)|((with_reducible apply NL)<;>exact bu)|((with_reducible apply Tr)<;>exact bu)|((with_reducible apply Tt)<;>exact bu)|((with_reducible apply NI)<;>exact bu)|((with_reducible apply Ph)<;>exact bu)|((with_reducible apply Hj)<;>exact bu)|((with_reducible apply Pj)<;>exact bu)|((with_reducible apply Hk)<;>exact bu)|((with_reducible apply Pp)<;>exact bu)|((with_reducible apply Pq)<;>exact bu)|((with_reducible apply Lh)<;>exact W4)|((with_reducible apply Li)<;>exact W4)|((with_reducible apply abq)<;>exact bu)|((with_reducible apply Yc)<;>exact bu)|((with_reducible apply TA)<;>exact bu)|((with_reducible apply abr)<;>exact bu)|((with_reducible apply abt)<;>exact bu)|((with_reducible apply Yd)<;>exact bu)|((with_reducible apply Ye)<;>exact bu)|((with_reducible apply NJ)<;>exact bu)|((with_reducible apply NK)<;>exact bu)|((with_reducible apply PZ)<;>exact bu)|((with_reducible apply Yf)<;>exact bu)|((with_reducible apply NM)<;>exact bu)|((with_reducible apply Yg)<;>exact bu)|((with_reducible apply abu)<;>exact bu)|((with_reducible apply Yh)<;>exact bu)|((with_reducible apply abv)<;>exact bu)|((with_reducible apply SO)<;>exact bu)|((with_reducible apply HS)<;>exact bu)|((with_reducible apply s_xorN)<;>exact bu)|((with_reducible apply NU)<;>exact bu)|((with_reducible apply abw)<;>exact bu)|((with_reducible apply PV)<;>exact bu)|((with_reducible apply HQ)<;>exact bu)|((with_reducible apply HR)<;>exact bu)|((with_reducible apply Uk)<;>exact bu)|((with_reducible apply yH)<;>exact bu)|((with_reducible apply Ul)<;>exact bu)|((with_reducible apply P5)<;>exact bu)|((with_reducible apply P6)<;>exact bu)|((with_reducible apply P8)<;>exact bu)|((with_reducible apply P9)<;>exact bu)|((with_reducible apply Qa)<;>exact bu)|((with_reducible apply Qb)<;>exact bu)|((with_reducible apply Qc)<;>exact bu)|((with_reducible apply Qd)<;>exact bu)|((with_reducible apply Qe)<;>exact bu)|((with_reducible apply LL)<;>exact bu)|((with_reducible apply H0)<;>exact bu)|((with_reducible apply H2)<;>exact bu)|((with_reducible apply DQ)<;>exact bu)|((with_reducible apply DU)<;>exact bu)|((with_reducible apply LJ)<;>exact bu)|((with_reducible apply LK)<;>exact bu)|((with_reducible apply W6)<;>exact bu)|((with_reducible apply W7)<;>exact bu)|((with_reducible apply H3)<;>exact bu)|((with_reducible apply LO)<;>exact bu)|((with_reducible apply LM)<;>exact bu)|((with_reducible apply LN)<;>exact bu)|((with_reducible apply HV)<;>exact bu)|((with_reducible apply DL)<;>exact bu)|((with_reducible apply Fv)<;>exact bu)|((with_reducible apply Fw)<;>exact bu)|((with_reducible apply BC)<;>exact bu)|((with_reducible apply Fx)<;>exact bu)|((with_reducible apply LF)<;>exact bu)|((with_reducible apply LG)<;>exact bu)|((with_reducible apply LH)<;>exact bu)|((with_reducible apply LI)<;>exact bu)|((with_reducible apply HW)<;>exact bu)|((with_reducible apply HX)<;>exact bu)|((with_reducible apply HY)<;>exact bu)|((with_reducible apply HZ)<;>exact bu)|((with_reducible apply Fz)<;>exact bu)|((with_reducible apply SP)<;>exact bu)|((with_reducible apply Qf)<;>exact bu)|((with_reducible apply Qg)<;>exact bu)|((with_reducible apply Qh)<;>exact bu)|((with_reducible apply Yi)<;>exact bu)|((with_reducible apply Qi)<;>exact bu)|((with_reducible apply Yj)<;>exact bu)|((with_reducible apply Qj)<;>exact bu)|((with_reducible apply Qk)<;>exact bu)|((with_reducible apply Qs)<;>exact bu)|((with_reducible apply Qt)<;>exact bu)|((with_reducible apply abx)<;>(first|rfl|((repeat' (first|exact di.nil|(with_unfolding_all apply di.cons rfl rfl)));done)))|((with_reducible apply H5)<;>(first|rfl|((repeat' (first|exact eZ.nil|(with_unfolding_all apply eZ.part rfl rfl rfl rfl)|apply eZ.zero));done))))):Step S o σ bx:=h
theorem ef{o:Oper}{bx:St}(h:EStep S o σ bx:=by(first|((with_reducible apply aby)<;>exact bu)|((with_reducible apply DG)<;>exact bu)|((with_reducible apply TX)<;>exact bu)|((with_reducible apply Yk)<;>exact bu)|((with_reducible apply Yl)<;>exact bu)|((with_reducible apply abz)<;>exact bu)|((with_reducible apply Ym)<;>exact bu)|((with_reducible apply LD)<;>exact bu)|((with_reducible apply NY)<;>exact bu)|((with_reducible apply P3)<;>exact bu)|((with_reducible apply P4)<;>exact bu)|((with_reducible apply NZ)<;>exact bu)|((with_reducible apply Yn)<;>exact bu)|((with_reducible apply Yo)<;>exact bu)|((with_reducible apply Yp)<;>exact bu)|((with_reducible apply jJ)<;>exact bu)|((with_reducible apply Ly)<;>exact bu)|((with_reducible apply W8)<;>exact bu)|((with_reducible apply HK)<;>exact bu)|((with_reducible apply HL)<;>exact bu)|((with_reducible apply Yq)<;>exact bu)|((with_reducible apply Yr)<;>exact bu)|((with_reducible apply Ys)<;>exact bu)|((with_reducible apply Uc)<;>exact bu)|((with_reducible apply Ug)<;>(first|rfl|((repeat' (first|exact di.nil|(with_unfolding_all apply di.cons rfl rfl)));done))))):EStep S o σ bx:=h
structure Wr(p:Prop):Prop where
 out:p
theorem w9j{A B:Prop}(g:B)(h:Wr B->A:=by intro g9;first|(((with_reducible apply J.step);rfl;exact FM.st);exact g9.out)|(((with_reducible apply J.fJ);rfl;exact FM.ef);exact g9.out)|(with_reducible refine J.nil ?_;exact g9.out)|fail):A:=h ⟨g⟩
theorem aG{A B:Prop}(g:B)(h:Wr B->A:=by intro g9;first|(((with_reducible apply J.step);rfl;exact FM.st);exact g9.out)|(((with_reducible apply J.fJ);rfl;exact FM.ef);exact g9.out)|((refine J.lD rfl rfl AV.noConfusion rfl (by first|assumption|(simp only [ahu];omega)) ?_);exact g9.out)|(with_reducible refine J.nil ?_;exact g9.out)|(((with_reducible apply J.HU);rfl;rfl;rfl);exact g9.out)|(((with_reducible apply J.yI);rfl;rfl);exact g9.out)|(with_reducible refine CW.seq ?_;exact g9.out)|(with_reducible refine CW.block ?_;exact g9.out)|(((with_reducible refine CW.reg ?_ ?_);rfl);exact g9.out)|(((with_reducible refine CW.N5 ?_ ?_ ?_ ?_);rfl;kernel_rfl;rfl);exact g9.out)|(((with_reducible refine CW.T7 1 ?_ ?_ ?_);kernel_rfl;rfl;simp only [ahI,aim,Nat.reduceAdd,Nat.reduceSub,aiu,List.take_zero,List.drop_succ_cons,List.drop_zero]);exact g9.out)|(with_reducible refine CW.skip ?_;exact g9.out)|(with_reducible refine CW.ret ?_;exact g9.out)|(with_reducible refine CW.exit ?_;exact g9.out)|(refine CW.Ds rfl ?_;exact g9.out)|(refine CW.Dt rfl ?_;exact g9.out)|(with_reducible refine wD ?_;exact g9.out)|(with_reducible refine rE ?_;exact g9.out)|(((with_reducible refine rH ?_ ?_);rfl);exact g9.out)|(((with_reducible refine rI ?_ ?_);rfl);exact g9.out)|(with_reducible refine rG ?_;exact g9.out)|(with_reducible refine wF ?_;exact g9.out)|(with_reducible refine wG ?_;exact g9.out)|fail):A:=h ⟨g⟩
theorem w9y{A B:Prop}(g:B)(h:Wr B->A:=by intro g9;first|(((with_reducible apply J.step);rfl;exact FM.st);exact g9.out)|(((with_reducible apply J.fJ);rfl;exact FM.ef);exact g9.out)|((refine J.lD rfl rfl AV.noConfusion rfl (by first|assumption|(simp only [ahu];omega)) ?_);exact g9.out)|(with_reducible refine J.nil ?_;exact g9.out)|(((with_reducible apply J.HU);rfl;rfl;rfl);exact g9.out)|(((with_reducible apply J.yI);rfl;rfl);exact g9.out)|(with_reducible refine CW.seq ?_;exact g9.out)|(with_reducible refine CW.block ?_;exact g9.out)|(((with_reducible refine CW.reg ?_ ?_);rfl);exact g9.out)|(((with_reducible refine CW.N5 ?_ ?_ ?_ ?_);rfl;kernel_rfl;rfl);exact g9.out)|(with_reducible refine CW.skip ?_;exact g9.out)|(with_reducible refine CW.ret ?_;exact g9.out)|(with_reducible refine CW.exit ?_;exact g9.out)|(refine CW.Ds rfl ?_;exact g9.out)|(refine CW.Dt rfl ?_;exact g9.out)|(with_reducible refine wD ?_;exact g9.out)|(with_reducible refine rE ?_;exact g9.out)|(((with_reducible refine rH ?_ ?_);rfl);exact g9.out)|(((with_reducible refine rI ?_ ?_);rfl);exact g9.out)|(with_reducible refine rG ?_;exact g9.out)|(with_reducible refine wF ?_;exact g9.out)|(with_reducible refine wG ?_;exact g9.out)|fail):A:=h ⟨g⟩
theorem w9z{A B:Prop}(g:B)(h:Wr B->A:=by intro g9;first|(((with_reducible apply J.step);rfl;exact FM.st);exact g9.out)|(((with_reducible apply J.fJ);rfl;exact FM.ef);exact g9.out)|((refine J.lD rfl rfl AV.noConfusion rfl (by first|assumption|(simp only [ahu];omega)) ?_);exact g9.out)|(with_reducible refine J.nil ?_;exact g9.out)|(((with_reducible apply J.HU);rfl;rfl;rfl);exact g9.out)|(((with_reducible apply J.yI);rfl;rfl);exact g9.out)|(with_reducible refine CW.seq ?_;exact g9.out)|(with_reducible refine CW.block ?_;exact g9.out)|(((with_reducible refine CW.reg ?_ ?_);rfl);exact g9.out)|(with_reducible refine CW.skip ?_;exact g9.out)|(with_reducible refine CW.ret ?_;exact g9.out)|(with_reducible refine CW.exit ?_;exact g9.out)|(refine CW.Ds rfl ?_;exact g9.out)|(refine CW.Dt rfl ?_;exact g9.out)|(with_reducible refine wD ?_;exact g9.out)|(with_reducible refine rE ?_;exact g9.out)|(((with_reducible refine rH ?_ ?_);rfl);exact g9.out)|(((with_reducible refine rI ?_ ?_);rfl);exact g9.out)|(with_reducible refine rG ?_;exact g9.out)|(with_reducible refine wF ?_;exact g9.out)|(with_reducible refine wG ?_;exact g9.out)|fail):A:=h ⟨g⟩
theorem w9q{A B:Prop}(g:B)(h:Wr B->A:=by intro g9;first|((with_reducible apply J.Ua);rfl;rfl;rfl;rfl;exact g9.out)|fail):A:=h ⟨g⟩
theorem aK{A B C:Prop}(b:B)(c:C)(h:Wr B->Wr C->A:=by intro a9 b9;first|exact CW.TF rfl a9.out b9.out|(((fail_if_success ((with_reducible apply J.step);rfl));(fail_if_success ((with_reducible apply J.yI);rfl));exact J.Qu rfl rfl a9.out b9.out))|fail):A:=h ⟨b⟩ ⟨c⟩
theorem l7{A B C:Prop}(b:B)(c:C)(h:Wr B->Wr C->A:=by intro a9 b9;first|exact CW.cond rfl a9.out b9.out|(((fail_if_success ((with_reducible apply J.step);rfl));(fail_if_success ((with_reducible apply J.yI);rfl));exact J.splitB rfl rfl a9.out b9.out))|fail):A:=h ⟨b⟩ ⟨c⟩
theorem aF{A B:Prop}{P:Program}{f:Nat}{xs9 ys9:List AV}{r:AV}(hs:FnSpec P f xs9 ys9 r)(g:B)(h:FnSpec P f xs9 ys9 r->Wr B->A:=by intro SQ g9;first|((with_reducible first|apply J.bq SQ|apply J.dE SQ);rfl;rfl;exact fX;(first|rfl|exact Be|exact Bf);exact g9.out)|fail):A:=h hs ⟨g⟩
structure K9(f i:Nat):Prop
structure W9(f i j:Nat):Prop
structure K93(f i j k:Nat):Prop
theorem bw{p:Prop}(h:p:=by first|(exfalso;omega)|(exfalso;contradiction)|exact .mk rfl rfl rfl|exact⟨rfl,⟨_,rfl,.refl _⟩,rfl,gU (DY rfl rfl (by repeat' (first|exact kM|refine nC rfl ?_)))⟩|(exfalso;simp only [ahI] at *;omega)|fail):p:=h
theorem Qv{p:Prop}(h:p:=by first|((refine⟨by first|rfl|trivial,?_⟩);(repeat' (first|exact trivial|rfl|refine And.intro ?_ ?_|exact bf ae));done)|fail):p:=h
theorem uc{L A B:Prop}(l:L)(g:B)(h:L->Wr B->A:=by intro l9 g9;first|(((with_reducible apply J.step);rfl;((with_reducible apply l9)<;>rfl));exact g9.out)|fail):A:=h l ⟨g⟩
theorem H6{L A B:Prop}(l:L)(g:B)(h:L->Wr B->A:=by intro l9 g9;first|(((with_reducible apply J.fJ);rfl;((with_reducible apply l9)<;>rfl));exact g9.out)|fail):A:=h l ⟨g⟩
theorem fX{p:Prop}(h:p:=by first|((repeat' (first|exact aV.nil|apply aV.cons|exact aX.pl rfl rfl|exact aX.br rfl AV.noConfusion (by first|rfl|exact dr|exact c7|exact cD|exact dL|exact bG (fun _=>rfl))));done)|fail):p:=h
theorem ky{p:Prop}(h:p:=by first|exact trivial|rfl|exact bf ae|exact bf (by dsimp only;omega)|exact BF (by first|assumption|exact Eq.symm (by assumption))|exact bf (by assumption)|exact Qw (by first|assumption|exact Eq.symm (by assumption))|exact rJ (by first|assumption|exact Eq.symm (by assumption))|fail):p:=h
theorem fM{p:Prop}(h:p:=by first|omega|(simp only;omega)|fail):p:=h
structure K8(i:Nat):Prop
structure K82(i j:Nat):Prop
theorem JA.Yt{oi:Oper}(_:K8 i)(hr:bV l listed=[i])(ho:l[i]?=some oi)(h:(J false S N l.toArray [oi] (JA S N l.toArray fuel (listed.set i true) K) σ)):JA S N l.toArray (fuel+1) listed K σ:=.one hr ho h
theorem JA.Yu{j:Nat}{oi oj:Oper}(_:K82 i j)(hr:bV l listed=[i,j])(ho:l[i]?=some oi)(ho':l[j]?=some oj)(h:(J false S N l.toArray [oi] (JA S N l.toArray fuel (listed.set i true) K) σ))(h':(J false S N l.toArray [oj] (JA S N l.toArray fuel (listed.set j true) K) σ)):JA S N l.toArray (fuel+1) listed K σ:=.two hr ho ho' h h'
theorem JA.Um{bx:St}{o:Oper}{x:Operand}(_:K8 i)(ho:l[i]?=some o)(hx:o.op=.move x∨o.op=.assign x)(hg:o.guard=none)(hB:(Region.noSelect l.toArray&&Region.free .any l.toArray listed.toArray i&&(bV l listed).contains i)=true)(hs:Step S o σ bx)(h:JA S N l.toArray fuel (listed.set i true) K bx):JA S N l.toArray (fuel+1) listed K σ:=.take ho hx hg hB hs h
theorem iL{A B:Prop}(i:Nat)(g:B)(h:K8 i->Wr B->A:=by intro k9 g9;first|((apply JA.Yt k9);decide +kernel;rfl;exact g9.out)|fail):A:=h ⟨⟩ ⟨g⟩
theorem FB{A B C:Prop}(i j:Nat)(g:B)(g':C)(h:K82 i j->Wr B->Wr C->A:=by intro k9 g9 c9;first|((apply JA.Yu k9);decide +kernel;rfl;rfl;exact g9.out;exact c9.out)|fail):A:=h ⟨⟩ ⟨g⟩ ⟨g'⟩
theorem gq{A B:Prop}(i:Nat)(g:B)(h:K8 i->Wr B->A:=by intro k9 g9;first|((apply JA.Um k9);rfl;(first|exact .inl rfl|exact .inr rfl);rfl;decide +kernel;exact FM.st;exact g9.out)|fail):A:=h ⟨⟩ ⟨g⟩
end FM
