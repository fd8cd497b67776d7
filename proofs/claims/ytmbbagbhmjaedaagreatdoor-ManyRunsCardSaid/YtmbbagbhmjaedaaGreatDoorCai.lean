/- Part of the proof. -/
import Derived.Test.YtmbbagbhmjaedaaGreatDoorCah
set_option linter.all false
namespace FM
open Go Go.RowKit
structure ExtB(B:Nat->Prop)(w w':World):Prop where
 os:w'.os=w.os
 tape:w'.tape=w.tape
 output:w'.output=w.output
 size:w.heap.size<=w'.heap.size
 block:∀ b,b<w.heap.size->B b->w'.heap[b]?=w.heap[b]?
def wv(P:Program)(tZ:List AV->Prop)(r:List AV->AV):Tk:=⟨fun wE B v=>∃ f cap,v=.func (.func f) #[] cap/\jd P f/\∀ (w:World) (xs9:List AV) (vs:List Value),tZ xs9 ->
 ExtB B wE w->kg (fun _=>.sh) w->vs.length=xs9.length ->
 (∀ (i:Nat) x u,xs9[i]?=some x->vs[i]?=some u->Rep (fun _=>.sh) w none x u)->Calls P f (vs.toArray++cap) w fun e w'=>e=.returned (r xs9).toV/\Ext w w'⟩
theorem yG{P:Program}{tZ:List AV->Prop}{r:List AV->AV}{f:Nat}(hf:jd P f)(hs:∀ xs9,tZ xs9->FnSpec P f xs9 xs9 (r xs9))(hr:∀ xs9,tZ xs9->(r xs9).aR=true)(w:World)(B:Nat->Prop):(wv P tZ r).holds w B (.func (.func f) #[] #[]):=by
 refine⟨f,#[],rfl,hf,fun w xs9 vs hd _ q8 hl bE=>?_⟩;have:=(hs xs9 hd).calls w (fun _=>.sh) vs hl (kG (fun _ _ h=>by cases h) (fun _ _ h=>by cases h) q8) (fun i x v hx hv=>(bE i x v hx hv).any _);simp only [aij];refine this.mono fun e w' ⟨v,L',he,hB⟩=>?_;subst he;have h1:=hr xs9 hd;have hv:v=(r xs9).toV:=by
  have h2:=hB.res;generalize r xs9=y at *;cases h2<;>first|rfl|(simp [AV.aR] at h1)
 subst hv;exact⟨rfl,⟨hB.keep.os,hB.keep.tape,hB.keep.output,hB.keep.size,fun b hb=>hB.keep.block b hb (fun p h=>by cases h)⟩⟩
section
variable {S:Sys} {N:Nat} {σ:St}
theorem Fp{P:Program}{f:Nat}{cap:Array Value}(hf:jd P f){ρ:Operand->Value}{t:Operand}{xs:List Operand}{ts:Array Nat}{o:Oper}(ho:o.op=.call ⟨.value t,xs.toArray,ts⟩)(Bc:ρ t=.func (.func f) #[] cap)(w:World):
  (execOp ρ o).run P w=.ok (.enter f ((xs.map ρ).toArray++cap)) w:=by
 obtain⟨fn,h1,h2,h3⟩:=hf.out;simp only [execOp,ho,resolve,Bc,Deferred.ofValue,Sem.run_bind,Sem.run_pure,Result.andThen_ok,invoke,callFunc,run_program,h1,h2,h3];simp
theorem Bz{tZ:List AV->Prop}{r:List AV->AV}{xs9:List AV}{t:Operand}{xs:List Operand}{b:Bool}(ht:ov σ t=.av (.fn (wv S.P tZ r)))(hd:tZ xs9)(ha:aV S N σ xs b xs9){w0:World}{L0:Nat->aO}{a:Act}{w:World}(hR:Rel S w0 L0 N σ a w):
  ∃ f cap,a.eval t=.func (.func f) #[] cap/\jd S.P f/\Calls S.P f ((xs.map a.eval).toArray++cap) w fun e w'=>e=.returned (r xs9).toV/\Ext w w':=by
 obtain⟨L,hR⟩:=hR;obtain⟨n,hn⟩:=cU hR ht;generalize a.eval t=v at hn
 cases hn with
 | @fn _ _ _ wE _ h hs ho Pe hu hb =>
  obtain⟨f,cap,h1,h2,h3⟩:=h;refine⟨f,cap,h1,h2,h3 w xs9 _ hd ⟨ho,Pe,hu,hs,fun b bI hB=>(hb b bI hB).2⟩ hR.gh.all (by rw [ahu,ha.length]) fun i x v hx hv=>?_⟩;simp only [ahE,ahs] at hv;obtain⟨y,hy,rfl⟩:=hv;obtain⟨c,hc,_⟩:=ha.get i y x hy hx;exact hc.Hy hR
variable {tZ:List AV->Prop} {r:List AV->AV} {xs9:List AV} {t:Operand} {xs:List Operand} {b:Bool} {y:AV} {P:Program} {ops:Array Oper} {l:List Oper} {K:St->Prop} {d ty:Nat} {ts:Array Nat} {pos:String} {aft:Array Edge} {g:Option (Nat×Bool)}
theorem HO{w0:World}{L0:Nat->aO}{a:Act}{w:World}(hR:Rel S w0 L0 N σ a w)(hd:oC S N d)(hr:y.aR=true):Rel S w0 L0 N (σ.put d (.av y)) (a.put (some d) y.toV) w:=by
 obtain⟨L,hR⟩:=hR;refine Rel.aT (n:=d) hR hd ?_ rfl (toV_rep hr);cases y<;>first|rfl|(simp [AV.aR] at hr)
theorem J.pB(xs9:List AV)(ht:ov σ t=.av (.fn (wv P tZ r)))(hP:P=S.P)(hg:live ops g σ=some true)(hd:tZ xs9)(ha:aV S N σ xs b xs9)(hy:r xs9=y)(hr:y.aR=true)(h:J false S N ops l K (σ.put d (.av y))):
  J false S N ops (⟨some d,.call ⟨.value t,xs.toArray,ts⟩,ty,pos,aft,g⟩::l) K σ:=by
 subst hP;subst hy;unfold J at *;intro dI w0 L0 Q a w hQ hR;obtain⟨h1,h2⟩:=aU dI;have hw:=ba (o:=⟨some d,.call ⟨.value t,xs.toArray,ts⟩,ty,pos,aft,g⟩) hg hR;simp only [wpList,hw,if_true];refine .inl ?_;obtain⟨f,cap,e1,hf,hc⟩:=Bz ht hd ha hR;unfold Oper.wp;rw [Fp hf rfl e1 w,Oper.upon_enter];refine hc.mono fun e w' ⟨he,hx⟩=>?_;subst he;exact h h2 w0 L0 Q _ w' hQ (HO (hR.ext hx) (h1 d rfl) hr)
theorem aX.func{f:Nat}(hP:P=S.P)(hf:jd P f)(hs:∀ xs9,tZ xs9->FnSpec P f xs9 xs9 (r xs9))(hr:∀ xs9,tZ xs9->(r xs9).aR=true):aX S N σ (.func f) true (.fn (wv P tZ r)):=by
 subst hP;exact .fn fun w0 L0 a w _=>yG hf hs hr w _
theorem ry{f:Nat}{caps:List Nat}(hc:caps.all (fun s=>!Nat.beq s d)=true)(hg:caps.all (fun s=>match get σ s with|.none=>false|_=>true)=true):Step S ⟨some d,.makeFunc (.func f) #[] (caps.map Operand.tmp).toArray,ty,pos,aft,g⟩ σ (σ.put d (.clo f caps)):=by
 intro w0 L0 N a w hN ⟨L,h⟩;refine⟨.func (.func f) #[] ((caps.map Operand.tmp).toArray.map a.eval),fun w' _=>by simp [execOp,Instr.makeFunc],_,h.put (hN d rfl) ?_⟩;simp only [Hold];congr 1
 rw [List.map_toArray,List.map_map];congr 1
 refine List.map_congr_left fun s hs=>?_;have:=ahM.1 hc s hs;simp only [Bool.not_eq_true'] at this;simp only [Function.comp,Act.eval];rw [ay (fun e=>aC this e.symm)]
inductive iK(σ:St):List Nat->List AV->Prop
 | nil:iK σ [] []
 | cons {s ss x z zs} (h:get σ s=.av x) (hz:x.sh=z) (r:iK σ ss zs):iK σ (s::ss) (z::zs)
theorem iK.length{ss:List Nat}{zs:List AV}(h:iK σ ss zs):ss.length=zs.length:=by induction h<;>simp_all
theorem iK.rep{ss:List Nat}{zs:List AV}(h:iK σ ss zs){w0:World}{L0:Nat->aO}{a:Act}{w:World}{L:Nat->aO}(hR:RelL S w0 L0 N σ a w L):∀ (i:Nat) z v,zs[i]?=some z->(ss.map fun s=>a.tmps.getD s undef)[i]?=some v->Rep (fun _=>.sh) w none z v:=by
 induction h with
 | nil=>intro i z v hz;simp at hz
 | @cons s ss x z zs h hz r ih =>
  intro i z' v qw hv
  cases i with
  | zero =>
   simp only [ahq,ahp,aiw] at qw hv;subst qw;subst hv;subst hz;have hh:=hR.hold s (aJ hR h ag);rw [h] at hh;exact Rep.toSh (fun _ _ _=>rfl) hh (fun _ _ _ _ _=>rfl)
  | succ i=>exact ih i z' v (by simpa using qw) (by simpa using hv)
theorem aX.clo{f t:Nat}{caps:List Nat}{zs:List AV}(hP:P=S.P)(ht:get σ t=.clo f caps)(hc:iK σ caps zs)(hf:jd P f)(hs:∀ xs9,tZ xs9->FnSpec P f (xs9++zs) (xs9++zs) (r xs9))(hr:∀ xs9,tZ xs9->(r xs9).aR=true):aX S N σ (.tmp t) true (.fn (wv P tZ r)):=by
 subst hP;refine .fn fun w0 L0 a w ⟨L,hR⟩=>?_;have hh:=hR.hold t (aJ hR ht ag);rw [ht] at hh;simp only [Hold] at hh;refine⟨f,_,hh,hf,fun w' xs9 vs hd hx q8 hl bE=>?_⟩;have fW:(caps.map fun s=>a.tmps.getD s undef).length=zs.length:=by rw [ahu,hc.length]
 have:=(hs xs9 hd).calls w' (fun _=>.sh) (vs++caps.map fun s=>a.tmps.getD s undef) (by rw [ahC,ahC,hl,fW]) (kG (fun _ _ h=>by cases h) (fun _ _ h=>by cases h) q8) (fun i x v eQ hv=>by
  refine Rep.any ?_ _
  by_cases hi:i<xs9.length
  ·rw [ahG hi] at eQ
   rw [ahG ae] at hv
   exact bE i x v eQ hv
  ·rw [ahJ ae] at eQ
   rw [ahJ ae,hl] at hv
   exact(hc.rep hR _ x v eQ hv).frame hx.size hx.os hx.tape hx.output (fun b _ hb=>⟨rfl,hx.block b hb trivial⟩) none (fun p hp=>by cases hp))
 have e:vs.toArray++(caps.map fun s=>a.tmps.getD s undef).toArray=(vs++caps.map fun s=>a.tmps.getD s undef).toArray:=ag;rw [e];refine this.mono fun e Hz ⟨v,L',he,hB⟩=>?_;subst he;have h1:=hr xs9 hd;have hv:v=(r xs9).toV:=by
  have h2:=hB.res;generalize r xs9=y at *;cases h2<;>first|rfl|(simp [AV.aR] at h1)
 subst hv;exact⟨rfl,⟨hB.keep.os,hB.keep.tape,hB.keep.output,hB.keep.size,fun b hb=>hB.keep.block b hb (fun p h=>by cases h)⟩⟩
end
variable {t e c sz cA:Nat}{x y:Operand}{xs z:List AV}{ops:Array Oper}{l:List Oper}{K:St->Prop}
section
variable {S:Sys} {σ:St} {d ty:Nat} {pos:String} {aft:Array Edge} {g:Option (Nat×Bool)}
theorem PV{ti:TI}{i:Operand}{s:Nat}{n:Int}{y:AV}(hs:get σ s=.av (.sl true c xs))(hi:ov σ i=.av (.int n))(hT:S.T t=some ⟨.slice e,sz,cA,z⟩)(hE:S.T e=some ti)(hc:ti.size=c)
  (h0:0<=n) (hy:xs[n.toNat]?=some y) (c8:Nat.beq s d=false):Step S ⟨some d,.indexAddr t (.tmp s) i,ty,pos,aft,g⟩ σ (σ.put d (.ptr s n.toNat c y)):=by
 intro w0 L0 N a w hN ⟨L,hR⟩;have hh:=hR.hold s (aJ hR hs ag);rw [hs] at hh;obtain⟨b,off,cap,hv,hb,aA,⟨h,_⟩|⟨_,rfl,p,hp,hL,bt⟩⟩:=gQ hh hy
 ·cases h
 ·cases hp;refine⟨.pointer (some ⟨b,0+n.toNat*c,none⟩),fun w' _=>?_,Rel.aT (n:=d) hR (hN d rfl) rfl c8 ⟨b,hL,by rw [ahR],fun _ j z hz=>?_⟩⟩
  ·subst hc;have tN:a.eval (.tmp s)=.slice (some ⟨b,0,none⟩) xs.length cap:=hv;simp only [execOp,tN,eu hR hi,Sem.run_bind,iw (S.ok t _ hT).slice (S.ok e _ hE).size h0 aA];rfl
  ·have:=bt j z hz
   rwa [ahR] at this
def bound(σ:St)(LA:Nat):Option Operand->Option Nat
 | none=>some LA
 | some x=>match ov σ x with
  | .av (.int n)=>bif decide (0<=n) then some n.toNat else none
  | _=>none
theorem rz:∀ {xs:List AV},(∀ x∈xs,x.cells.length=c)->∀ (l h:Nat),∀ (o:Nat) y,(flat ((xs.take h).drop l))[o]?=some y->(flat xs)[l*c+o]?=some y:=by
 intro xs hc l h o y hy;have uK:∀ x∈(xs.take h).drop l,x.cells.length=c:=fun x hx=>hc x (aii (List.mem_of_mem_drop hx));obtain⟨i,j,x,h1,h2,h3,_⟩:=gL uK hy;rw [ah5,aiq] at h1;split at h1
 ·have:=flat_get hc h1 h2;rw [h3,<-aix,<-ah9];exact this
 ·cases h1
theorem rA{P:Program}(ht:P.underlying t=some (.slice e))(bc:∃ f,P.info? e=some f/\f.size=c){L:Nat->aO}{w:World}{v:Value}(h:Rep L w none (.sl false c xs) v){lo hi:Option Value}{l u:Nat}
  (LB:(lo=none/\l=0)∨lo=some (.int .i64 (l:Nat))) (hhi:(hi=none/\u=xs.length)∨hi=some (.int .i64 (u:Nat))) (hlu:l<=u) (hu:u<=xs.length) :
  ∃ v',(∀ w',(Instr.sliceAt t v lo hi none).run P w'=.ok v' w')/\Rep L w none (.sl false c ((xs.take u).drop l)) v':=by
 obtain⟨f,hf,rfl⟩:=bc;have run:∀ (a:Option Addr) (cap:Nat),xs.length<=cap->∀ w',(Instr.sliceAt t (.slice a xs.length cap) lo hi none).run P w'=.ok (.slice (if cap=l then a else a.map (·.add (l*f.size))) (u-l) (cap-l)) w':=by
  intro a cap bK w';have e1:∀ (x:Nat) (y:Nat) (code:BoundsCode),x<=y->(Instr.sliceBound (.int .i64 (x:Nat)) y code).run P w'=.ok x w':=fun x y code Hu=>by
   have:(0:Int)<=(x:Int)/\(x:Int)<=(y:Int):=ae;simp [Instr.sliceBound,asIntOf,this,Hu]
  have hb:(Instr.sliceBounds true xs.length cap lo hi none).run P w'=.ok (l,u,cap) w':=by
   rcases LB with⟨rfl,rfl⟩|rfl<;>rcases hhi with⟨rfl,rfl⟩|rfl
   ·simp [Instr.sliceBounds]
   ·simp [Instr.sliceBounds,e1 u cap .sliceAcap ae]
   ·simp [Instr.sliceBounds,e1 l xs.length .sliceB hlu]
   ·simp [Instr.sliceBounds,e1 u cap .sliceAcap ae,e1 l u .sliceB hlu]
  simp [Instr.sliceAt,Instr.slice,run_underlying ht,hb,Go.sizeOf,typeInfo,hf]
 have hlen:((xs.take u).drop l).length=u-l:=by rw [ahV,ahF];omega
 cases h with
 | @slE _ _ _ a cap _ =>
  have nf:l=0:=by simp at hu;omega
  have T8:u=0:=by simpa using hu
  refine⟨_,run a cap ag,?_⟩;subst nf;subst T8;simp only [List.take_nil,List.drop_nil];exact .slE ag
 | @slS _ c xs b off cap uu bK hL hb hc aH hr =>
  refine⟨_,run _ cap bK,?_⟩;by_cases SG:u=l
  ·subst SG;have:(xs.take u).drop u=[]:=List.drop_eq_nil_of_le (by rw [ahF];omega);rw [this,Nat.sub_self];exact .slE ag
  ·have fW:¬ cap=l:=ae;rw [if_neg fW];simp only [ah2,addr_add];rw [<- hlen];refine .slS (fun o=>uu (l*f.size+o)) ae hL hb (fun x hx=>hc x (aii (List.mem_of_mem_drop hx))) (fun o ho=>?_) (fun o y hy=>hr _ y (rz hc l u o y hy));rw [aix];refine aH _ ?_;rw [hlen] at ho;have:(l+(u-l))*f.size<=xs.length*f.size:=ahT _ ae;rw [ah9] at this;omega
theorem ji{N:Nat}{w0:World}{L0:Nat->aO}{a:Act}{w:World}{L:Nat->aO}(hR:RelL S w0 L0 N σ a w L){LA l:Nat}{o:Option Operand}(h:bound σ LA o=some l):(o.map a.eval=none/\l=LA)∨o.map a.eval=some (.int .i64 (l:Nat)):=by
 cases o with
 | none=>simp only [bound,ahp] at h;exact .inl ⟨rfl,h.symm⟩
 | some x =>
  simp only [bound] at h;split at h
  ·rename_i n hx
   cases hn:decide (0<=n) with
   | false=>rw [hn] at h;cases h
   | true =>
    rw [hn,cond_true] at h;injection h with h
    right;have:=of_decide_eq_true hn;simp only [ah2,eu hR hx];congr 2
    omega
  ·cases h
theorem PW{n:Int}(hx:ov σ x=.av (.int n))(h0:0<=n){k:Nat}:bound σ k (some x)=some n.toNat:=by
 simp only [bound,hx,decide_eq_true h0,cond_true]
theorem HP{ti:TI}{lo hi:Option Operand}{l u:Nat}(hx:ov σ x=.av (.sl false c xs))(hT:S.T t=some ⟨.slice e,sz,cA,z⟩)(hE:S.T e=some ti)(hc:ti.size=c)
  (hl:bound σ 0 lo=some l) (hu:bound σ xs.length hi=some u) (h1:l<=u) (h2:u<=xs.length):Step S ⟨some d,.slice t x lo hi none,ty,pos,aft,g⟩ σ (σ.put d (.av (.sl false c ((xs.take u).drop l)))) :=
 step_val rfl fun w0 L0 N a w L hR=>by
  obtain⟨m,hm⟩:=cU hR hx;obtain⟨v',hv,hr⟩:=rA (S.ok t _ hT).slice (by subst hc;exact(S.ok e _ hE).size) (Rep.replace (mv:=none) hm rfl) (ji hR hl) (ji hR hu) h1 h2;exact⟨v',fun w' _=>by simp only [execOp,Option.map_none,Sem.run_bind,hv w',Result.andThen_ok,Sem.run_pure],hr⟩
theorem PX{ti:TI}{lo hi:Option Operand}{s:Nat}{y:AV}{l u:Nat}(hx:ov σ x=.ref s)(hs:get σ s=.av y)(hy:y.sh=.sl false c xs)(hT:S.T t=some ⟨.slice e,sz,cA,z⟩)(hE:S.T e=some ti)(hc:ti.size=c)
  (hl:bound σ 0 lo=some l) (hu:bound σ xs.length hi=some u) (h1:l<=u) (h2:u<=xs.length) (c8:Nat.beq s d=false):Step S ⟨some d,.slice t x lo hi none,ty,pos,aft,g⟩ σ (σ.put d (.bor s (.sl false c ((xs.take u).drop l)))):=by
 intro w0 L0 N a w hN ⟨L,hR⟩;obtain⟨m,hm,_⟩:=aM hR hx ag;simp only [Hold] at hm;have hh:=hR.hold s (aJ hR hs ag);rw [hs,<-hm] at hh;simp only [Hold] at hh;have kx:=Rep.toSh (L':=fun b=>(L b).bm s) (fun b _ hb=>gN hb) hh (fun p hp b q hb=>by cases hp;rw [hb];simp [aO.bm,ahy]);rw [hy] at kx;obtain⟨v',hv,hr⟩:=rA (S.ok t _ hT).slice (by subst hc;exact(S.ok e _ hE).size) kx (ji hR hl) (ji hR hu) h1 h2;exact⟨v',fun w' _=>by simp only [execOp,Option.map_none,Sem.run_bind,hv w',Result.andThen_ok,Sem.run_pure],Rel.aT (n:=d) hR (hN d rfl) rfl c8 hr⟩
/- Pz common XZ, of mapped lists -/
section
variable {α:Type} {f:α->AV} {l:List α} {t e c sz cA:Nat} {z:List AV} {ti:TI} {x b:Operand} {n:Int}
theorem HQ(hx:ov σ x=.av (.sl false c (l.map f)))(hT:S.T t=some ⟨.slice e,sz,cA,z⟩)(hE:S.T e=some ti)(hc:ti.size=c)(hb:ov σ b=.av (.int n))(h0:0<=n)(h1:n.toNat<=l.length):
  Step S ⟨some d,.slice t x (some b) none none,ty,pos,aft,g⟩ σ (σ.put d (.av (.sl false c ((l.drop n.toNat).map f)))):=by
 have:=HP (d:=d) (ty:=ty) (pos:=pos) (aft:=aft) (g:=g) hx hT hE hc (PW hb h0) (show bound σ _ none=some _ from rfl) (by rw [ahu];exact h1) (ahr _)
 rwa [ah7,<-List.map_drop] at this
theorem HR(hx:ov σ x=.av (.sl false c (l.map f)))(hT:S.T t=some ⟨.slice e,sz,cA,z⟩)(hE:S.T e=some ti)(hc:ti.size=c)(hb:ov σ b=.av (.int n))(h0:0<=n)(h1:n.toNat<=l.length):
  Step S ⟨some d,.slice t x none (some b) none,ty,pos,aft,g⟩ σ (σ.put d (.av (.sl false c ((l.take n.toNat).map f)))):=by
 have:=HP (d:=d) (ty:=ty) (pos:=pos) (aft:=aft) (g:=g) hx hT hE hc (show bound σ 0 none=some _ from rfl) (PW hb h0) (ahQ _) (by rw [ahu];exact h1)
 rwa [List.drop_zero,<-List.map_take] at this
theorem yH{s:Nat}{y:AV}(hx:ov σ x=.ref s)(hs:get σ s=.av y)(hy:y.sh=.sl false c (l.map f))(hT:S.T t=some ⟨.slice e,sz,cA,z⟩)(hE:S.T e=some ti)(hc:ti.size=c)(hb:ov σ b=.av (.int n))(h0:0<=n)(h1:n.toNat<=l.length)(c8:Nat.beq s d=false):
  Step S ⟨some d,.slice t x (some b) none none,ty,pos,aft,g⟩ σ (σ.put d (.bor s (.sl false c ((l.drop n.toNat).map f)))):=by
 have:=PX (d:=d) (ty:=ty) (pos:=pos) (aft:=aft) (g:=g) hx hs hy hT hE hc (PW hb h0) (show bound σ _ none=some _ from rfl) (by rw [ahu];exact h1) (ahr _) c8
 rwa [ah7,<-List.map_drop] at this
end
theorem toNat_ofInt64(a:Nat)(ha:a<9223372036854775808):(BitVec.ofInt 64 (a:Int)).toNat=a:=by simp;omega
theorem DJ{n:Nat}(h:n<9223372036854775808):IntKind.i64.wrap (n:Int)=(n:Int):=IntWalk.i64_in _ ae
theorem BA(a b:Nat)(ha:a<9223372036854775808)(hb:b<9223372036854775808):((BitVec.ofInt 64 (a:Int)) &&& ~~~(BitVec.ofInt 64 (b:Int))).toNat=a ^^^ (a &&& b):=by
 apply Nat.eq_of_testBit_eq;intro i;rw [BitVec.toNat_and,BitVec.toNat_not,toNat_ofInt64 a ha,toNat_ofInt64 b hb,Nat.testBit_and,Nat.testBit_xor,Nat.testBit_and];have h1:(2 ^ 64-1-b).testBit i=(decide (i<64)&&!b.testBit i):=by
  rw [show 2 ^ 64-1-b=2 ^ 64-(b+1) by omega];exact Nat.testBit_two_pow_sub_succ ae i
 rw [h1];by_cases hi:i<64
 ·simp only [hi,decide_true,Bool.true_and];cases a.testBit i<;>cases b.testBit i<;>rfl
 ·have:a.testBit i=false:=Nat.testBit_lt_two_pow (ahv ha (by
   calc 9223372036854775808=2 ^ 63:=af
    _<=2 ^ i:=Nat.pow_le_pow_right af ae))
  simp [this]
theorem HS{t2:Nat}{a b:Int}(hx:ov σ x=.av (.int a))(hy:ov σ y=.av (.int b))(h0:0<=a)(h1:0<=b)(hr:kC a)(ng:kC b):Step S ⟨some d,.binOp .andNot t x y t2,ty,pos,aft,g⟩ σ (σ.put d (.av (.int ((a.toNat ^^^ (a.toNat &&& b.toNat):Nat):Int)))) :=
 s_bin2 hx hy rfl ⟨_,fun _ _=>.int,fun w=>by
  obtain⟨n,rfl⟩:=aiI h0
  obtain⟨m,rfl⟩:=aiI h1
  have hn:n<9223372036854775808:=by unfold kC at hr;omega
  have e:=BA n m hn (by unfold kC at ng;omega)
  have aA:n ^^^ (n &&& m)<9223372036854775808:=Nat.xor_lt_two_pow (n:=63) hn (Nat.lt_of_le_of_lt Nat.and_le_left hn)
  simp only [eqGuard,binOp,Op.intBits,ahN]
  rw [<- DJ aA,<-e];rfl⟩
theorem LC(a b:Nat)(ha:a<9223372036854775808)(hb:b<9223372036854775808):((BitVec.ofInt 64 (a:Int)) ^^^ (BitVec.ofInt 64 (b:Int))).toNat=a ^^^ b:=by
 rw [BitVec.toNat_xor,toNat_ofInt64 a ha,toNat_ofInt64 b hb]
theorem NU{t2:Nat}{a b:Int}(hx:ov σ x=.av (.int a))(hy:ov σ y=.av (.int b))(h0:0<=a)(h1:0<=b)(hr:kC a)(ng:kC b):Step S ⟨some d,.binOp .xor t x y t2,ty,pos,aft,g⟩ σ (σ.put d (.av (.int ((a.toNat ^^^ b.toNat:Nat):Int)))) :=
 s_bin2 hx hy rfl ⟨_,fun _ _=>.int,fun w=>by
  obtain⟨n,rfl⟩:=aiI h0
  obtain⟨m,rfl⟩:=aiI h1
  have hn:n<9223372036854775808:=by unfold kC at hr;omega
  have hm:m<9223372036854775808:=by unfold kC at ng;omega
  have e:=LC n m hn hm
  have aA:n ^^^ m<9223372036854775808:=Nat.xor_lt_two_pow (n:=63) hn hm
  simp only [eqGuard,binOp,Op.intBits,ahN]
  rw [<- DJ aA,<-e];rfl⟩
end
section
variable {S:Sys} {N:Nat} {σ:St}
theorem J.T9{ι:Type}{q:Bool}{l:List Oper}{K:St->Prop}{o:Oper}(bx:ι->St)(p:ι->Prop)(hg:live ops o.guard σ=some true)
  (hs:∀ (w0:World) (L0:Nat->aO) (N:Nat) (a:Act) (w:World),(∀ d:Nat,o.dst=some d->oC S N d)->Rel S w0 L0 N σ a w->∃ i,p i/\∃ v,(∀ w',Ext w w'->(execOp a.eval o).run S.P w'=.ok (.value v) w')/\Rel S w0 L0 N (bx i) (a.put o.dst v) w)
  (h:∀ i,p i->J q S N ops l K (bx i)):J q S N ops (o::l) K σ:=by
 unfold J at *
 cases q with
 | true =>
  intro hd w0 L0 Q a w hQ hR;obtain⟨h1,h2⟩:=aU hd;obtain⟨i,hi,v,hv,gi⟩:=hs w0 L0 N a w h1 hR;have:=h i hi h2 w0 L0 Q (a.put o.dst v) w hQ gi;simp only [wpQuiet,ba hg hR,if_true];refine⟨v,fun w' qU=>?_,this⟩;unfold Oper.quietAt;rw [hv w' qU];exact⟨rfl,rfl⟩
 | false =>
  intro hd w0 L0 Q a w hQ hR;obtain⟨h1,h2⟩:=aU hd;obtain⟨i,hi,v,hv,gi⟩:=hs w0 L0 N a w h1 hR;have:=h i hi h2 w0 L0 Q (a.put o.dst v) w hQ gi;simp only [wpList,ba hg hR,if_true];refine .inl ?_;unfold Oper.wp;rw [hv w (Ext.refl w)];exact this
theorem Fq{P:Program}(ht:P.underlying t=some (.slice e))(a:Option Addr)(len cap:Nat)(w:World):(binOp .eql t (.slice a len cap) (.slice none 0 0)).run P w=.ok (.bool a.isNone) w:=by
 have e:(Op.equal t (.slice a len cap) (.slice none 0 0)).run P w=.ok a.isNone w:=by
  show(Op.equalIn (9999+1) t (.slice a len cap) (.slice none 0 0)).run P w=_;unfold Op.equalIn;rw [Sem.run_bind,run_underlying ht,Result.andThen_ok];cases a<;>rfl
 show(do pure (.bool (<- Op.equal t (.slice a len cap) (.slice none 0 0))):Sem Value).run P w=_;rw [Sem.run_bind,e];rfl
theorem J.Ua{q:Bool}{l:List Oper}{K:St->Prop}{d ty:Nat}{pos:String}{aft:Array Edge}{g:Option (Nat×Bool)}{t2 t e sz cA:Nat}{z:List AV}{o:Bool}(hg:live ops g σ=some true)(hx:rd σ (ov σ x)=.sl o c xs)(hy:ov σ y=.av .nil)
  (hT:S.T t=some ⟨.slice e,sz,cA,z⟩) (h:∀ b:Bool,(xs≠[]->b=false)->J q S N ops l K (σ.put d (.av (.bool b)))):J q S N ops (⟨some d,.binOp .eql t x y t2,ty,pos,aft,g⟩::l) K σ:=by
 refine J.T9 (fun b:Bool=>σ.put d (.av (.bool b))) (fun b=>xs≠[]->b=false) hg ?_ h;intro w0 L0 N a w hN ⟨L,hR⟩;obtain⟨L',π,_,_,bE⟩:=yo hR hx ag;obtain⟨aa,cap,hv⟩:=vW bE;refine⟨aa.isNone,fun cr=>?_,.bool aa.isNone,fun w' _=>?_,Rel.aT (n:=d) hR (hN d rfl) rfl rfl (by exact Rep.bool)⟩
 ·cases ua:xs with
  | nil=>exact absurd ua cr
  | cons y0 r =>
   obtain⟨b,off,rj,tN,_⟩:=gQ bE (i:=0) (y:=y0) (by rw [ua];rfl);rw [hv] at tN;injection tN with h1
   rw [h1];rfl
 ·have hb:=Fq (S.ok t _ hT).slice aa xs.length cap w';simp only [execOp,hv,Bl hR hy,eqGuard,Sem.run_bind];simp [hb]
end
def shr(a b:Nat):Nat:=a / 2 ^ b
theorem PY(a b:Nat):shr a b<=a:=Nat.div_le_self _ _
section
variable {S:Sys} {σ:St} {d ty:Nat} {pos:String} {aft:Array Edge} {g:Option (Nat×Bool)} {t t2:Nat} {x y:Operand} {a b:Nat}
theorem Step.cast{o:Oper}{n m:Int}(h:Step S o σ (σ.put d (.av (.int n))))(e:n=m):Step S o σ (σ.put d (.av (.int m))):=by subst e;exact h
theorem PZ(hx:ov σ x=.av (.int (a:Int)))(hy:ov σ y=.av (.int 1))(hr:kC a):Step S ⟨some d,.binOp .and t x y t2,ty,pos,aft,g⟩ σ (σ.put d (.av (.int ((a%2:Nat):Int)))) :=
 (NM hx hy ae ae hr).cast (by rw [ahN,show Int.toNat 1=1 from rfl,Nat.and_one_is_mod])
theorem s_xorN(hx:ov σ x=.av (.int (a:Int)))(hy:ov σ y=.av (.int (b:Int)))(hr:kC a)(ng:kC b):Step S ⟨some d,.binOp .xor t x y t2,ty,pos,aft,g⟩ σ (σ.put d (.av (.int ((a ^^^ b:Nat):Int)))) :=
 (NU hx hy ae ae hr ng).cast (by rw [ahN,ahN])
end
section
variable {S:Sys} {N:Nat} {σ:St}
theorem J.aN{q:Bool}(s:Nat){x z:AV}(hs:get σ s=.av x)(hx:x.aW=true)(hz:x.sh=z)(ho:z.aW=false)(h:J q S N ops l K (σ.put s (.av z))):J q S N ops l K σ:=.freeze s hs hz ho h
end
end FM
