/- Part of the proof. -/
import Derived.Test.YtmbbagbhmjaedaaGreatDoorCdj
import Derived.Conc.CompanyDraw
set_option linter.all false
namespace CO
open Go Go.Conc Go.ConcN
variable {v w:World}{ρ:Ren}{Sh:Nat->Prop}{fr:Frame}
section
variable {P:Program}
theorem cL.ends{x:FC}{val:Value}(h:cL P x v val){E:Env P}(hf:fP E ρ x.1 fr)(hw:WR ρ v w)(px:P.inits.idxOf? fr.fn=none):
  ∃ aQ cy ai T d evs,stepG P true (Gm fr []) w=.ended (.done cy) ai (seen P fr.fn evs)/\ρ.le aQ/\VR aQ val cy/\WR aQ (tp v T d) ai/\Fr ρ aQ w ai/\(∀ e∈evs,KY aQ v e)/\∀ z z',cu ρ z z'->v.frozen? z=true->ai.cell? z'=w.cell? z':=by
 obtain⟨fn,h1,h2⟩:=h.res;obtain⟨ZR,e1,e2⟩:=hf.fnOk;obtain rfl:fn=ZR:=ah6 (h1.symm.trans e1);obtain⟨T0,_,_,g3⟩:=((mR (P:=P) fn hf.tmps e2).xw hw) 0 (fun _ _=>0);obtain⟨aQ,cy,ai,evs,o⟩:=g3 val _ (((mS fn _).still h2).2 T0 0) #[];have hr:=o.run;rw [aiH] at hr;refine⟨aQ,cy,ai,_,_,evs,?_,o.le,o.res,o.wr,o.fr,o.evs,o.fz⟩;have hm:fr.mode=.returning:=by rw [<- hf.mode.1];exact h.leaving.1
 have CM:P.funcs[fr.fn]?=some fn:=by rw [<- hf.fn];exact h1
 have hk:=hf.ZM;simp only [stepG,Gm,hm,unwind,hk.defers,CM,hr,doReturn,hk.kind,GStep.after,aiP,ahD,if_false,px,aij]
theorem ta{Wg:Nat}{e:Event}(he:KY ρ v e){B:Nat}(hB:∀ b b',ρ b b'->b'<B)(hS:∀ b b',ρ b b'->b'≠Wg)(hM:∀ a u,ρ.m a u->a.block<B/\a.block≠Wg):Conc.EvL (ShN Wg) B e:=by
 rcases he with⟨a,a',h1,h2,h3,h4⟩|⟨r,r',h1,h2,h3,h4⟩|⟨f,h1⟩|h1|⟨a,u,h1,rfl⟩
 ·obtain⟨l,wr,sy⟩:=e;dsimp only at h1 h2 h4;subst h1;subst h2;refine⟨fun x hx hs=>?_,ag,ag,hB _ _ h3.rel⟩;have eQ:some (⟨.cell a',wr,.plain⟩:Touch)=some x:=hx;cases eQ;obtain⟨b,hb,hw⟩:=hs;cases hb;exact absurd hw (hS _ _ h3.rel)
 ·obtain⟨l,wr,sy⟩:=e;dsimp only at h1 h2;subst h1;subst h2;refine⟨fun x hx hs=>?_,ag,ag,?_⟩
  ·have eQ:some (⟨.obj r',wr,.plain⟩:Touch)=some x:=by cases wr<;>exact hx
   cases eQ;obtain⟨b,hb,hw⟩:=hs;cases hb
  ·cases wr<;>exact hB _ _ h3
 ·obtain⟨l,wr,sy⟩:=e;dsimp only at h1;subst h1;exact⟨fun x hx=>(by cases hx),ag,ag,trivial⟩
 ·obtain⟨l,wr,sy⟩:=e;dsimp only at h1;subst h1;exact⟨fun x hx=>(by cases hx),ag,ag,trivial⟩
 ·obtain⟨h2,h3⟩:=hM a u h1;refine⟨fun x hx hs=>?_,ag,ag,h2⟩;have eQ:some (⟨.cell a,false,.plain⟩:Touch)=some x:=hx;cases eQ;obtain⟨b,hb,hw⟩:=hs;cases hb;exact absurd hw h3
theorem WR.ltM(h:WR ρ v w){a:Addr}{u:Value}(hu:ρ.m a u):a.block<w.heap.size:=by
 have e:=(h.std a u hu).2;unfold World.cell? at e
 cases hb:w.heap[a.block]? with
 | none=>rw [hb] at e;cases e
 | some o=>exact bW hb
theorem WR.at {ρ:Ren} {v w:World} (h:WR ρ v w) (d:Nat):WR ρ v (w.at d):=⟨h.lo,h.obj,h.std⟩
theorem WR.ltR(h:WR ρ v w):∀ b b',ρ b b'->b'<w.heap.size:=fun b b' hb=>by obtain⟨o,o',_,h2,_⟩:=h.obj b b' hb;exact bW h2
def JN(P:Program)(Post:Value->World->Prop)(x:FC)(v:World):Prop:=∃ val,cL P x v val/\Post val v/\P.inits.idxOf? x.1.fn=none
def JO(Post:Value->World->Prop)(wJ:World)(cy:Value)(w':World):Prop:=(∃ (ρ:Ren) (v:World) (val:Value),Post val v/\VR ρ val cy/\WR ρ v w')/\(∀ b,b<wJ.heap.size->w'.heap[b]?=wJ.heap[b]?)/\fF wJ w'
def xN(Sh:Nat->Prop)(v:World):Prop:=∀ b,Sh b->∃ c e z,v.heap[b]?=some (.cells c e z)/\xu (0,c.size) z
theorem xN.keep{cg:World}(h:xN Sh v)(k:gf v cg):xN Sh cg:=fun b hb=>by
 obtain⟨c,e,z,h1,h2⟩:=h b hb;obtain⟨c',z',h3,h4⟩:=k.row b c e z h1;exact⟨c',e,z',h3,by rw [h4.size];exact h2.trans h4.zone⟩
structure JP(E:Env P)(Sh:Nat->Prop)(wJ:World)(ρ:Ren)(v:World)(fr:Frame)(cs:List Frame)(w:World):Prop where
 z:ZAt E Sh wJ (fun b=>wJ.heap.size<=b) [] fr cs w
 hp:∀ b,b<wJ.heap.size->w.heap[b]?=wJ.heap[b]?
 out:fF wJ w
 size:wJ.heap.size<=w.heap.size
 sh:∀ b,Sh b->b<wJ.heap.size/\ρ b b
 rng:∀ b b',ρ b b'->(Sh b'/\b=b')∨wJ.heap.size<=b'
 zd:xN Sh v
theorem JP.heap{E:Env P}{Sh:Nat->Prop}{wJ:World}{ρ aQ:Ren}{v cg w ai:World}{fr:Frame}{cs:List Frame}(h:JP E Sh wJ ρ v fr cs w)(hw:WR ρ v w)(lU:WR aQ cg ai)(hl:ρ.le aQ)(wB:∀ z z',cu ρ z z'->v.frozen? z=true->ai.cell? z'=w.cell? z')(hk:gf v cg)(hf:Fr ρ aQ w ai)(hz:vy Sh wJ ai):(∀ b,b<wJ.heap.size->ai.heap[b]?=wJ.heap[b]?)/\fF wJ ai:=by
 refine⟨fun b hb=>?_,h.out.trans ⟨hf.os,hf.output⟩⟩;by_cases hs:Sh b
 ·refine(Gz hw lU hl wB (h.sh b hs).2 (h.zd b hs) hk fun c e z c1 e1 z1 h1 h2=>?_).trans (h.hp b hb);rw [h.hp b hb] at h1;exact hz b hs c e z c1 e1 z1 h1 h2
 ·exact(hf.old b (ahv hb h.size) fun a ha=>(h.rng a b ha).elim (fun h=>hs h.1) fun h=>ae).trans (h.hp b hb)
theorem ZAt.VS{E:Env P}{S0:World}{R R':Nat->Prop}{base:List Frame}{cs:List Frame}(h:ZAt E Sh S0 R base fr cs w)(hr:∀ b,R b->R' b):ZAt E Sh S0 R' base fr cs w:=by
 obtain⟨ρ,x,v,h1,h2,h3,h4,h5,h6,h7,h8,h9⟩:=h;exact⟨ρ,x,v,h1,h2,h3,h4,h5,h6,h7,fun b b' hb=>(h8 b b' hb).imp id (hr _),h9⟩
theorem JP.at {E:Env P} {Sh:Nat->Prop} {wJ:World} {ρ:Ren} {v w:World} {fr:Frame} {cs:List Frame} (h:JP E Sh wJ ρ v fr cs w) {d:Nat}:JP E Sh wJ ρ v fr cs (w.at d):=by
 obtain⟨⟨dX,x,v2,h1,h2,h3,h4,h5,h6,h7,h8,h9⟩,a1,a2,a3,a4,a5,a6⟩:=h;exact⟨⟨dX,x,v2,h1,h2,h3,h4,h5,h6.at d,h7,h8,h9⟩,a1,⟨a2.os,a2.output⟩,a3,a4,a5,a6⟩
structure RInv(P:Program)(E:Env P)(Wg:Nat)(Post:Value->World->Prop)(Sh:Nat->Prop)(wJ:World)(μ:WA P×Nat)(m:Machine)(t:Trace):Prop where
 ex:∃ (gs:Array Goroutine) (w:World) (sl:Option (Nat×Nat)) (q:Nat->Nat) (x:FC) (v:World) (ρ:Ren) (fr:Frame) (cs:List Frame) (hA:Acc (Lt P) (x,v)),
  m=crowd gs w sl/\gs[0]?=some (Gm fr cs)/\Leavers P t gs q/\(∃ B,w.heap.size<=B/\Past (ShN Wg) B t)/\Runs P (JN P Post) x v/\Cx E ρ/\fP E ρ x.1 fr/\lX E ρ [bX P] [] x.2 cs/\WR ρ v w/\(∀ b b',ρ b b'->b'≠Wg)/\Wg<w.heap.size/\JP E Sh wJ ρ v fr cs w/\μ=(some ⟨(x,v),hA⟩,sumTo gs.size q)
theorem GF{E:Env P}{Wg:Nat}{Post:Value->World->Prop}{wJ:World}(hK:cQ E)(hB:cf E)(Xr:∀ a u,E.m a u->a.block≠Wg)(Fc:∀ val v T d,Post val v->Post val (tp v T d))(μ:WA P×Nat)(m:Machine)(t:Trace)(h:RInv P E Wg Post Sh wJ μ m t):
  (∃ o w ops,stepT P m=(.ended o w,ops)/\Good P (JO Post wJ) m o w (t++ops))∨(∃ m' ops Aq,stepT P m=(.next m',ops)/\Prod.Lex (Jt P) (·<·) Aq μ/\RInv P E Wg Post Sh wJ Aq m' (t++ops)):=by
 obtain⟨gs,w,sl,q,x,v,ρ,fr,cs,hA,rfl,h0,hL,⟨B,hBw,hP⟩,hR,jF,iY,bt,Ax,hS,tR,oo,rfl⟩:=h;have aD:(Gm fr cs).status=.running:=rfl;have haw:∀ g∈gs,awake g:=by
  intro g hg;obtain⟨i,hi,rfl⟩:=Array.mem_iff_getElem.1 hg;rcases aiD i with rfl|hpos
  ·have:gs[0]=Gm fr cs:=by simpa [ahO hi] using h0
   rw [this];exact awake_of (.inl aD)
  ·exact awake_of ((hL.old i _ hpos (ahO hi)).status.elim .inl fun x=>.inr (.inr x))
 obtain⟨i,g,d,RV,hi,hg,cH⟩:=crowd_pick (P:=P) (w:=w) (sl:=sl) haw ⟨0,_,h0,aD⟩;have JQ:=Ax.at d;rcases aiD i with rfl|hpos
 ·obtain rfl:g=Gm fr cs:=by rw [h0] at hi;exact(ah6 hi).symm
  rcases hR.OB hK hB true jF iY bt JQ (y:=(fr,cs)) with⟨val,s6,om,px⟩|⟨lr,cg,aQ,ij,ai,evs,s⟩
  ·
   have JJ:cs=[]:=by
    have:=bt;rw [s6.leaving.2] at this;exact this.base
   subst JJ;obtain⟨aQ,cy,ai,T,d',evs,s9,hle,OF,lU,hf,RQ,wB⟩:=s6.ends iY JQ (by rw [<- iY.fn];exact px);have Az:JP E Sh wJ ρ v fr [] (w.at d):=oo.at;have bc:vy Sh wJ ai:=by
    obtain⟨ρz,xz,vz,afB,Dw,S6,hz3,hz4,hz5,UU⟩:=Az.z.fin iY bt s6.leaving;obtain⟨afE,_,cO,T',d',_,OJ,VT,_,aag,_⟩:=Dw.ends hz3 hz4 (by rw [<- iY.fn];exact px);rw [s9] at OJ;injection OJ with _ e2 _
    subst e2;exact sS (by rw [VT.eq];exact S6) aag (fun b hb=>VT.r _ _ (hz5 b hb)) UU
   have xd:=Az.heap JQ lU hle wB ⟨fun r c t z h=>⟨c,z,h,.refl c z⟩,ahr _⟩ hf bc;have AA:=runT_many_ended (P:=P) (sl:=RV) (i:=0) hi (show stepG P (0==0) (Gm fr []) (w.at d)=_ from s9);have Xs:∀ b b',aQ b b'->b'≠Wg:=fun b b' hb=>(hf.new b b' hb).elim (hS b b') fun h e=>by have:w.heap.size<=b':=h;omega
   have hP':=(hP.mono (Nat.le_max_left B ai.heap.size)).own (fn:=(Gm fr []).frame.fn) (pos:=(Gm fr []).frame.place) (es:=seen P fr.fn evs) fun e he=>ta (RQ e (nZ _ _ e he)) (fun b b' hb=>ahv (lU.ltR b b' hb) (Nat.le_max_right _ _)) Xs (fun a u hu=>⟨ahv (lU.ltM hu) (Nat.le_max_right _ _),Xr a u (by rw [hle.m.trans jF.m] at hu;exact hu)⟩);refine .inl ⟨_,_,_,cH.trans AA,cy,rfl,⟨⟨aQ,_,val,Fc val v T d' om,OF,lU⟩,xd⟩,hP'.clean,hP'.over,⟨fun x hx=>?_,rfl⟩,fun j x hx hj=>?_⟩
   ·obtain⟨j,hj⟩:=List.mem_iff_getElem?.1 hx;rw [ah5] at hj;exact⟨_,(hL.old (1+j) x ae (by simpa [crowd] using hj)).leaves⟩
   ·have hq:=hL.old j x ae hx;refine⟨q j,?_⟩;have e:(t++MemOp.ofEvents 0 (Gm fr []).frame.fn (Gm fr []).frame.place (seen P fr.fn evs)).deaf j (t++MemOp.ofEvents 0 (Gm fr []).frame.fn (Gm fr []).frame.place (seen P fr.fn evs)).size=Deaf t j :=
     Deaf_other t (g:=j) (g':=0) ae _ (fun op bU=>by obtain⟨e,_,rfl⟩:=mem_ofEvents bU;rfl)
    rw [e];exact hq.hears _
  ·
   have AA:=runT_crowd_go (P:=P) (sl:=RV) (i:=0) hi (show stepG P (0==0) (Gm fr cs) (w.at d)=_ from s.step);have bc:((gs.map (woken P (Gm fr cs) (Gm ij.1 ij.2) ai)).setIfInBounds 0 (Gm ij.1 ij.2)).size=gs.size:=ag;have aA:0<gs.size:=(ahx.1 h0).1;have Xs:∀ b b',aQ b b'->b'≠Wg:=fun b b' hb=>(s.frame.new b b' hb).elim (hS b b') fun h e=>by have:w.heap.size<=b':=h;omega
   have yC:w.heap.size<=ai.heap.size:=s.frame.size;have Az:JP E Sh wJ ρ v fr cs (w.at d):=oo.at;obtain⟨Nh,jh⟩:=Az.z.step hK hB iY bt (by obtain⟨QH,_⟩:=s.lt;exact QH) s.step;obtain⟨VU,VW⟩:=Az.heap JQ s.wr s.le s.fz s.keep s.frame jh;have VX:JP E Sh wJ aQ cg ij.1 ij.2 ai:=⟨Nh.VS fun b h=>h.elim id fun h=>ahZ oo.size h.1,VU,VW,ahZ oo.size yC,fun b hb=>⟨(oo.sh b hb).1,s.le.r _ _ (oo.sh b hb).2⟩,fun b b' hb=>(s.frame.new b b' hb).elim (oo.rng b b') fun h=>.inr (ahZ oo.size h),oo.zd.keep s.keep⟩;refine .inr ⟨_,_,(some ⟨(lr,cg),hA.inv s.lt⟩,sumTo gs.size q),cH.trans AA,Prod.Lex.left _ _ (.mk s.lt),⟨_,ai,RV,q,lr,cg,aQ,ij.1,ij.2,hA.inv s.lt,rfl,by simp [aA],⟨fun j x hj hx=>?_,fun j hj=>?_⟩,⟨_,Nat.le_max_right _ _,(hP.mono (Nat.le_max_left B ai.heap.size)).own fun e he=>ta (s.evs e (nZ _ _ e he)) (fun b b' hb=>ahv (s.wr.ltR b b' hb) (Nat.le_max_right _ _)) Xs (fun a u hu=>⟨ahv (s.wr.ltM hu) (Nat.le_max_right _ _),Xr a u (by rw [s.le.m.trans jF.m] at hu;exact hu)⟩)⟩,s.runs,jF.mono s.le,s.fr,s.cs,s.wr,Xs,ahv tR yC,VX,by rw [bc];rfl⟩⟩
   ·have cr:0≠j:=ae;rw [ahw cr,aik] at hx;obtain⟨y,hy,rfl⟩:=ahs.1 hx;have hq:=hL.old j y hj hy;rw [woken_quitsD hq,Deaf_other t ae _ (fun op bU=>by obtain⟨e,_,rfl⟩:=mem_ofEvents bU;rfl)];exact hq
   ·rw [Deaf_other t (g':=0) (by simp at hj;omega) _ (fun op bU=>by obtain⟨e,_,rfl⟩:=mem_ofEvents bU;rfl)];exact hL.above j (by simpa using hj)
 ·have hq:=hL.old i g hpos hi;have S1:(i==0)=false:=by simp;omega
  have aA:i<gs.size:=(ahx.1 hi).1
  cases hqi:q i with
  | zero=>rw [hqi] at hq;rw [hq.1] at hg;cases hg
  | succ k =>
   rw [hqi] at hq;rcases hq with⟨hf,_⟩|⟨_,g',es,hm,aai,yd⟩
   ·rw [hf] at hg;cases hg
   have AA:=runT_crowd_go (P:=P) (sl:=RV) (i:=i) hi (by rw [S1];exact aai (w.at d));have bc:((gs.map (woken P g g' (w.at d))).setIfInBounds i g').size=gs.size:=ag;have afF:sumTo gs.size (upd q i k)+(k+1)=sumTo gs.size q+k:=by
    have:=sumTo_upd q k id aA;simpa [hqi] using this
   refine .inr ⟨_,_,(some ⟨(x,v),hA⟩,sumTo gs.size (upd q i k)),cH.trans AA,Prod.Lex.right _ ae,⟨_,w.at d,RV,upd q i k,x,v,ρ,fr,cs,hA,rfl,?_,⟨fun j x hj hx=>?_,fun j hj=>by
    rw [Deaf_other t (g':=i) (by simp at hj;omega) _ (fun op bU=>by obtain⟨e,_,rfl⟩:=mem_ofEvents bU;rfl)]
    exact hL.above j (by simpa using hj)⟩,⟨B,hBw,hP.mute ae hm⟩,hR,jF,iY,bt,JQ,hS,tR,oo.at,by rw [bc];rfl⟩⟩
   ·have cr:i≠0:=ae;rw [ahw cr,aik,h0];simp [woken_run aD]
   ·by_cases Fo:i=j
    ·subst Fo;rw [ahS (by simpa using aA)] at hx;obtain rfl:=ah6 hx;rw [upd_same,Deaf_own];exact yd
    ·rw [ahw Fo,aik] at hx;obtain⟨y,hy,rfl⟩:=ahs.1 hx;have hqj:=hL.old j y hj hy;rw [woken_quitsD hqj,upd_ne q k (Ne.symm Fo),Deaf_other t Fo _ (fun op bU=>by obtain⟨e,_,rfl⟩:=mem_ofEvents bU;rfl)];exact hqj
theorem GG{E:Env P}{Wg:Nat}{Post:Value->World->Prop}{Sh:Nat->Prop}{wJ:World}(hK:cQ E)(hB:cf E)(Xr:∀ a u,E.m a u->a.block≠Wg)(Fc:∀ val v T d,Post val v->Post val (tp v T d)){gs:Array Goroutine}{w:World}{sl:Option (Nat×Nat)}{q:Nat->Nat}{x:FC}{ρ:Ren}{fr:Frame}{cs:List Frame}{t:Trace}
  (h0:gs[0]?=some (Gm fr cs)) (hL:Leavers P t gs q) (hP:∃ B,w.heap.size<=B/\Past (ShN Wg) B t) (hR:Runs P (JN P Post) x v) (jF:Cx E ρ) (iY:fP E ρ x.1 fr) (bt:lX E ρ [bX P] [] x.2 cs) (Ax:WR ρ v w) (hS:∀ b b',ρ b b'->b'≠Wg) (tR:Wg<w.heap.size) (oo:JP E Sh wJ ρ v fr cs w) :
  ∃ N last o w' t',runNT P (N+1) (crowd gs w sl) t=(.ended o w',t')/\runN P N (crowd gs w sl)=.next last/\step P last=.ended o w'/\Good P (JO Post wJ) last o w' t' :=
 run_of_inv (Prod.lex ⟨_,Oz P⟩ ⟨_,Nat.lt_wfRel.wf⟩).wf (RInv P E Wg Post Sh wJ) (Good P (JO Post wJ)) (GF hK hB Xr Fc) _ _ _
  ⟨gs,w,sl,q,x,v,ρ,fr,cs,hR.acc fun x w h=>by(obtain⟨val,h,_⟩:=h;exact h.leaving),rfl,h0,hL,hP,hR,jF,iY,bt,Ax,hS,tR,oo,rfl⟩
end
end CO
namespace CO
open Go
variable {x:Value}{ty:Nat}
inductive Pl:Value->Prop
 | int (k:IntKind) (n:Int):Pl (.int k n)
 | str (s:ByteArray):Pl (.string s)
theorem Pl.vr{v:Value}(h:Pl v)(ρ:Ren):VR ρ v v:=by
 cases h with
 | int k n=>exact .int k n
 | str s=>exact .string s
section
variable (m:Addr->Value->Prop)
def Pt(cps:List (Value->Prop))(x:Value):Prop:=∃ b o,x=.pointer (some ⟨b,o,none⟩)/\∀ (j:Nat) (Q:Value->Prop),cps[j]?=some Q->∃ u,m ⟨b,o+j,none⟩ u/\Q u
def Sl(cps:List (Value->Prop))(x:Value):Prop:=(∃ a c,x=.slice a 0 c)∨∃ b o l c,x=.slice (some ⟨b,o,none⟩) l c/\∀ i,i<l->∀ (j:Nat) (Q:Value->Prop),cps[j]?=some Q->∃ u,m ⟨b,o+(i*cps.length+j),none⟩ u/\Q u
end
theorem iS(b o n:Nat):(⟨b,o,none⟩:Addr).add n=⟨b,o+n,none⟩:=by
 unfold Addr.add;split
 ·rename_i h;subst h;rfl
 ·rfl
section
variable {P:Program} {m:Addr->Value->Prop} {ρ:Ren}
theorem SR.Tg{α β:Type}{Q:Ren->α->β->Prop}{t:TypeId}{d:TypeDesc}{f:TypeDesc->Sem α}{g:TypeDesc->Sem β}(hu:P.underlying t=some d)(k:SR P Q ρ (f d) (g d)):SR P Q ρ (underlying t >>= f) (underlying t >>= g):=by
 refine .program ?_;show SR P Q ρ ((match P.underlying t with|some d=>Pure.pure d|none=>stuck "no such type" : Sem TypeDesc).bind f) ((match P.underlying t with|some d=>Pure.pure d|none=>stuck "no such type" : Sem TypeDesc).bind g);rw [hu];exact k
theorem SR.gJ{α β:Type}{Q:Ren->α->β->Prop}{t n:Nat}{f:Nat->Sem α}{g:Nat->Sem β}(hi:(P.info? t).map (·.size)=some n)(k:SR P Q ρ (f n) (g n)):SR P Q ρ (sizeOf t >>= f) (sizeOf t >>= g):=by
 obtain⟨i,h1,rfl⟩:=ahs.1 hi;refine .program ?_;show SR P Q ρ (((match P.info? t with|some i=>Pure.pure i|none=>stuck "no such type" : Sem TypeInfo).bind fun i=>.pure i.size).bind f) (((match P.info? t with|some i=>Pure.pure i|none=>stuck "no such type" : Sem TypeInfo).bind fun i=>.pure i.size).bind g);rw [h1];exact k
theorem tc{ty e:TypeId}{cps:List (Value->Prop)}(hu:P.underlying ty=some (.slice e))(hs:(P.info? e).map (·.size)=some cps.length)(hx:x=undef∨Sl m cps x){y y':Value}(hy:VR ρ y y'):
  SR P (fun _ a b=>b=a/\Pt m cps a) ρ (Instr.indexAt ty x y) (Instr.indexAt ty x y'):=by
 unfold Instr.indexAt;refine(ie hy).seq fun db hl ki _ e=>?_;subst e;obtain⟨k,i⟩:=ki;dsimp only;refine SR.Tg hu ?_;rcases hx with rfl|⟨a,c,rfl⟩|⟨b,o,l,c,rfl,h⟩
 ·exact .halt
 ·refine(SR.ret (R:=fun _ (p q:Option Addr×Nat×TypeId)=>p=(a,0,e)/\q=(a,0,e)) (a:=((a,0,e):Option Addr×Nat×TypeId)) (b:=((a,0,e):Option Addr×Nat×TypeId)) ⟨rfl,rfl⟩).seq fun dX bZ p q ep=>?_;obtain⟨rfl,rfl⟩:=ep;refine SR.Tg hu ?_
  cases a with
  | none=>exact .dead (bS _ _ _ _)
  | some a =>
   simp only [if_neg (show ¬ (0<=i/\i<((0:Nat):Int)) by omega),Bool.and_false,ahD,if_false];exact .dead (bS _ _ _ _)
 ·refine(SR.ret (R:=fun _ (p q:Option Addr×Nat×TypeId)=>p=(some ⟨b,o,none⟩,l,e)/\q=(some ⟨b,o,none⟩,l,e)) (a:=((some (⟨b,o,none⟩:Addr),l,e):Option Addr×Nat×TypeId)) (b:=((some (⟨b,o,none⟩:Addr),l,e):Option Addr×Nat×TypeId)) ⟨rfl,rfl⟩).seq fun dX bZ p q ep=>?_;obtain⟨rfl,rfl⟩:=ep;refine SR.Tg hu ?_;by_cases hi:0<=i/\i<(l:Int)
  ·simp only [if_pos hi];refine SR.gJ hs (.pure ⟨rfl,b,o+i.toNat*cps.length,by rw [iS],fun j Q hj=>?_⟩);obtain⟨u,h1,h2⟩:=h i.toNat ae j Q hj;exact⟨u,by rw [aix];exact h1,h2⟩
  ·simp only [if_neg hi];simp only [Bool.and_false,ahD,if_false];exact .dead (bS _ _ _ _)
theorem JR{i n:Nat}{fs:Array Field}{f:Field}{cps:List (Value->Prop)}{Q:Value->Prop}(hu:P.underlying ty=some (.struct fs))(hf:fs[i]?=some f)(hn:(P.info? f.type).map (·.size)=some n)(h0:n≠0)(hQ:cps[f.offset]?=some Q)(hx:x=undef∨Pt m cps x):
  SR P (fun _ a b=>b=a/\Pt m [Q] a) ρ (Instr.fieldAt ty x i) (Instr.fieldAt ty x i):=by
 unfold Instr.fieldAt;refine SR.Tg hu ?_;dsimp only;rw [hf];dsimp only;rcases hx with rfl|⟨b,o,rfl,h⟩
 ·exact .halt
 ·refine(SR.ret (R:=fun _ (p q:Addr)=>p=⟨b,o,none⟩/\q=⟨b,o,none⟩) (a:=(⟨b,o,none⟩:Addr)) (b:=(⟨b,o,none⟩:Addr)) ⟨rfl,rfl⟩).seq fun dX bZ p q ep=>?_;obtain⟨rfl,rfl⟩:=ep;have hp:SR P (fun _ (p q:Addr)=>p=⟨b,o+f.offset,none⟩/\q=⟨b,o+f.offset,none⟩) dX (fieldPlace ⟨b,o,none⟩ f) (fieldPlace ⟨b,o,none⟩ f):=by
   unfold fieldPlace;refine SR.gJ hn ?_;rw [if_neg h0,iS];exact .pure ⟨rfl,rfl⟩
  refine hp.seq fun tQ fH p q ep=>?_;obtain⟨rfl,rfl⟩:=ep;refine .pure ⟨rfl,b,o+f.offset,rfl,fun j Q' hj=>?_⟩
  cases j with
  | zero =>
   cases hj;exact h _ _ hQ
  | succ j=>simp at hj
theorem JS{d:TypeDesc}{z:Bool}(hu:P.underlying ty=some d)(hd:(match d with|.struct _|.array _ _=>true|_=>false)=z):SR P (fun _ (p q:Bool)=>p=z/\q=z) ρ (isAgg ty) (isAgg ty):=by
 unfold isAgg;refine SR.Tg hu ?_;subst hd;cases d<;>exact .pure ⟨rfl,rfl⟩
theorem AB{b o:Nat}:∀ (n i:Nat) (p:Array Value),(∀ j,i<=j->j<i+n->∃ u,ρ.m ⟨b,o+j,none⟩ u/\Pl u)->AR ρ p p->SR P AR ρ (loadCellsFrom ⟨b,o,none⟩ i n p) (loadCellsFrom ⟨b,o,none⟩ i n p)
 | 0,i,p,_,hp=>.pure hp
 | n+1,i,p,h,hp=>by
  obtain⟨u,h1,h2⟩:=h i (ahr _) ae;show SR P AR ρ (.load .plain ((⟨b,o,none⟩:Addr).add i) fun v=>loadCellsFrom _ (i+1) n (p.push v)) (.load .plain ((⟨b,o,none⟩:Addr).add i) fun v=>loadCellsFrom _ (i+1) n (p.push v));rw [iS];exact .peek h1 (AB n (i+1) (p.push u) (fun j h1 h2=>h j ae ae) (hp.push (h2.vr ρ)))
theorem JU{n:Nat}{fs:Array Field}(hu:P.underlying ty=some (.struct fs))(hn:(P.info? ty).map (·.size)=some n)(hx:x=undef∨Pt ρ.m (List.replicate n Pl) x):SR P VV ρ (Instr.loadAt ty x) (Instr.loadAt ty x):=by
 unfold Instr.loadAt;rcases hx with rfl|⟨b,o,rfl,h⟩
 ·exact .halt
 ·show SR P VV ρ (loadVar ty ⟨b,o,none⟩) (loadVar ty ⟨b,o,none⟩);unfold loadVar;refine(JS hu (z:=true) rfl).seq fun dX bZ p q ep=>?_;obtain⟨rfl,rfl⟩:=ep;simp only [if_true];refine SR.gJ hn ?_;unfold loadCells;refine(AB n 0 #[] (fun j _ hj=>by rw [bZ.m];exact h j Pl (by rw [List.getElem?_replicate,if_pos ae])) .nil).seq fun db hl c c' hc=>.pure (.agg hc.size hc.get)
theorem xO{d:TypeDesc}{Q:Value->Prop}(hu:P.underlying ty=some d)(hd:(match d with|.struct _|.array _ _=>true|_=>false)=false)(hx:x=undef∨Pt ρ.m [Q] x):SR P (fun _ a b=>b=a/\Q a) ρ (Instr.loadAt ty x) (Instr.loadAt ty x):=by
 unfold Instr.loadAt;rcases hx with rfl|⟨b,o,rfl,h⟩
 ·exact .halt
 ·show SR P _ ρ (loadVar ty ⟨b,o,none⟩) (loadVar ty ⟨b,o,none⟩);unfold loadVar;refine(JS hu hd).seq fun dX bZ p q ep=>?_;obtain⟨rfl,rfl⟩:=ep;obtain⟨u,h1,h2⟩:=h 0 Q rfl;simp only [ahD,if_false];exact .peek (by rw [bZ.m];simpa using h1) (.pure ⟨rfl,h2⟩)
theorem AD{F:Nat->Bool}{ty e:TypeId}{cps:List (Value->Prop)}(hu:P.underlying ty=some (.slice e))(hx:x=undef∨Sl m cps x)(t:TypeId)(cs:Array Bool):SR P (CE P F) ρ (builtin .len #[ty] t cs #[x]) (builtin .len #[ty] t cs #[x]):=by
 show SR P (CE P F) ρ (do pure (.value (<- Builtin.len_ #[ty] t #[x]))) (do pure (.value (<- Builtin.len_ #[ty] t #[x])));refine dY ?_;unfold Builtin.len_;refine SR.Tg hu ?_;rcases hx with rfl|⟨a,c,rfl⟩|⟨b,o,l,c,rfl,h⟩
 ·exact .halt
 ·exact .pure (.int _ _)
 ·exact .pure (.int _ _)
end
end CO
namespace CO
open Go Go.Conc Go.ConcN
variable {b:Nat}
def JV(u:Value):Prop:=Pl u∨(∃ t a,u=.iface t (.pointer (some a)))∨∃ a,u=.pointer a
def Hg(Tb:Nat->Bool)(w:World):Prop:=∀ b,Tb b=true->∃ c e z,w.heap[b]?=some (.cells c e z)/\FzI c.size z/\∀ (i:Nat) u,c[i]?=some u->JV u
def cl:Value->Value
 | .iface t (.pointer (some _))=>.iface t (.tuple #[])
 | .pointer (some _)=>.tuple #[]
 | v=>v
theorem EI{u:Value}(h:JV u)(ρ:Ren):VR ρ (cl u) u/\VR ρ (cl u) (cl u):=by
 rcases h with h|⟨t,a,rfl⟩|⟨_|a,rfl⟩
 ·have:cl u=u:=by cases h<;>rfl
  rw [this];exact⟨h.vr ρ,h.vr ρ⟩
 ·exact⟨.iface t (.junk a),.iface t .undef⟩
 ·exact⟨.ptrN,.ptrN⟩
 ·exact⟨.junk a,.undef⟩
def clO:Obj->Obj
 | .cells c e _=>.cells (c.map cl) e (0,c.size)
 | o=>o
def cd(Tb:Nat->Bool)(w:World):World:={ w with heap:=w.heap.mapIdx fun b o=>if Tb b=true then clO o else o }
theorem AE(Tb:Nat->Bool)(w:World)(b:Nat):(cd Tb w).heap[b]?=(w.heap[b]?).map fun o=>if Tb b=true then clO o else o:=by
 unfold cd;simp
theorem jA(Tb:Nat->Bool)(w:World):(cd Tb w).heap.size=w.heap.size:=by unfold cd;simp
theorem tf{Tb:Nat->Bool}{w:World}(h:Tb b=false):(cd Tb w).heap[b]?=w.heap[b]?:=by
 rw [AE];simp [h]
theorem jB{Tb:Nat->Bool}{w:World}{a:Addr}(h:Tb a.block=false):(cd Tb w).cell? a=w.cell? a:=by
 unfold World.cell?;rw [tf h]
theorem fG{Tb:Nat->Bool}{w:World}(h:Tb b=true){c:Array Value}{e:TypeId}{z:Nat×Nat}(hc:w.heap[b]?=some (.cells c e z)):(cd Tb w).heap[b]?=some (.cells (c.map cl) e (0,c.size)):=by
 rw [AE,hc];simp [h,clO]
section
variable {P:Program}
theorem Runs.mono{F F2:FC->World->Prop}(hF:∀ x v,F x v->F2 x v){x:FC}{v:World}(h:Runs P F x v):Runs P F2 x v:=by
 induction h with
 | fin h=>exact .fin (hF _ _ h)
 | step y v hn h1 _ ih=>exact .step y v hn h1 ih
def ly(E:Env P)(Tb:Nat->Bool)(q:Prop)(hm:∀ a u,E.m a u->Tb a.block=false):Ren :=
 ⟨fun a b=>a=b/\Tb a=true,q,fun h g=>h.1▸g.1,fun h g=>h.1.trans g.1.symm,P.globals.size,fun h=>by rw [h.1],fun f=>E.F f=true,E.m,fun{a u} h b=>⟨fun e=>by rw [hm a u h] at e;exact absurd e.2 ag,fun e=>by
  have:=hm a u h;rw [<- e.1,e.2] at this;cases this⟩⟩
variable {E:Env P} {Tb:Nat->Bool} {w:World}
theorem ot{q:Prop}(hm:∀ a u,E.m a u->Tb a.block=false)(hg:∀ g,E.G g=true->Tb g=true):Cx E (ly E Tb q hm):=⟨rfl,rfl,fun g h=>⟨rfl,hg g h⟩,rfl⟩
theorem EJ(hm:∀ a u,E.m a u->Tb a.block=false)(hT:Hg Tb w)(hg:P.globals.size<=w.heap.size)(hs:∀ a u,E.m a u->w.cell? a=some u):WR (ly E Tb False hm) (cd Tb w) w:=by
 refine⟨⟨by rw [jA];exact hg,hg⟩,fun b b' hb=>?_,fun a u hu=>⟨by rw [jB (hm a u hu)];exact hs a u hu,hs a u hu⟩⟩;obtain⟨rfl,hb⟩:=hb;obtain⟨c,e,z,h1,h2,h3⟩:=hT b hb;refine⟨_,_,fG hb h1,h1,.cells e (h2.imp id fun h=>⟨id,h.2⟩) ⟨ag,fun i x y hx hy=>?_⟩⟩;rw [aik,hy] at hx;cases hx;exact(EI (h3 i y hy) _).1
theorem AF(hm:∀ a u,E.m a u->Tb a.block=false)(hT:Hg Tb w)(hg:P.globals.size<=w.heap.size)(hs:∀ a u,E.m a u->w.cell? a=some u):WR (ly E Tb True hm) (cd Tb w) (cd Tb w):=by
 have dm:P.globals.size<=(cd Tb w).heap.size:=by rw [jA];exact hg
 have dz:∀ a u,E.m a u->(cd Tb w).cell? a=some u:=fun a u hu=>by rw [jB (hm a u hu)];exact hs a u hu
 refine⟨⟨dm,dm⟩,fun b b' hb=>?_,fun a u hu=>⟨dz a u hu,dz a u hu⟩⟩;obtain⟨rfl,hb⟩:=hb;obtain⟨c,e,z,h1,h2,h3⟩:=hT b hb;refine⟨_,_,fG hb h1,fG hb h1,.cells e (.inl rfl) ⟨rfl,fun i x y hx hy=>?_⟩⟩;rw [hx] at hy;cases hy;rw [aik,ahs] at hx;obtain⟨u,hu,rfl⟩:=hx;exact(EI (h3 i u hu) _).2
theorem runs_callsV(hK:cQ E)(hB:cf E)(hm:∀ a u,E.m a u->Tb a.block=false)(q8:∀ g,E.G g=true->Tb g=true){v:World}(hv:WR (ly E Tb True hm) v v)
  {f:Nat} {args:Array Value} {Q:Value->World->Prop} (hq:∀ val (v:World) T d,Q val v->Q val (tp v T d)) (hf:fP E (ly E Tb True hm) (Frame.enter P f args .normal) (Frame.enter P f args .normal))
  (H:∀ T,Calls P f args (tp v T 0) fun e w'=>∃ val,e=.returned val/\Q val w'):Runs P (fun x v=>∃ val,cL P x v val/\Q val v) (Frame.enter P f args .normal,[bX P]) v:=by
 refine EB hK hB (fun x w ⟨val,h,_⟩=>h.leaving) (fun x w T d ⟨val,h,h2⟩=>⟨val,h.Ov T d,hq val w T d h2⟩) ⟨ly E Tb True hm,trivial,ot hm q8,hf,.nil,hv⟩ fun T=>?_;obtain⟨e,w',fr,⟨val,rfl,ZD⟩,⟨n,hn⟩,CM,hl⟩:=H T [bX P];obtain⟨l1,l2,l3,fn,l4,l5⟩:=hl;exact⟨n,(fr,[bX P]),w',hn,val,⟨⟨l1,rfl⟩,fn,l4,l5⟩,ZD⟩
theorem CS(hK:cQ E)(hB:cf E)(hm:∀ a u,E.m a u->Tb a.block=false)(q8:∀ g,E.G g=true->Tb g=true)(hT:Hg Tb w)(hg:P.globals.size<=w.heap.size)(hs:∀ a u,E.m a u->w.cell? a=some u)
  {f:Nat} {args:Array Value} {Q:Value->World->Prop} (hq:∀ val v T d,Q val v->Q val (tp v T d)) (hf:fP E (ly E Tb True hm) (Frame.enter P f args .normal) (Frame.enter P f args .normal))
  (H:∀ T,Calls P f args (tp (cd Tb w) T 0) fun e w'=>∃ val,e=.returned val/\Q val w'):Runs P (fun x v=>∃ val,cL P x v val/\Q val v) (Frame.enter P f args .normal,[bX P]) (cd Tb w) :=
 runs_callsV hK hB hm q8 (AF hm hT hg hs) hq hf H
theorem CU(hK:cQ E)(hB:cf E)(hm:∀ a u,E.m a u->Tb a.block=false)(q8:∀ g,E.G g=true->Tb g=true){v:World}(hv:WR (ly E Tb True hm) v v)
  {b:Frame} {fn:Func} {t:Array Value} {c:Code} {Q:Value->World->Prop} (hq:∀ val v T d,Q val v->Q val (tp v T d)) (CM:P.funcs[b.fn]?=some fn) (px:P.inits.idxOf? b.fn=none) (hf:fP E (ly E Tb True hm) (b.at ⟨t,[]⟩ [.code c]) (b.at ⟨t,[]⟩ [.code c]))
  (H:∀ T,c.wp P (bodyPost P fn fun e w'=>∃ val,e=.returned val/\Q val w') ⟨t,[]⟩ (tp v T 0)):Runs P (JN P Q) (b.at ⟨t,[]⟩ [.code c],[bX P]) v:=by
 refine EB hK hB (fun x w ⟨val,h,_⟩=>h.leaving) (fun x w T d ⟨val,h,h2,h3⟩=>⟨val,h.Ov T d,hq val w T d h2,h3⟩) ⟨ly E Tb True hm,trivial,ot hm q8,hf,.nil,hv⟩ fun T=>?_;obtain⟨e,a',w',yd,ha⟩:=H T b [] [bX P];have fin:∀ {todo:List Item},Steps P (lone (b.at ⟨t,[]⟩ [.code c]) [bX P] (tp v T 0)) (lone { b.at a' todo with mode:=.returning } [bX P] w')->(a'.defers=[]/\∃ val,(results fn a'.tmps).run P w'=.ok val w'/\Q val w')->∃ n y ai,runN P n (lone (b.at ⟨t,[]⟩ [.code c]) [bX P] (tp v T 0))=.next (lone y.1 y.2 ai)/\JN P Q y ai:=fun{todo} ⟨n,hn⟩ ⟨h1,val,h2,h3⟩ =>
  ⟨n,({ b.at a' todo with mode:=.returning },[bX P]),w',hn,val,⟨⟨rfl,rfl⟩,fn,CM,h2⟩,h3,px⟩
 cases e with
 | normal =>
  obtain⟨h1,val,h2,_,heq,h3⟩:=yd;cases heq;exact fin (Steps.trans ha (Steps.one step_end)) ⟨h1,_,h2,h3⟩
 | ret =>
  obtain⟨h1,val,h2,_,heq,h3⟩:=yd;cases heq;obtain⟨todo,ha⟩:=ha;exact fin ha ⟨h1,_,h2,h3⟩
 | exit id=>exact yd.elim
 | goto l=>exact yd.elim
 | panic ch=>obtain⟨_,_,h,_⟩:=yd;cases h
 | outgrown=>obtain⟨_,h,_⟩:=yd;cases h
def clZ:Obj->Obj
 | .cells c e z=>.cells (c.map cl) e z
 | o=>o
def viewZ(Tb:Nat->Bool)(w:World):World:={ w with heap:=w.heap.mapIdx fun b o=>if Tb b=true then clZ o else o }
theorem vE(Tb:Nat->Bool)(w:World)(b:Nat):(viewZ Tb w).heap[b]?=(w.heap[b]?).map fun o=>if Tb b=true then clZ o else o:=by
 unfold viewZ;simp
theorem ff(Tb:Nat->Bool)(w:World):(viewZ Tb w).heap.size=w.heap.size:=by unfold viewZ;simp
theorem pZ{Tb:Nat->Bool}(h:Tb b=false):(viewZ Tb w).heap[b]?=w.heap[b]?:=by
 rw [vE];simp [h]
theorem im{Tb:Nat->Bool}{a:Addr}(h:Tb a.block=false):(viewZ Tb w).cell? a=w.cell? a:=by
 unfold World.cell?;rw [pZ h]
theorem dW{Tb:Nat->Bool}(h:Tb b=true){c:Array Value}{e:TypeId}{z:Nat×Nat}(hc:w.heap[b]?=some (.cells c e z)):(viewZ Tb w).heap[b]?=some (.cells (c.map cl) e z):=by
 rw [vE,hc];simp [h,clZ]
theorem JW(hm:∀ a u,E.m a u->Tb a.block=false)(hT:Hg Tb w)(hg:P.globals.size<=w.heap.size)(hs:∀ a u,E.m a u->w.cell? a=some u):WR (ly E Tb True hm) (viewZ Tb w) w:=by
 refine⟨⟨by rw [ff];exact hg,hg⟩,fun b b' hb=>?_,fun a u hu=>⟨by rw [im (hm a u hu)];exact hs a u hu,hs a u hu⟩⟩;obtain⟨rfl,hb⟩:=hb;obtain⟨c,e,z,h1,h2,h3⟩:=hT b hb;refine⟨_,_,dW hb h1,h1,.cells e (.inl rfl) ⟨ag,fun i x y hx hy=>?_⟩⟩;rw [aik,hy] at hx;cases hx;exact(EI (h3 i y hy) _).1
theorem vF(hm:∀ a u,E.m a u->Tb a.block=false)(hT:Hg Tb w)(hg:P.globals.size<=w.heap.size)(hs:∀ a u,E.m a u->w.cell? a=some u):WR (ly E Tb True hm) (viewZ Tb w) (viewZ Tb w):=by
 have dm:P.globals.size<=(viewZ Tb w).heap.size:=by rw [ff];exact hg
 have dz:∀ a u,E.m a u->(viewZ Tb w).cell? a=some u:=fun a u hu=>by rw [im (hm a u hu)];exact hs a u hu
 refine⟨⟨dm,dm⟩,fun b b' hb=>?_,fun a u hu=>⟨dz a u hu,dz a u hu⟩⟩;obtain⟨rfl,hb⟩:=hb;obtain⟨c,e,z,h1,h2,h3⟩:=hT b hb;refine⟨_,_,dW hb h1,dW hb h1,.cells e (.inl rfl) ⟨rfl,fun i x y hx hy=>?_⟩⟩;rw [hx] at hy;cases hy;rw [aik,ahs] at hx;obtain⟨u,hu,rfl⟩:=hx;exact(EI (h3 i u hu) _).2
theorem JX{S0:World}{R:Nat->Prop}{base:List Frame}{fr:Frame}{Q:FC->World->Prop}(hm:∀ a u,E.m a u->Tb a.block=false)(q8:∀ g,E.G g=true->Tb g=true)(hT:Hg Tb w)(hg:P.globals.size<=w.heap.size)(hs:∀ a u,E.m a u->w.cell? a=some u)
  (hf:fP E (ly E Tb True hm) fr fr) (h0:∀ b,Tb b=true->w.heap[b]?=S0.heap[b]?) (hr:Runs P Q (fr,[bX P]) (viewZ Tb w)) (hQ:∀ x v,Q x v->M9 P (fun b=>Tb b=true) S0 x v):ZAt E (fun b=>Tb b=true) S0 R base fr base w :=
 ⟨ly E Tb True hm,(fr,[bX P]),viewZ Tb w,hr.mono hQ,trivial,ot hm q8,hf,.nil,JW hm hT hg hs,fun b hb=>⟨rfl,hb⟩,fun b b' h=>.inl ⟨by rw [<- h.1];exact h.2,h.1⟩,fun b hb c e z h1=>⟨_,e,dW hb ((h0 b hb).trans h1)⟩⟩
end
end CO
namespace CO
open Go Go.Conc
variable {ops:Array Oper}{i:Nat}
inductive tg(md:Region.Mode)(ops:Array Oper):Array Bool->List Nat->Prop
 | nil {listed:Array Bool}:Region.ready md ops listed=[]->tg md ops listed []
 | cons {listed:Array Bool} {i:Nat} {l:List Nat}:i∈Region.ready md ops listed->tg md ops (listed.setIfInBounds i true) l->tg md ops listed (i::l)
def mi(listed:Array Bool):Nat:=listed.toList.countP (·==false)
theorem gK{listed:Array Bool}(h:listed.getD i true=false):mi (listed.setIfInBounds i true)+1=mi listed:=by
 obtain⟨l⟩:=listed;unfold mi;simp only [List.setIfInBounds_toArray];have key:∀ (l:List Bool) (i:Nat),l[i]?.getD true=false->(l.set i true).countP (·==false)+1=l.countP (·==false):=by
  intro l
  induction l with
  | nil=>intro i h;simp at h
  | cons a l ih =>
   intro i h
   cases i with
   | zero=>simp at h;subst h;simp
   | succ i =>
    have:=ih i (by simpa using h);simp only [List.set_cons_succ,List.countP_cons];omega
 exact key l i (by simpa [ahA] using h)
theorem CV{md:Region.Mode}{listed:Array Bool}(h:mi listed=0):Region.ready md ops listed=[]:=by
 rw [List.eq_nil_iff_forall_not_mem];intro i hi;have h1:=(mem_ready.1 hi).1;have:=gK h1;omega
theorem EK{md:Region.Mode}{ops:Array Oper}:∀ (fuel t:Nat) (listed:Array Bool),mi listed<=fuel->tg md ops listed (Region.linearise.go md ops fuel t listed [])
 | 0,t,listed,h=>by
  simp only [Region.linearise.go];exact .nil (CV ae)
 | fuel+1,t,listed,h=>by
  simp only [Region.linearise.go]
  change tg md ops listed (match (Region.ready md ops listed)[t%(Region.ready md ops listed).length]? with
   | some i=>Region.linearise.go md ops fuel (t / (Region.ready md ops listed).length) (listed.setIfInBounds i true) [i]
   | none=>[].reverse)
  cases hi:(Region.ready md ops listed)[t%(Region.ready md ops listed).length]? with
  | none =>
   have xP:Region.ready md ops listed=[]:=by
    cases hr:Region.ready md ops listed with
    | nil=>rfl
    | cons x xs =>
     rw [hr] at hi;have aA:t%(x::xs).length<(x::xs).length:=Nat.mod_lt _ ag;simp at hi;simp at aA;omega
   exact .nil xP
  | some i =>
   simp only [];rw [linearise_go_acc,List.reverse_singleton,List.singleton_append];have hm:=ahH hi;have:=gK (mem_ready.1 hm).1;exact .cons hm (EK fuel _ _ ae)
theorem uF(t:Nat):tg .any ops (Array.replicate ops.size false) (Region.schedule true ops t):=by
 unfold Region.schedule;simp only [Bool.true_or,if_true];refine EK _ _ _ ?_;unfold mi;have:=List.countP_le_length (p:=(·==false)) (l:=(Array.replicate ops.size false).toList);simpa using this
theorem vG{md:Region.Mode}{listed:Array Bool}{j:Nat}{o:Oper}(h:i∈Region.ready md ops listed)(ho:ops[i]?=some o)(hd:(o.after.any fun e=>Region.binds md e&&e.on==j)=true):listed.getD j false=true:=by
 obtain⟨_,o',ho',h2⟩:=mem_ready.1 h;rw [ho] at ho';cases ho';obtain⟨k,hk,he⟩:=Array.any_eq_true.1 hd;simp only [aht,beq_iff_eq] at he;have:=h2 _ (Array.getElem_mem hk) he.1;rw [he.2] at this;exact this
theorem th{md:Region.Mode}{listed:Array Bool}(h:i∈Region.ready md ops listed):listed.getD i true=false:=(mem_ready.1 h).1
theorem JY{md:Region.Mode}{listed:Array Bool}{o:Oper}(ho:ops[i]?=some o)(hu:listed.getD i true=false)(hd:∀ e∈o.after,Region.binds md e=true->listed.getD e.on false=true):i∈Region.ready md ops listed:=mem_ready.2 ⟨hu,o,ho,hd⟩
end CO
