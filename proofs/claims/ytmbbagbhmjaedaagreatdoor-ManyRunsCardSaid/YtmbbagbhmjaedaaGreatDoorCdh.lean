/- Part of the proof. -/
import Derived.Test.YtmbbagbhmjaedaaGreatDoorCdg
import Derived.Conc.CrowdRun
set_option linter.all false
namespace CO
open Go Go.Conc Go.ConcN
open Go.ConcR (KK WgAt stA smA rd wr mk DC0)
section
variable {P:Program} (S:gE P)
structure lu(H:Gh)(j:Nat)(X:Nat->WX P)(left:List Nat)(w:World)(t:Trace):Prop where
 ch:∃ cap s r,w.heap[S.G.Ch]?=some (.chan cap (left.map fun q:Nat=>Value.int .i64 q).toArray true s r false)
 own:H.W.Ok S.G
 ownLt:∀ k b,H.W.own k b->b<w.heap.size
 retOwn:∀ b,H.ret b->∃ k,H.W.own k b
 recs:∀ q v,H.rv q v->Rec S H q v w
 stor:∀ q,H.stored q->∃ v,H.rv q v/\j8 S.G q v w
 jobs:∀ q,q<S.N->q∈left∨(∃ i,i<j/\(X i).held=some q)∨H.stored q
 leftOk:∀ q∈left,q<S.N
 leftNd:left.Nodup
 tkOf:∀ i,i<j->∀ q,(X i).held=some q->H.W.tk (i+1) q
 tkNot:∀ k q,H.W.tk k q->q ∉ left
 storTk:∀ q,H.stored q->∃ k,H.W.tk k q
 heldNot:∀ i,i<j->∀ q,(X i).held=some q->¬ H.stored q
 fresh:∀ q∈left,∀ a,a.block=S.G.O->slot S.G q a.off->∀ i x,touchAt t i=some x->x.loc≠.cell a
structure Com(H:Gh)(j:Nat)(gs:Array Goroutine)(w:World)(t:Trace)(D:Nat->WD)(X:Nat->WX P)(d0:Nat)(left:List Nat):Prop where
 size:gs.size=j+1
 wk:∀ i,i<j->∃ g,gs[i+1]?=some g/\WSit S H (i+1) (D i) (X i) g w
 ct:CT (ShN S.G.Wg) (lY S.G H.W) (yj S.G) t j
 norel:NoRelease (stA S.G.Wg) t
 deaf0:Deaf t 0=d0
 deafW:∀ i,i<j->Deaf t (i+1)=(D i).deaf
 rel:∀ i,i<j->(D i).stage<=6->∃ r,RelBy (stA S.G.Wg) t (i+1) r
 low:oc t w.heap.size
 kn:Kn S w
 book:lu S H j X left w t
 atom:∀ (i:Nat) (op:MemOp) x,t[i]?=some op->op.g≠0->op.act.touch?=some x->x.kind=.atomic->ShN S.G.Wg x.loc
 done:∀ i,i<j->((D i).stage<=6∨X i=.fin)->left=[]
end
section
variable {P:Program} {S:gE P} {H H':Gh} {j q:Nat} {gs:Array Goroutine} {w w':World} {t u:Trace} {D:Nat->WD} {X:Nat->WX P} {d0:Nat} {left left':List Nat}
theorem GA(hG:S.G.Ok){k:Nat}{W:Own}(hW:W.Ok S.G)(ht:∀ q,W.tk k q->q ∉ left)(hf:∀ q∈left,∀ a,a.block=S.G.O->slot S.G q a.off->∀ i x,touchAt t i=some x->x.loc≠.cell a)
  (hu:∀ op∈u,OkW (ShN S.G.Wg) (lY S.G W) (yj S.G) k op):∀ q∈left,∀ a,a.block=S.G.O->slot S.G q a.off->∀ i x,touchAt (t++u) i=some x->x.loc≠.cell a:=by
 intro q hq a ha hs i x hx e;obtain⟨z,hz,VE⟩:=touch_of hx;rcases getElem?_append_cases hz with⟨_,qw⟩|⟨_,ZW⟩
 ·exact hf q hq a ha hs i x (by rw [touchAt_of qw];exact VE) e
 ·rcases(hu z ZW).2 x VE with⟨⟨b,hb,D9⟩,_⟩|ho|⟨⟨b,hb,D9⟩,_⟩
  ·rw [e] at hb;cases hb;exact hG.wo (D9.symm.trans ha)
  ·rw [e] at ho;rcases ho with⟨b,hb,ho⟩|⟨r,hb,_⟩
   ·cases hb;rcases ho with ho|⟨_,q',h1,h2⟩
    ·have:=hW.hi _ _ ho;rw [ha] at this;have:=hG.o;omega
    ·have:=oa hs h2;subst this;exact ht q h1 hq
   ·cases hb
  ·rw [e] at hb;cases hb;exact(hG.sh _ D9).2.2.1 ha
theorem mV(hf:∀ q∈left,∀ a,a.block=S.G.O->slot S.G q a.off->∀ i x,touchAt t i=some x->x.loc≠.cell a)
  (hu:∀ op∈u,∀ x,op.act.touch?=some x->∀ a,a.block=S.G.O->x.loc≠.cell a):∀ q∈left,∀ a,a.block=S.G.O->slot S.G q a.off->∀ i x,touchAt (t++u) i=some x->x.loc≠.cell a:=by
 intro q hq a ha hs i x hx e;obtain⟨z,hz,VE⟩:=touch_of hx;rcases getElem?_append_cases hz with⟨_,qw⟩|⟨_,ZW⟩
 ·exact hf q hq a ha hs i x (by rw [touchAt_of qw];exact VE) e
 ·exact hu z ZW x VE a ha e
theorem ED{b off:Nat}{cs:Array Value}{e:TypeId}{z:Nat×Nat}(h:w.heap[b]?=some (.cells cs e z)):w.cell? ⟨b,off,none⟩=cs[off]?:=by
 unfold World.cell?;simp only [h];simp
theorem Nb{i:Nat}(hi:i<S.G.d):slot S.G q (q*S.G.d+i):=⟨Nat.le_add_right _ _,ae⟩
theorem j8.keep{v:Value}{k:Nat}{J:Option Nat}(h:j8 S.G q v w)(hk:Kn S w)(c:Chg S k J H w H' w')(hJ:J≠some q):j8 S.G q v w':=by
 refine⟨h.1,fun i hi=>?_⟩;rw [<- h.2 i hi];obtain⟨cs,h1,h2⟩:=hk.out;obtain⟨cs',h3,h4,h5⟩:=c.out cs _ _ h1;rw [ED h1,ED h3];refine h5 _ fun q' yd hs=>hJ ?_;rw [yd,oa hs (Nb hi)]
theorem lu.same(hG:S.G.Ok)(h:lu S H j X left w t)(yx:Kn S w){i:Nat}(hi:i<j){x':WX P}(hh:x'.held=(X i).held){J:Option Nat}(c:Chg S (i+1) J H w H' w')(Au:H'.W.Ok S.G)(aA:∀ k b,H'.W.own k b->b<w'.heap.size)
  (vl:w'.heap[S.G.Ch]?=w.heap[S.G.Ch]?) (oF:∀ b,H'.ret b->∃ k,H'.W.own k b) (ZX:∀ q v,H'.rv q v->H.rv q v∨Rec S H' q v w') (cH:H'.stored=H.stored) (oA:∀ k q,H'.W.tk k q->H.W.tk k q)
  (hu:∀ op∈u,OkW (ShN S.G.Wg) (lY S.G H'.W) (yj S.G) (i+1) op):lu S H' j (upd X i x') left w' (t++u):=by
 have held:∀ i',(upd X i x' i').held=(X i').held:=fun i'=>by
  by_cases e:i'=i
  ·subst e;rw [upd_same];exact hh
  ·rw [upd_ne X _ e]
 have tk':∀ k q,H'.W.tk k q->q ∉ left:=fun k q h1=>h.tkNot k q (oA k q h1);refine⟨by rw [vl];exact h.ch,Au,aA,oF,fun q v hv=>?_,fun q hq=>?_,fun q hq=>?_,h.leftOk,h.leftNd,fun i' ez q hq=>c.tk _ _ (h.tkOf i' ez q (by rw [<- held];exact hq)),tk',fun q hq=>by rw [cH] at hq;obtain⟨k,hk⟩:=h.storTk q hq;exact⟨k,c.tk _ _ hk⟩,fun i' ez q hq=>by rw [cH];exact h.heldNot i' ez q (by rw [<- held];exact hq),GA hG Au (tk' _) h.fresh hu⟩
 ·rcases ZX q v hv with hv|hv
  ·exact(h.recs q v hv).ZV c h.own h.ownLt h.retOwn
  ·exact hv
 ·rw [cH] at hq;obtain⟨v,h1,h2⟩:=h.stor q hq;exact⟨v,c.rv _ _ h1,h2.keep yx c fun e=>(c.tkJ q e).2 hq⟩
 ·rw [cH];rcases h.jobs q hq with h1|⟨i',h1,h2⟩|h1
  ·exact .inl h1
  ·exact .inr (.inl ⟨i',h1,by rw [held];exact h2⟩)
  ·exact .inr (.inr h1)
theorem lu.store(h:lu S H j X left w t){i q:Nat}{v:Value}(hi:i<j)(hh:(X i).held=some q)(hv:H.rv q v)(hs:j8 S.G q v w):lu S { H with stored:=fun q'=>H.stored q'∨q'=q } j (upd X i .recv) left w t:=by
 refine⟨h.ch,h.own,h.ownLt,h.retOwn,h.recs,fun q' hq=>?_,fun q' hq=>?_,h.leftOk,h.leftNd,fun i' ez q' hq=>?_,h.tkNot,fun q' hq=>hq.elim (h.storTk q') fun e=>⟨_,e▸h.tkOf i hi q hh⟩,fun i' ez q' hq=>?_,h.fresh⟩
 ·rcases hq with hq|rfl
  ·exact h.stor q' hq
  ·exact⟨v,hv,hs⟩
 ·rcases h.jobs q' hq with h1|⟨i',h1,h2⟩|h1
  ·exact .inl h1
  ·by_cases e:i'=i
   ·subst e;rw [hh] at h2;cases h2;exact .inr (.inr (.inr rfl))
   ·exact .inr (.inl ⟨i',h1,by rw [upd_ne X _ e];exact h2⟩)
  ·exact .inr (.inr (.inl h1))
 ·by_cases e:i'=i
  ·subst e;rw [upd_same] at hq;cases hq
  ·rw [upd_ne X _ e] at hq;exact h.tkOf i' ez q' hq
 ·by_cases e:i'=i
  ·subst e;rw [upd_same] at hq;cases hq
  ·rw [upd_ne X _ e] at hq;rintro(h1|rfl)
   ·exact h.heldNot i' ez q' hq h1
   ·have:=h.own.tk1 _ _ _ (h.tkOf i' ez _ hq) (h.tkOf i hi _ hh);omega
def Gh.take(H:Gh)(k q:Nat):Gh:={ H with W:={ H.W with tk:=fun k' q'=>H.W.tk k' q'∨(k'=k/\q'=q) } }
theorem Nc{k:Nat}(h:lu S H j X (q::left) w t):(H.take k q).W.Ok S.G:=by
 refine⟨h.own.one,fun k1 k2 q' h1 h2=>?_,h.own.hi⟩;rcases h1 with h1|⟨rfl,rfl⟩<;>rcases h2 with h2|⟨rfl,e⟩
 ·exact h.own.tk1 _ _ _ h1 h2
 ·exact absurd (e▸ahU) (h.tkNot _ _ h1)
 ·exact absurd ahU (h.tkNot _ _ h2)
 ·rfl
theorem lu.got(hG:S.G.Ok)(h:lu S H j X (q::left) w t)(yx:Kn S w){i:Nat}(hi:i<j)(hX:(X i).held=none)(c:Chg S (i+1) none H w (H.take (i+1) q) w')(bc:w.heap.size=w'.heap.size)
  (vl:∃ cap s r,w'.heap[S.G.Ch]?=some (.chan cap (left.map fun q:Nat=>Value.int .i64 q).toArray true s r false))
  (hu:∀ op∈u,OkW (ShN S.G.Wg) (lY S.G (H.take (i+1) q).W) (yj S.G) (i+1) op) (KM:∀ op∈u,∀ x,op.act.touch?=some x->∀ a,a.block=S.G.O->x.loc≠.cell a):lu S (H.take (i+1) q) j (upd X i (.pre q)) left w' (t++u):=by
 obtain⟨hn,gP⟩:=List.nodup_cons.1 h.leftNd;refine⟨vl,Nc h,fun k b hb=>bc▸h.ownLt k b hb,h.retOwn,fun q' v hv=>(h.recs q' v hv).ZV c h.own h.ownLt h.retOwn,fun q' hq=>?_,fun q' hq=>?_,fun q' hq=>h.leftOk q' (.tail _ hq),gP,fun i' ez q' hq=>?_,fun k q' hq=>?_,fun q' hq=>(h.storTk q' hq).imp fun _=>.inl,fun i' ez q' hq=>?_,mV (fun q' hq=>h.fresh q' (.tail _ hq)) KM⟩
 ·obtain⟨v,h1,h2⟩:=h.stor q' hq;exact⟨v,h1,h2.keep yx c nofun⟩
 ·rcases h.jobs q' hq with h1|⟨i',h1,h2⟩|h1
  ·cases h1 with
   | head=>exact .inr (.inl ⟨i,hi,by rw [upd_same];rfl⟩)
   | tail _ h1=>exact .inl h1
  ·refine .inr (.inl ⟨i',h1,?_⟩);rw [upd_ne X _ (fun e=>by rw [e,hX] at h2;cases h2)];exact h2
  ·exact .inr (.inr h1)
 ·by_cases e:i'=i
  ·subst e;rw [upd_same] at hq;cases hq;exact .inr ⟨rfl,rfl⟩
  ·rw [upd_ne X _ e] at hq;exact .inl (h.tkOf i' ez q' hq)
 ·rcases hq with hq|⟨_,rfl⟩
  ·exact fun hm=>h.tkNot k q' hq (.tail _ hm)
  ·exact hn
 ·by_cases e:i'=i
  ·subst e;rw [upd_same] at hq;cases hq;exact fun hs=>by obtain⟨k,hk⟩:=h.storTk q hs;exact h.tkNot k q hk ahU
  ·rw [upd_ne X _ e] at hq;exact h.heldNot i' ez q' hq
end
end CO
namespace CO
open Go Go.Conc Go.ConcN
open Go.ConcR (KK WgAt stA smA rd wr mk DC0 g_of_ofEvents)
variable {k:Nat}{J:Option Nat}
section
variable {P:Program} {S:gE P} {H H':Gh} {j q:Nat} {gs gs':Array Goroutine} {w w':World} {t u:Trace} {D:Nat->WD} {X:Nat->WX P} {d0:Nat} {left left':List Nat}
theorem Com.grown(hG:S.G.Ok)(h:Com S H j gs w t D X d0 left){i:Nat}(c:Chg S (i+1) J H w H' w')(oA:∀ k q,H'.W.tk k q->H.W.tk k q∨(k=i+1/\q∈left)):CT (ShN S.G.Wg) (lY S.G H'.W) (yj S.G) t j:=by
 refine M8 h.ct (fun k l hl=>?_) fun k l hl=>?_
 ·rcases hl with⟨a,rfl,ho|⟨ho,q,h1,h2⟩⟩|⟨r,rfl,ho⟩
  ·exact .inl ⟨a,rfl,.inl (c.own _ _ ho)⟩
  ·exact .inl ⟨a,rfl,.inr ⟨ho,q,c.tk _ _ h1,h2⟩⟩
  ·exact .inr ⟨r,rfl,c.own _ _ ho⟩
 ·rcases hl with⟨a,rfl,ho|⟨ho,q,h1,h2⟩⟩|⟨r,rfl,ho⟩
  ·rcases c.own' _ _ ho with ho|⟨_,hb,_⟩
   ·exact .inl (.inl ⟨a,rfl,.inl ho⟩)
   ·refine .inr fun i x hx e=>?_;have:x.loc.low w.heap.size:=pY h.low hx;rw [e] at this;have:a.block<w.heap.size:=this;omega
  ·rcases oA _ _ h1 with h1|⟨_,hq⟩
   ·exact .inl (.inl ⟨a,rfl,.inr ⟨ho,q,h1,h2⟩⟩)
   ·exact .inr fun i x hx=>h.book.fresh q hq a ho h2 i x hx
  ·rcases c.own' _ _ ho with ho|⟨_,hb,_⟩
   ·exact .inl (.inr ⟨r,rfl,ho⟩)
   ·refine .inr fun i x hx e=>?_;have:x.loc.low w.heap.size:=pY h.low hx;rw [e] at this;have:r<w.heap.size:=this;omega
theorem Com.stepW(hG:S.G.Ok)(h:Com S H j gs w t D X d0 left){i:Nat}(hi:i<j){J:Option Nat}{x':WD}{y':WX P}{g':Goroutine}
  (bc:gs'.size=gs.size) (Ih:gs'[i+1]?=some g') (mX:∀ a,a<j->a≠i->∀ g,gs[a+1]?=some g->gs'[a+1]?=some g)
  (c:Chg S (i+1) J H w H' w') (dz:WSit S H' (i+1) x' y' g' w') (hu:∀ op∈u,OkW (ShN S.G.Wg) (lY S.G H'.W) (yj S.G) (i+1) op) (LW:∀ op∈u,op.act≠.mark (.release (stA S.G.Wg)))
  (sU:Deaf (t++u) (i+1)=x'.deaf) (Av:x'.stage<=6->∃ r,RelBy (stA S.G.Wg) (t++u) (i+1) r) (um:oc u w'.heap.size) (rN:∀ op∈u,∀ x,op.act.touch?=some x->x.kind=.atomic->ShN S.G.Wg x.loc)
  (pc:lu S H' j (upd X i y') left' w' (t++u)) (oA:∀ k q,H'.W.tk k q->H.W.tk k q∨(k=i+1/\q∈left)) (nv:(x'.stage<=6∨y'=.fin)->left'=[]) (hl:left=[]->left'=[]) :
  Com S H' j gs' w' (t++u) (upd D i x') (upd X i y') d0 left':=by
 have Au:H'.W.Ok S.G:=pc.own;have A:=apart hG Au;have hg:∀ op∈u,op.g=i+1:=fun op bU=>(hu op bU).1;refine⟨by rw [bc,h.size],fun a ha=>?_,(h.grown hG c oA).appW A ae ae hu,h.norel.app LW,by rw [Deaf_other t ae _ hg,h.deaf0],fun a ha=>?_,fun a ha cH=>?_,(h.low.mono c.size).app um,h.kn.rb c.rb,pc,fun i op x hi hg hx hk=>(getElem?_append_cases hi).elim (fun h1=>h.atom i op x h1.2 hg hx hk) fun h1=>rN op h1.2 x hx hk,fun a ha hd=>?_⟩
 ·by_cases e:a=i
  ·subst e;exact⟨g',Ih,by rw [upd_same,upd_same];exact dz⟩
  ·obtain⟨g,hg,hs⟩:=h.wk a ha;refine⟨g,mX a ha e g hg,?_⟩;rw [upd_ne D _ e,upd_ne X _ e];exact hs.other c ae h.book.own Au h.book.ownLt fun q hq=>h.book.tkOf a ha q hq
 ·by_cases e:a=i
  ·subst e;rw [upd_same];exact sU
  ·rw [Deaf_other t ae _ hg,h.deafW a ha,upd_ne D _ e]
 ·by_cases e:a=i
  ·subst e;rw [upd_same] at cH;exact Av cH
  ·rw [upd_ne D _ e] at cH;obtain⟨r,hr⟩:=h.rel a ha cH;exact⟨r,hr.appOther hg ae⟩
 ·by_cases e:a=i
  ·subst e;rw [upd_same,upd_same] at hd;exact nv hd
  ·rw [upd_ne D _ e,upd_ne X _ e] at hd;exact hl (h.done a ha hd)
theorem Chg.idle{k:Nat}{J:Option Nat}(hl:j6 S.G w w')(hs:w.heap.size=w'.heap.size)(hb:∀ b,S.G.Lo<=b->w'.heap[b]?=w.heap[b]?)
  (ho:∀ cs e z,w.heap[S.G.O]?=some (.cells cs e z)->∃ cs',w'.heap[S.G.O]?=some (.cells cs' e z)/\cs'.size=cs.size/\∀ off,(∀ q,J=some q->¬ slot S.G q off)->cs'[off]?=cs[off]?) (hw:WgLive S.ty S.G.Wg w->WgLive S.ty S.G.Wg w')
  (hJ:∀ q,J=some q->H.W.tk k q/\¬ H.stored q) (h2:k≠0->fF w w'):Chg S k J H w H w' :=
 ⟨hl,Nat.le_of_eq hs,fun b Xg _ _=>hb b Xg,ho,hw,fun _ _ h=>h,fun _ _ h=>.inl h,fun _ h=>h,fun _ h=>.inl h,fun _ _ h=>h,fun _ _ h=>h,hJ,h2⟩
theorem Chg.refl{k:Nat}:Chg S k none H w H w:=.idle (.refl w) rfl (fun _ _=>rfl) (fun cs e z h=>⟨cs,h,rfl,fun _ _=>rfl⟩) id nofun fun _=>.refl w
theorem Chg.group(hG:S.G.Ok)(h:Aside S.G.Wg w w')(hw:WgLive S.ty S.G.Wg w'):Chg S k none H w H w':=by
 have hb:∀ b,b≠S.G.Wg->w'.heap[b]?=w.heap[b]?:=fun b hb=>h.block b hb;refine .idle ⟨fun b _ h1 _ _=>hb b h1⟩ h.size.symm (fun b h1=>hb b (by have:=hG.wg;omega)) (fun cs e z h1=>⟨cs,by rw [hb _ (Ne.symm hG.wo)];exact h1,rfl,fun _ _=>rfl⟩) (fun _=>hw) nofun fun _=>⟨h.os,h.output⟩
theorem lu.step0(hG:S.G.Ok)(h:lu S H j X left w t)(yx:Kn S w)(c:Chg S k none H w H w')(vl:w'.heap[S.G.Ch]?=w.heap[S.G.Ch]?)
  (hu:∀ op∈u,∀ x,op.act.touch?=some x->∀ a,a.block=S.G.O->x.loc≠.cell a):lu S H j X left w' (t++u) :=
 ⟨by rw [vl];exact h.ch,h.own,fun k b hb=>ahv (h.ownLt k b hb) c.size,h.retOwn,fun q v hv=>(h.recs q v hv).ZV c h.own h.ownLt h.retOwn,
  fun q hq=>by obtain⟨v,h1,h2⟩:=h.stor q hq;exact⟨v,h1,h2.keep yx c nofun⟩,h.jobs,h.leftOk,h.leftNd,h.tkOf,h.tkNot,h.storTk,h.heldNot,mV h.fresh hu⟩
theorem Com.step0(hG:S.G.Ok)(h:Com S H j gs w t D X d0 left){d0':Nat}(bc:gs'.size=gs.size)(mX:∀ a,a<j->∀ g,gs[a+1]?=some g->gs'[a+1]?=some g)
  (c:Chg S 0 none H w H w') (vl:w'.heap[S.G.Ch]?=w.heap[S.G.Ch]?) (hu:∀ op∈u,Ok0 (ShN S.G.Wg) (lY S.G H.W) (yj S.G) j op) (LW:∀ op∈u,op.act≠.mark (.release (stA S.G.Wg)))
  (KM:∀ op∈u,∀ x,op.act.touch?=some x->∀ a,a.block=S.G.O->x.loc≠.cell a) (sU:Deaf (t++u) 0=d0') (um:oc u w'.heap.size):Com S H j gs' w' (t++u) D X d0' left:=by
 have A:=apart hG h.book.own;have hg:∀ op∈u,op.g=0:=fun op bU=>(hu op bU).1;refine⟨by rw [bc,h.size],fun a ha=>?_,h.ct.app0 A hu,h.norel.app LW,sU,fun a ha=>by rw [Deaf_other t ae _ hg,h.deafW a ha],fun a ha cH=>?_,(h.low.mono c.size).app um,h.kn.rb c.rb,h.book.step0 hG h.kn c vl KM,fun i op x hi dm hx hk=>(getElem?_append_cases hi).elim (fun h1=>h.atom i op x h1.2 dm hx hk) fun h1=>absurd (hg op h1.2) dm,h.done⟩
 ·obtain⟨g,hg,hs⟩:=h.wk a ha;exact⟨g,mX a ha g hg,hs.other c ae h.book.own h.book.own h.book.ownLt fun q hq=>h.book.tkOf a ha q hq⟩
 ·obtain⟨r,hr⟩:=h.rel a ha cH;exact⟨r,hr.appOther hg ae⟩
theorem Chg.heap{k:Nat}(h:w'.heap=w.heap)(h2:k≠0->fF w w'):Chg S k none H w H w' :=
 .idle ⟨fun _ _ _ _ _=>by rw [h]⟩ (by rw [h]) (fun _ _=>by rw [h]) (fun cs e z h1=>⟨cs,by rw [h];exact h1,rfl,fun _ _=>rfl⟩) (fun⟨st,sm,h1⟩=>⟨st,sm,by unfold Go.ConcR.WgAt;rw [h];exact h1⟩) nofun h2
theorem Chg.more(hG:S.G.Ok)(hk:Kn S w)(h:∀ b,b<w.heap.size->w'.heap[b]?=w.heap[b]?)(h2:k≠0->fF w w'):Chg S k none H w H w':=by
 have lo:∀ b,b<S.G.Lo->w'.heap[b]?=w.heap[b]?:=fun b hb=>h b (ahv hb hk.lo);have bc:w.heap.size<=w'.heap.size:=by
  rcases aiD w.heap.size with e|e
  ·omega
  ·have:=h (w.heap.size-1) ae;have hx:w.heap[w.heap.size-1]?=some w.heap[w.heap.size-1]:=ahO ae;rw [hx] at this;have:=bW this;omega
 exact⟨⟨fun b hb _ _ _=>lo b hb⟩,bc,fun b _ hb _=>h b hb,fun cs e z h1=>⟨cs,by rw [lo _ hG.o];exact h1,rfl,fun _ _=>rfl⟩,fun⟨st,sm,h1⟩=>⟨st,sm,(lo _ hG.wg).trans h1⟩,
  fun _ _ h=>h,fun _ _ h=>.inl h,fun _ h=>h,fun _ h=>.inl h,fun _ _ h=>h,fun _ _ h=>h,nofun,h2⟩
theorem Chg.at {k:Nat} (d:Nat):Chg S k none H w H (w.at d) :=
 .idle ⟨fun _ _ _ _ _=>rfl⟩ rfl (fun _ _=>rfl) (fun cs e z h=>⟨cs,h,rfl,fun _ _=>rfl⟩) (fun⟨st,sm,h⟩=>⟨st,sm,h⟩) nofun fun _=>⟨rfl,rfl⟩
theorem Com.at (hG:S.G.Ok) (h:Com S H j gs w t D X d0 left) (d:Nat):Com S H j gs (w.at d) t D X d0 left:=by
 have:=h.step0 hG (d0':=d0) (u:=#[]) (gs':=gs) (w':=w.at d) rfl (fun _ _ _ h=>h) (.at d) rfl ag ag ag (by simp [h.deaf0]) (fun op bU=>by simp at bU);simpa using this
theorem Com.spawn(hG:S.G.Ok)(h:Com S H j gs w t D X 0 left){a' child:Goroutine}{x y:MemOp}{m:Nat}(hx:x.g=0/\x.act=.go (j+1))(hy:y.g=j+1/\y.act=.start)
  (hc:Goes P false (RB S.G S.ty none) (DR S.G) (fun g _=>S.Recv (j+1) g) m child w):Com S H (j+1) ((gs.setIfInBounds 0 a').push child) w (t++#[x,y]) (upd D j ⟨7,m,0⟩) (upd X j .recv) 0 left:=by
 have hm:∀ op∈#[x,y],op=x∨op=y:=by intro op bU;simpa using bU
 have cH:∀ op∈#[x,y],op.act≠.mark .disable/\op.act≠.mark .enable:=by
  intro op bU;rcases hm op bU with rfl|rfl
  ·rw [hx.2];exact⟨ag,ag⟩
  ·rw [hy.2];exact⟨ag,ag⟩
 have ZY:∀ op∈#[x,y],∀ b,op.act.touch?=some b->False:=by
  intro op bU b hb;rcases hm op bU with rfl|rfl
  ·rw [hx.2] at hb;cases hb
  ·rw [hy.2] at hb;cases hb
 have B:=h.book;have held:∀ i,i<j+1->∀ q,(upd X j .recv i).held=some q->i<j/\(X i).held=some q:=fun i hi q hq=>by
  by_cases e:i=j
  ·subst e;rw [upd_same] at hq;cases hq
  ·rw [upd_ne X _ e] at hq;exact⟨ae,hq⟩
 refine⟨by simp [h.size],fun i hi=>?_,h.ct.fork (apart hG B.own) hx hy h.deaf0,h.norel.app fun op bU=>?_,by rw [Deaf_still t 0 _ cH,h.deaf0],fun i hi=>?_,fun i hi hs=>?_,h.low.app fun op bU=>?_,h.kn,
  ⟨B.ch,B.own,B.ownLt,B.retOwn,B.recs,B.stor,fun q hq=>?_,B.leftOk,B.leftNd,fun i hi q hq=>B.tkOf i (held i hi q hq).1 q (held i hi q hq).2,B.tkNot,B.storTk,fun i hi q hq=>B.heldNot i (held i hi q hq).1 q (held i hi q hq).2,mV B.fresh fun op bU x hx=>(ZY op bU x hx).elim⟩,fun i op x hi dm hx hk=>(getElem?_append_cases hi).elim (fun h1=>h.atom i op x h1.2 dm hx hk) fun h1=>(ZY op h1.2 x hx).elim,fun i hi hd=>?_⟩
 ·rcases aia i j with aA|hge
  ·obtain⟨g,hg,hsg⟩:=h.wk i aA;refine⟨g,?_,by rw [upd_ne D _ ae,upd_ne X _ ae];exact hsg⟩;rw [Array.getElem?_push_lt (by simp [h.size];omega),<-ahO,ahw ae];exact hg
  ·obtain rfl:i=j:=ae;refine⟨child,?_,by rw [upd_same,upd_same];exact .recv hc⟩;rw [show i+1=(gs.setIfInBounds 0 a').size by simp [h.size],Array.getElem?_push_size]
 ·rcases hm op bU with rfl|rfl
  ·rw [hx.2];simp
  ·rw [hy.2];simp
 ·rw [Deaf_still t _ _ cH];rcases aia i j with aA|hge
  ·rw [h.deafW i aA,upd_ne D _ ae]
  ·obtain rfl:i=j:=ae;rw [upd_same];exact Deaf_absent fun a op ha e=>by have:=h.ct.gs a op ha;omega
 ·rcases aia i j with aA|hge
  ·rw [upd_ne D _ ae] at hs;obtain⟨r,hr⟩:=h.rel i aA hs;refine⟨r,hr.appNot fun op bU=>?_⟩;rcases hm op bU with rfl|rfl
   ·rw [hx.1];omega
   ·rw [hy.1];omega
  ·obtain rfl:i=j:=ae;rw [upd_same] at hs;simp at hs
 ·exact fun b hb=>(ZY op bU b hb).elim
 ·rcases B.jobs q hq with h1|⟨i,h1,h2⟩|h1
  ·exact .inl h1
  ·exact .inr (.inl ⟨i,ae,by rw [upd_ne X _ ae];exact h2⟩)
  ·exact .inr (.inr h1)
 ·rcases aia i j with aA|hge
  ·rw [upd_ne D _ ae,upd_ne X _ ae] at hd;exact h.done i aA hd
  ·obtain rfl:i=j:=ae;rw [upd_same,upd_same] at hd;rcases hd with hd|hd
   ·simp at hd
   ·cases hd
end
end CO
namespace CO
open Go Go.Conc Go.ConcN
open Go.ConcR (KK WgAt stA smA rd wr mk DC0 g_of_ofEvents again_blocked)
section
variable {P:Program} {S:gE P}
theorem CSit.rely{tag:CTag}{j f d:Nat}{a:Goroutine}{w w':World}(h:CSit S tag j f d a w)(hr:dZ S.G S.ty w w'):CSit S tag j f d a w':=by
 have tr:∀ x y z,dZ S.G S.ty x y->dZ S.G S.ty y z->dZ S.G S.ty x z:=dZ.trans
 cases h with
 | skd hn h=>exact .skd hn (Goes.rely tr h hr)
 | sa1 hn h=>exact .sa1 hn (Goes.rely tr h hr)
 | ske hn h=>exact .ske hn (Goes.rely tr h hr)
 | sgo hn h=>exact .sgo hn (Goes.rely tr h hr)
 | kd h=>exact .kd (Goes.rely tr h hr)
 | anch h=>exact .anch (Goes.rely tr h hr)
 | w1 h=>exact .w1 (Goes.rely tr h hr)
 | w2 h=>exact .w2 (Goes.rely tr h hr)
 | w3 h=>exact .w3 (Goes.rely tr h hr)
 | blk h=>exact .blk (fun fQ xL=>h fQ (tr _ _ _ hr xL))
 | w4 h=>exact .w4 (Goes.rely tr h hr)
 | ke h=>exact .ke (Goes.rely tr h hr)
 | acq h=>exact .acq (Goes.rely tr h hr)
 | ret h=>exact .ret (Goes.rely tr h hr)
theorem CSit.status(hS:S.Ok){tag:CTag}{j f d:Nat}{a:Goroutine}{w:World}(h:CSit S tag j f d a w):(a.status=.running/\tag≠.blk)∨(a.status=.blocked/\tag=.blk):=by
 have rf:=dZ.refl (G:=S.G) (ty:=S.ty) w
 cases h with
 | skd _ h=>exact .inl ⟨Goes.running (fun _ _ x=>x.1) w rf h,ag⟩
 | sa1 _ h=>exact .inl ⟨Goes.running (fun _ _ x=>x.1) w rf h,ag⟩
 | ske _ h=>exact .inl ⟨Goes.running (fun _ _ x=>x.1) w rf h,ag⟩
 | sgo _ h=>exact .inl ⟨Goes.running (fun _ _ x=>x.1) w rf h,ag⟩
 | kd h=>exact .inl ⟨Goes.running (fun _ _ x=>x.1) w rf h,ag⟩
 | anch h=>exact .inl ⟨Goes.running hS.anch w rf h,ag⟩
 | w1 h=>exact .inl ⟨Goes.running (fun _ _ x=>x.1) w rf h,ag⟩
 | w2 h=>exact .inl ⟨Goes.running (fun _ _ x=>x.1) w rf h,ag⟩
 | w3 h=>exact .inl ⟨Goes.running (fun _ _ x=>x.1) w rf h,ag⟩
 | blk h=>exact .inr ⟨rfl,rfl⟩
 | w4 h=>exact .inl ⟨Goes.running (fun _ _ x=>x.1) w rf h,ag⟩
 | ke h=>exact .inl ⟨Goes.running (fun _ _ x=>x.1) w rf h,ag⟩
 | acq h=>exact .inl ⟨Goes.running (fun _ _ x=>x.1) w rf h,ag⟩
 | ret h=>exact .inl ⟨Goes.running hS.endRun w rf h,ag⟩
theorem CSit.wokenBy(hS:S.Ok){tag:CTag}{j f d:Nat}{a:Goroutine}{w w':World}(h:CSit S tag j f d a w)(hr:dZ S.G S.ty w w')(g g':Goroutine):
  ∃ tag' f',CSit S tag' j f' d (woken P g g' w' a) w'/\(tag'=tag∨(tag=.blk/\tag'=.w3))/\(mayWake P g=true->g'.status=.running->tag'≠.blk):=by
 have h':=h.rely hr;unfold Go.Conc.woken;split
 ·rcases h'.status hS with⟨hs,cr⟩|⟨_,rfl⟩
  ·exact⟨tag,f,by rw [again_running _ (.inl hs)];exact h',.inl rfl,fun _ _=>cr⟩
  ·cases h' with
   | blk hb =>
    rename_i g0;have h3:=hb w' (dZ.refl w');exact⟨.w3,0+1,by rw [again_blocked h3.1 h3.2.1];exact .w3 (Goes.stop hb),.inr ⟨rfl,rfl⟩,fun _ _=>ag⟩
 ·rename_i hc;exact⟨tag,f,h',.inl rfl,fun h1 h2=>absurd (by simp [h1,h2]) hc⟩
def lx(v:Nat):CTag->Nat
 | .sp _ s=>20+s
 | .kd=>11
 | .w2 vs=>if vs=v then 7 else 10
 | .anch=>9
 | .w1=>8
 | .w3=>6
 | .blk=>5
 | .w4=>4
 | .ke=>3
 | .acq=>2
 | .ret=>1
def mu(S:gE P)(j:Nat)(D:Nat->WD)(X:Nat->WX P)(left:List Nat)(tag:CTag)(f0:Nat):MM P :=
 ((S.n-j)+left.length,(List.range j).map (fun i=>ik (D i) (X i)),(lx (Vc j D) tag,none,f0))
structure Inv(S:gE P)(μ:MM P)(m:Machine)(t:Trace):Prop where
 ex:∃ (gs:Array Goroutine) (w:World) (sl:Option (Nat×Nat)) (H:Gh) (j:Nat) (D:Nat->WD) (X:Nat->WX P) (left:List Nat) (tag:CTag) (f0 d0:Nat) (a:Goroutine) (st sm:Int),
  m=crowd gs w sl/\gs[0]?=some a/\CSit S tag j f0 d0 a w/\Com S H j gs w t D X d0 left/\WgAt S.ty S.G.Wg w st sm/\Mode j D tag st sm/\(tag=.ret->AcqAll S.G.Wg j t)/\μ=mu S j D X left tag f0
theorem CSit.bound{tag:CTag}{j f d:Nat}{a:Goroutine}{w:World}(h:CSit S tag j f d a w):j+pend tag<=S.n:=by
 cases h<;>simp only [pend]<;>(try simp)<;>omega
section
variable {H:Gh} {gs:Array Goroutine} {w:World} {j:Nat} {D:Nat->WD} {X:Nat->WX P} {tag:CTag} {f0 d0:Nat} {a:Goroutine} {t:Trace} {st sm:Int} {left:List Nat}
theorem WSit.running_of(hS:S.Ok){k:Nat}{D:WD}{X:WX P}{g:Goroutine}(h:WSit S H k D X g w)(hs:D.stage≠1):g.status=.running:=by
 have rf:=RB.refl (G:=S.G) (ty:=S.ty) (q:=none) w
 cases h with
 | recv h=>exact Goes.running (fun _ _ x=>hS.recvRun _ _ x) w rf h
 | pre hq h=>exact Goes.running (fun g w x=>by obtain⟨c,cs,_,rfl⟩:=x;rfl) w rf h
 | job ha hq h=>obtain⟨ρ,fr,cs,c,cs',rfl,_⟩:=h.at_;rfl
 | post hq hv h=>exact Goes.running (fun _ _ x=>hS.recvRun _ _ x.1) w (RB.refl w) h
 | fin h=>exact Goes.running (fun _ _ x=>x.1) w rf h
 | k1 h=>exact Goes.running (fun _ _ x=>x.1) w rf h
 | d1 h=>exact Goes.running (fun _ _ x=>x.1) w rf h
 | d2 h=>exact Goes.running (fun _ _ x=>x.1) w rf h
 | d3 h=>exact Goes.running (fun _ _ x=>x.1) w rf h
 | d4 h=>exact Goes.running (fun _ _ x=>x.1) w rf h
 | quit h=>exact absurd rfl hs
theorem someone_runs(hS:S.Ok)(ha:gs[0]?=some a)(bt:CSit S tag j f0 d0 a w)(aB:Com S H j gs w t D X d0 left)(aL:Mode j D tag st sm):∃ (i:Nat) (g:Goroutine),gs[i]?=some g/\g.status=.running:=by
 rcases bt.status hS with⟨hs,_⟩|⟨_,rfl⟩
 ·exact⟨0,a,ha,hs⟩
 ·cases aL with
  | opn h1 _ _=>exact h1.elim
  | reg _ _ h3 =>
   obtain⟨i,hi,h5⟩:=exists_counted h3;obtain⟨g,hg,hs⟩:=aB.wk i hi;exact⟨i+1,g,hg,hs.running_of hS ae⟩
  | last L _ h2 h3 _ =>
   obtain⟨g,hg,hs⟩:=aB.wk L h2;exact⟨L+1,g,hg,hs.running_of hS ae⟩
  | fin h1 _=>exact h1.elim
theorem all_awake(hS:S.Ok)(ha:gs[0]?=some a)(bt:CSit S tag j f0 d0 a w)(aB:Com S H j gs w t D X d0 left):∀ g∈gs,awake g:=by
 intro g hg tm;obtain⟨i,hi⟩:=Array.mem_iff_getElem?.1 hg
 cases i with
 | zero =>
  rw [ha] at hi;cases hi;rcases bt.status hS with⟨hs,_⟩|⟨hs,_⟩<;>rw [hs]<;>simp
 | succ i =>
  have aA:i<j:=by have:=(ahx.1 hi).1;rw [aB.size] at this;omega
  obtain⟨g',dm,hs⟩:=aB.wk i aA;rw [hi] at dm;cases dm;rcases hs.status hS with h|h<;>rw [h]<;>simp
end
section
variable {H H':Gh} {gs gs':Array Goroutine} {w w':World} {sl:Option (Nat×Nat)} {j:Nat} {D:Nat->WD} {X:Nat->WX P} {tag:CTag} {f0 d0:Nat} {a:Goroutine} {t u:Trace} {st sm:Int} {left left':List Nat}
def Done(S:gE P)(μ:MM P)(m:Machine)(i:Nat)(t:Trace):Prop:=∃ m₁ ops Aq,runT P m i=(.next m₁,ops)/\Relation.TransGen (CN P) Aq μ/\Inv S Aq m₁ (t++ops)
theorem pd{i:Nat}(hi:i<j){x':WD}{y':WX P}{tag':CTag}{f':Nat}(hl:left'.length<=left.length)(h:nY P (ik x' y') (ik (D i) (X i))∨left'.length<left.length):CN P (mu S j (upd D i x') (upd X i y') left' tag' f') (mu S j D X left tag f0):=by
 unfold mu CN;rcases Nat.lt_or_eq_of_le hl with aA|he
 ·exact Prod.Lex.left _ _ ae
 ·rw [he];refine Prod.Lex.right _ (Prod.Lex.left _ _ (M7 _ _ hi (by rw [upd_same,upd_same];exact h.resolve_right ae) fun a ha=>?_));rw [upd_ne D _ ha,upd_ne X _ ha]
theorem sV{tag':CTag}{f':Nat}(h:lx (Vc j D) tag'<lx (Vc j D) tag∨(lx (Vc j D) tag'=lx (Vc j D) tag/\f'<f0)):CN P (mu S j D X left tag' f') (mu S j D X left tag f0):=by
 unfold mu CN;refine Prod.Lex.right _ (Prod.Lex.right _ ?_);rcases h with h|⟨h,h2⟩
 ·exact Prod.Lex.left _ _ h
 ·rw [h];exact Prod.Lex.right _ (Prod.Lex.right _ h2)
theorem sW(hS:S.Ok)(ha:gs[0]?=some a)(bt:CSit S tag j f0 d0 a w)(aB:Com S H j gs w t D X d0 left)
  {i:Nat} (hi:i<j) {g g':Goroutine} {es:Array Event} {J:Option Nat} {x':WD} {y':WX P} {vA vB:Int} (hg:gs[i+1]?=some g) (hgo:stepG P false g w=.go g' w' es)
  (c:Chg S (i+1) J H w H' w') (dz:WSit S H' (i+1) x' y' g' w')
  (hok:∀ op∈MemOp.ofEvents (i+1) g.frame.fn g.frame.place es,OkW (ShN S.G.Wg) (lY S.G H'.W) (yj S.G) (i+1) op) (LW:∀ e∈es,e.loc≠.mark (.release (stA S.G.Wg)))
  (sU:deafBehind (D i).deaf es=x'.deaf) (Av:x'.stage<=6->∃ r,RelBy (stA S.G.Wg) (t++MemOp.ofEvents (i+1) g.frame.fn g.frame.place es) (i+1) r) (um:oc (MemOp.ofEvents (i+1) g.frame.fn g.frame.place es) w'.heap.size) (rN:∀ op∈MemOp.ofEvents (i+1) g.frame.fn g.frame.place es,∀ x,op.act.touch?=some x->x.kind=.atomic->ShN S.G.Wg x.loc)
  (pc:lu S H' j (upd X i y') left w' (t++MemOp.ofEvents (i+1) g.frame.fn g.frame.place es)) (oA:∀ k q,H'.W.tk k q->H.W.tk k q) (nv:(x'.stage<=6∨y'=.fin)->left=[])
  (cq:WgAt S.ty S.G.Wg w' vA vB) (aL:∀ tag',(tag'=tag∨(tag=.blk/\tag'=.w3))->(mayWake P g=true->g'.status=.running->tag'≠.blk)->Mode j (upd D i x') tag' vA vB)
  (fR:tag=.ret->AcqAll S.G.Wg j (t++MemOp.ofEvents (i+1) g.frame.fn g.frame.place es)) (aA:nY P (ik x' y') (ik (D i) (X i))):Done S (mu S j D X left tag f0) (crowd gs w sl) (i+1) t:=by
 obtain⟨tag',f',mY,VF,QJ⟩:=bt.wokenBy hS (c.rbs ae) g g';have aD:=runT_crowd_go (P:=P) (sl:=sl) (i:=i+1) hg (by simpa using hgo);refine⟨_,_,mu S j (upd D i x') (upd X i y') left tag' f',aD,.single (pd hi (ahr _) (.inl aA)),⟨_,w',sl,H',j,upd D i x',upd X i y',left,tag',f',d0,woken P g g' w' a,vA,vB,rfl,by rw [get_map_set _ _ _ _ ae,ha];rfl,mY,?_,cq,aL tag' VF QJ,?_,rfl⟩⟩
 ·refine aB.stepW S.hG hi ag (get_map_set_same _ _ _ (by rw [aB.size];omega)) (fun b hb cr x hx=>?_) c dz hok (norel_of LW) (by rw [Deaf_own,aB.deafW i hi];exact sU) Av um rN pc (fun k q h=>.inl (oA k q h)) nv id;obtain⟨x1,EC,ZZ⟩:=aB.wk b hb;rw [hx] at EC;cases EC;rw [get_map_set _ _ _ _ ae,hx,ah2,ZZ.woken hS]
 ·intro e;rcases VF with rfl|⟨_,rfl⟩
  ·exact fR e
  ·cases e
theorem pe(hS:S.Ok)(ha:gs[0]?=some a)(aB:Com S H j gs w t D X d0 left){a':Goroutine}{es:Array Event}{tag':CTag}{f':Nat}{vA vB:Int}(hgo:stepG P true a w=.go a' w' es)
  (c:Chg S 0 none H w H w') (vl:w'.heap[S.G.Ch]?=w.heap[S.G.Ch]?) (hok:∀ op∈MemOp.ofEvents 0 a.frame.fn a.frame.place es,Ok0 (ShN S.G.Wg) (lY S.G H.W) (yj S.G) j op) (LW:∀ e∈es,e.loc≠.mark (.release (stA S.G.Wg)))
  (KM:∀ op∈MemOp.ofEvents 0 a.frame.fn a.frame.place es,∀ x,op.act.touch?=some x->∀ b,b.block=S.G.O->x.loc≠.cell b) (um:oc (MemOp.ofEvents 0 a.frame.fn a.frame.place es) w'.heap.size)
  (mY:CSit S tag' j f' (deafBehind d0 es) a' w') (cq:WgAt S.ty S.G.Wg w' vA vB) (aL:Mode j D tag' vA vB) (fR:tag'=.ret->AcqAll S.G.Wg j (t++MemOp.ofEvents 0 a.frame.fn a.frame.place es))
  (aA:lx (Vc j D) tag'<lx (Vc j D) tag∨(lx (Vc j D) tag'=lx (Vc j D) tag/\f'<f0)):Done S (mu S j D X left tag f0) (crowd gs w sl) 0 t:=by
 have aD:=runT_crowd_go (P:=P) (sl:=sl) (i:=0) ha (by simpa using hgo);refine⟨_,_,mu S j D X left tag' f',aD,.single (sV aA),⟨_,w',sl,H,j,D,X,left,tag',f',deafBehind d0 es,a',vA,vB,rfl,get_map_set_same _ _ _ (by rw [aB.size];omega),mY,?_,cq,aL,fR,rfl⟩⟩;refine aB.step0 S.hG ag (fun b hb x hx=>?_) c vl hok (norel_of LW) KM (by rw [Deaf_own,aB.deaf0]) um;obtain⟨x1,EC,ZZ⟩:=aB.wk b hb;rw [hx] at EC;cases EC;rw [get_map_set _ _ _ _ ae,hx,ah2,ZZ.woken hS]
end
end
end CO
namespace CO
open Go Go.Conc Go.ConcN
open Go.ConcR (KK WgAt stA smA rd wr mk DC0 g_of_ofEvents Bk bk_of_mute ofEvent_loc_mark deafBehind_cons deafBehind_one)
theorem xM{k:Nat}{fn:FuncId}{pos:String}{es:Array Event}{B:Nat}(h:∀ e∈es,(MemAct.ofEvent e).low B):∀ op∈MemOp.ofEvents k fn pos es,op.act.low B:=by
 intro op bU;rw [ofEvents_eq] at bU;obtain⟨e,he,rfl⟩:=Array.mem_map.1 bU;exact h e he
theorem JD{Wg:Nat}{e:Event}(h:Bk Wg e){B:Nat}(hB:Wg<B):(MemAct.ofEvent e).low B:=by
 obtain⟨l,wr,sy⟩:=e;rcases h with h|h|⟨a,wr,h,ha⟩
 ·dsimp only at h;subst h;trivial
 ·dsimp only at h;subst h;trivial
 ·cases h;show a.block<B;omega
theorem EE{Wg k:Nat}{fn:FuncId}{pos:String}{es:Array Event}(pc:∀ e∈es,Bk Wg e){op:MemOp}(ho:op∈MemOp.ofEvents k fn pos es){x:Touch}(hx:op.act.touch?=some x):ShN Wg x.loc:=by
 rw [ofEvents_eq] at ho;obtain⟨ev,he,rfl⟩:=Array.mem_map.1 ho;rcases pc ev he with h|h|⟨c,wr,rfl,hc⟩
 ·rw [ofEvent_loc_mark h] at hx;cases hx
 ·rw [ofEvent_loc_mark h] at hx;cases hx
 ·have:some (⟨.cell c,wr,.atomic⟩:Touch)=some x:=by cases wr<;>exact hx
  cases this;exact⟨c,rfl,hc⟩
section
variable {P:Program} {S:gE P} {H H':Gh} {gs:Array Goroutine} {w w':World} {sl:Option (Nat×Nat)} {j:Nat} {D:Nat->WD} {X:Nat->WX P} {tag:CTag} {f0 d0:Nat} {a:Goroutine} {t u:Trace} {st sm:Int} {left:List Nat}
theorem Com.JE(hS:S.Ok)(h:Com S H j gs w t D X d0 left):S.G.Wg<w.heap.size:=by
 obtain⟨st,sm,hw⟩:=h.kn.live;exact bW hw
theorem VG(hS:S.Ok)(ha:gs[0]?=some a)(bt:CSit S tag j f0 d0 a w)(aB:Com S H j gs w t D X d0 left)
  {i:Nat} (hi:i<j) {g g':Goroutine} {es:Array Event} {x':WD} {y':WX P} {vA vB:Int} (hg:gs[i+1]?=some g) (hgo:stepG P false g w=.go g' w' es)
  (B7:Aside S.G.Wg w w') (cq:WgAt S.ty S.G.Wg w' vA vB) (pc:∀ e∈es,Bk S.G.Wg e) (dz:WSit S H (i+1) x' y' g' w') (hX:y'.held=(X i).held) (sU:deafBehind (D i).deaf es=x'.deaf)
  (Av:x'.stage<=6->∃ r,RelBy (stA S.G.Wg) (t++MemOp.ofEvents (i+1) g.frame.fn g.frame.place es) (i+1) r) (nv:(x'.stage<=6∨y'=.fin)->left=[])
  (aL:∀ tag',(tag'=tag∨(tag=.blk/\tag'=.w3))->(mayWake P g=true->g'.status=.running->tag'≠.blk)->Mode j (upd D i x') tag' vA vB)
  (fR:tag=.ret->AcqAll S.G.Wg j (t++MemOp.ofEvents (i+1) g.frame.fn g.frame.place es)) (aA:nY P (ik x' y') (ik (D i) (X i))):Done S (mu S j D X left tag f0) (crowd gs w sl) (i+1) t:=by
 have c:Chg S (i+1) none H w H w':=.group S.hG B7 ⟨_,_,cq⟩;have hok:=okW_of_Bk (Own:=lY S.G H.W) (Rd:=yj S.G) (k:=i+1) (fn:=g.frame.fn) (pos:=g.frame.place) pc;refine sW hS ha bt aB hi hg hgo c dz hok (norel_of_Bk pc) sU Av (od (xM fun e he=>JD (pc e he) (B7.size▸aB.JE hS))) (fun op ho x hx hk=>?_)
  (aB.book.same S.hG aB.kn hi hX c aB.book.own (fun k b hb=>B7.size▸aB.book.ownLt k b hb) (B7.block _ (Ne.symm S.hG.wc)) aB.book.retOwn (fun q v h=>.inl h) rfl (fun _ _ h=>h) hok) (fun _ _ h=>h) nv cq aL fR aA
 rcases(hok op ho).2 x hx with h|h|h
 ·exact h.1
 ·exact EE pc ho hx
 ·exact EE pc ho hx
end
end CO
