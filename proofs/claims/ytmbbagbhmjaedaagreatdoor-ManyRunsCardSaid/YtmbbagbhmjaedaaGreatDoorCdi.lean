/- Part of the proof. -/
import Derived.Test.YtmbbagbhmjaedaaGreatDoorCdh
set_option linter.all false
namespace CO
open Go Go.Conc Go.ConcN
open Go.ConcR (KK WgAt stA smA rd wr mk DC0 g_of_ofEvents Bk bk_of_mute ofEvent_loc_mark deafBehind_cons deafBehind_one)
theorem JF{P:Program}{D D':WD}{X:WX P}(h:D'.stage<D.stage)(hs:D.stage<=8):nY P (ik D' .none) (ik D X):=by
 cases X<;>exact Prod.Lex.left _ _ ae
theorem Nd{P:Program}{s m m' d d':Nat}(h:m'<m):nY P (ik ⟨s,m',d'⟩ .none) (ik ⟨s,m,d⟩ .none):=Prod.Lex.right _ (Prod.Lex.right _ h)
section
variable {P:Program} {S:gE P} {H:Gh} {gs:Array Goroutine} {w:World} {sl:Option (Nat×Nat)} {j:Nat} {D:Nat->WD} {X:Nat->WX P} {tag:CTag} {f0 d0:Nat} {a:Goroutine} {t:Trace} {st sm:Int} {left:List Nat}
set_option maxHeartbeats 1600000 in
theorem pf(hS:S.Ok)(hn:S.n<2147483648)(ha:gs[0]?=some a)(bt:CSit S tag j f0 d0 a w)(aB:Com S H j gs w t D X d0 left)(cq:WgAt S.ty S.G.Wg w st sm)(aL:Mode j D tag st sm)
  (fR:tag=.ret->AcqAll S.G.Wg j t) {i:Nat} (hi:i<j) {g:Goroutine} (hg:gs[i+1]?=some g) (aD:g.status=.running) (hX:X i=.none) (hs:WSit S H (i+1) (D i) .none g w) :
  Done S (mu S j D X left tag f0) (crowd gs w sl) (i+1) t:=by
 have hb:=bt.bound;have hVj:=Vc_le j D;have rf:=RB.refl (G:=S.G) (ty:=S.ty) (q:=none) w;have yg:Deaf t (i+1)=(D i).deaf:=aB.deafW i hi;have h6:(D i).stage<=6:=by
  generalize D i=Di at hs;cases hs<;>dsimp only<;>omega
 have oh:left=[]:=aB.done i hi (.inl h6);have OD:∀ {g':Goroutine} {w':World} {es:Array Event} {s' m' OE:Nat} {vA vB:Int},stepG P false g w=.go g' w' es->Aside S.G.Wg w w'->WgAt S.ty S.G.Wg w' vA vB->(∀ e∈es,Bk S.G.Wg e) ->
   (∀ jx e,es[jx]?=some e->(MemAct.ofEvent e).touch?=none∨0<deafBehind (D i).deaf (es.extract 0 jx))->WSit S H (i+1) ⟨s',m',OE⟩ .none g' w'->deafBehind (D i).deaf es=OE ->
   (∀ tag',(tag'=tag∨(tag=.blk/\tag'=.w3))->(mayWake P g=true->g'.status=.running->tag'≠.blk)->Mode j (upd D i ⟨s',m',OE⟩) tag' vA vB)->(tag=.ret->AcqAll S.G.Wg j (t++MemOp.ofEvents (i+1) g.frame.fn g.frame.place es))->(s'<(D i).stage∨(s'=(D i).stage/\m'+1=(D i).fuel)) ->
   Done S (mu S j D X left tag f0) (crowd gs w sl) (i+1) t:=by
  intro g' w' es s' m' OE vA vB hgo B7 uE pc hd dz SY sX JG aA;refine VG hS ha bt aB hi hg hgo B7 uE pc dz (by rw [hX]) SY (fun _=>let ⟨r,hr⟩:=aB.rel i hi h6;⟨r,hr.book yg _ _ pc hd⟩) (fun _=>oh) sX JG ?_;rw [hX];rcases aA with h|⟨h1,h2⟩
  ·exact JF h ae
  ·have e:D i=⟨s',m'+1,(D i).deaf⟩:=by rw [h1,h2]
   rw [e];exact Nd (aiE _)
 have book:∀ {g':Goroutine} {w':World} {es:Array Event} {s' m' OE:Nat} {vA vB:Int},stepG P false g w=.go g' w' es->Aside S.G.Wg w w'->WgAt S.ty S.G.Wg w' vA vB->(∀ e∈es,Bk S.G.Wg e) ->
   (∀ jx e,es[jx]?=some e->(MemAct.ofEvent e).touch?=none∨0<deafBehind (D i).deaf (es.extract 0 jx))->WSit S H (i+1) ⟨s',m',OE⟩ .none g' w'->deafBehind (D i).deaf es=OE ->
   Mode j (upd D i ⟨s',m',OE⟩) tag vA vB->(tag=.ret->AcqAll S.G.Wg j (t++MemOp.ofEvents (i+1) g.frame.fn g.frame.place es))->(s'<(D i).stage∨(s'=(D i).stage/\m'+1=(D i).fuel)) ->
   Done S (mu S j D X left tag f0) (crowd gs w sl) (i+1) t :=
  fun hgo B7 uE pc hd dz SY sX JG aA=>OD hgo B7 uE pc hd dz SY (fun _ ht _=>sX.retag ht) JG aA
 have nr:(D i).stage≠1->tag≠.ret:=fun h=>aL.not_ret hi h;have idle:∀ {g':Goroutine} {m':Nat},stepG P false g w=.go g' w #[]->WSit S H (i+1) ⟨(D i).stage,m',(D i).deaf⟩ .none g' w->m'+1=(D i).fuel->(D i).stage≠1->Done S (mu S j D X left tag f0) (crowd gs w sl) (i+1) t:=by
  intro g' m' hgo dz hm h1;exact book hgo (.refl S.G.Wg w) cq ag ag dz rfl (aL.same (i:=i) m' (D i).deaf) (fun e=>absurd e (nr h1)) (.inr ⟨rfl,hm⟩)
 generalize hD:D i=Di at hs
 cases hs with
 | k1 h =>
  have cH:(D i).stage=6:=by rw [hD]
  have Hc:(D i).fuel=_:=congrArg WD.fuel hD;have qC:(D i).deaf=0:=by rw [hD]
  rcases Goes.cases h with bD|⟨m',rfl,bp⟩
  ·obtain⟨_,g',hgo,m₂,hk⟩:=bD w rf;exact book hgo (.refl S.G.Wg w) cq (by intro e he;simp at he;subst he;exact .inl rfl) (by intro jx e he;exact .inl (by have:=aih he;simp at this;subst this;rfl)) (.d1 hk) (by rw [qC];rfl)
    (aL.counted hi ae (.inr rfl) _ _) (fun e=>absurd e (nr ae)) (.inl ae)
  ·obtain⟨g',w',es,hgo,⟨rfl,rfl⟩,dm⟩:=bp w rf;exact idle hgo (by rw [cH,qC];exact .k1 dm) (by rw [Hc]) ae
 | d1 h =>
  have cH:(D i).stage=5:=by rw [hD]
  have Hc:(D i).fuel=_:=congrArg WD.fuel hD;have qC:(D i).deaf=1:=by rw [hD]
  rcases Goes.cases h with bD|⟨m',rfl,bp⟩
  ·obtain⟨_,cZ⟩:=bD w rf;have PM:cnt (D i)=1:=by simp [cnt,cH]
   have hV1:1<=Vc j D:=by have:=le_sumTo (f:=fun x=>cnt (D x)) hi;simp only [Vc];omega
   have bk2:∀ e∈#[rd (stA S.G.Wg),wr (stA S.G.Wg)],Bk S.G.Wg e:=by intro e he;simp at he;rcases he with rfl|rfl<;>exact bk_cell _ _ rfl
   have Z0:∀ jx e,(#[rd (stA S.G.Wg),wr (stA S.G.Wg)]:Array Event)[jx]?=some e->(MemAct.ofEvent e).touch?=none∨0<deafBehind (D i).deaf ((#[rd (stA S.G.Wg),wr (stA S.G.Wg)]:Array Event).extract 0 jx):=by
    intro jx e he;rw [qC]
    match jx,he with
    | 0,_=>exact .inr (by simp [deafBehind])
    | 1,_=>exact .inr (by simp [deafBehind,rd])
    | jx+2,he=>simp at he
   have hq0:∀ q,cnt (⟨1,q,1⟩:WD)=0:=fun _=>rfl;have opq:∀ q,OpenSt j D->OpenSt j (upd D i ⟨1,q,1⟩):=fun q h a ha=>by
    by_cases e:a=i
    ·subst e;rw [upd_same];simp
    ·rw [upd_ne D _ e];exact h a ha
   have Z1:deafBehind (D i).deaf #[rd (stA S.G.Wg),wr (stA S.G.Wg)]=1:=by rw [qC];rfl
   cases aL with
   | opn h1 h2 h3 =>
    obtain⟨v,hv⟩:∃ v,Vc j D+pend tag=v+1:=⟨Vc j D+pend tag-1,ae⟩;rw [hv] at cq;have lU:WgAt S.ty S.G.Wg w (((v:Nat)+1)*KK+((0:Nat):Int)) 0:=by simpa using cq
    obtain⟨g',hgo,_,hq⟩:=cZ v 0 ae ae lU;obtain⟨q,hq⟩:=hq ae;have tN:Vc j (upd D i ⟨1,q,1⟩)+pend tag=v:=by have:=Vc_upd D (⟨1,q,1⟩:WD) hi;have:=hq0 q;omega
    refine book hgo (aside_setCell w (stA S.G.Wg) _) (cq.setSt _) bk2 Z0 (.quit hq) Z1 ?_ (fun e=>absurd e (nr ae)) (.inl ae);have e:((v:Nat):Int)*KK+((0:Nat):Int)=((Vc j (upd D i ⟨1,q,1⟩)+pend tag:Nat):Int)*KK:=by rw [tN];simp
    rw [e];exact .opn h1 (opq q h2) (fun vs ev=>by have:=h3 vs ev;omega)
   | reg h1 h2 h3 =>
    obtain⟨v,hv⟩:∃ v,Vc j D=v+1:=⟨Vc j D-1,ae⟩;rw [hv] at cq;have hp:pend tag=0:=by cases tag<;>first|rfl|exact h1.elim
    have lU:WgAt S.ty S.G.Wg w (((v:Nat)+1)*KK+((1:Nat):Int)) 0:=by simpa using cq
    obtain⟨g',hgo,hl,hq⟩:=cZ v 1 ae ae lU;by_cases VH:v=0
    ·subst VH;obtain⟨m₂,hk⟩:=hl ⟨rfl,rfl⟩;refine book hgo (aside_setCell w (stA S.G.Wg) _) (cq.setSt _) bk2 Z0 (.d2 hk) Z1 ?_ (fun e=>absurd e (nr ae)) (.inl ae);have mX:∀ a,a<j->a≠i->(D a).stage=1:=fun a ha e=>by
      have c0:=others_uncounted hi hv PM a ha e;have:=h2 a ha;simp only [cnt] at c0;split at c0<;>omega
     have:=Mode.last (j:=j) (D:=upd D i ⟨4,m₂,1⟩) (tag:=tag) i h1 hi (by rw [upd_same];simp) (fun a ha e=>by rw [upd_ne D _ e];exact mX a ha e);rw [upd_same] at this;simpa using this
    ·obtain⟨q,hq⟩:=hq ae;have tN:Vc j (upd D i ⟨1,q,1⟩)=v:=by have:=Vc_upd D (⟨1,q,1⟩:WD) hi;have:=hq0 q;omega
     refine book hgo (aside_setCell w (stA S.G.Wg) _) (cq.setSt _) bk2 Z0 (.quit hq) Z1 ?_ (fun e=>absurd e (nr ae)) (.inl ae);have e:((v:Nat):Int)*KK+((1:Nat):Int)=((Vc j (upd D i ⟨1,q,1⟩):Nat):Int)*KK+1:=by rw [tN];simp
     rw [e];exact .reg h1 (opq q h2) ae
   | last L _ h2 h3 h4 =>
    by_cases e:i=L
    ·subst e;omega
    ·have:=h4 i hi e;omega
   | sema h2=>have:=h2 i hi;omega
   | fin _ h2=>have:=h2 i hi;omega
  ·obtain⟨g',w',es,hgo,⟨rfl,rfl⟩,dm⟩:=bp w rf;exact idle hgo (by rw [cH,qC];exact .d1 dm) (by rw [Hc]) ae
 | d2 h =>
  have cH:(D i).stage=4:=by rw [hD]
  have Hc:(D i).fuel=_:=congrArg WD.fuel hD;have qC:(D i).deaf=1:=by rw [hD]
  rcases Goes.cases h with bD|⟨m',rfl,bp⟩
  ·obtain⟨_,hx⟩:=bD w rf;obtain⟨VI,mX,rfl,rfl⟩:=aL.isLast hi ae;simp only [cH] at cq;obtain⟨g',hgo,m₂,hk⟩:=hx (by simpa using cq);refine book hgo (.refl S.G.Wg w) cq (by intro e he;simp at he;subst he;exact bk_cell _ _ rfl) (by rw [qC];intro jx e he;match jx,he with|0,_=>exact .inr (by simp [deafBehind])|jx+1,he=>simp at he) (.d3 hk) (by rw [qC];rfl) ?_ (fun e=>absurd e (nr ae)) (.inl ae);have:=Mode.last (j:=j) (D:=upd D i ⟨3,m₂,1⟩) (tag:=tag) i VI hi (by rw [upd_same];simp) (fun a ha e=>by rw [upd_ne D _ e];exact mX a ha e);rw [upd_same] at this;simpa using this
  ·obtain⟨g',w',es,hgo,⟨rfl,rfl⟩,dm⟩:=bp w rf;exact idle hgo (by rw [cH,qC];exact .d2 dm) (by rw [Hc]) ae
 | d3 h =>
  have cH:(D i).stage=3:=by rw [hD]
  have Hc:(D i).fuel=_:=congrArg WD.fuel hD;have qC:(D i).deaf=1:=by rw [hD]
  rcases Goes.cases h with bD|⟨m',rfl,bp⟩
  ·obtain⟨_,hx⟩:=bD w rf;obtain⟨VI,mX,rfl,rfl⟩:=aL.isLast hi ae;simp only [cH] at cq;obtain⟨g',hgo,m₂,hk⟩:=hx (by simpa using cq);refine book hgo (aside_setCell w (stA S.G.Wg) _) (cq.setSt 0) (by intro e he;simp at he;subst he;exact bk_cell _ _ rfl) (by rw [qC];intro jx e he;match jx,he with|0,_=>exact .inr (by simp [deafBehind])|jx+1,he=>simp at he) (.d4 hk) (by rw [qC];rfl) ?_ (fun e=>absurd e (nr ae)) (.inl ae);have:=Mode.last (j:=j) (D:=upd D i ⟨2,m₂,1⟩) (tag:=tag) i VI hi (by rw [upd_same];simp) (fun a ha e=>by rw [upd_ne D _ e];exact mX a ha e);rw [upd_same] at this;simpa using this
  ·obtain⟨g',w',es,hgo,⟨rfl,rfl⟩,dm⟩:=bp w rf;exact idle hgo (by rw [cH,qC];exact .d3 dm) (by rw [Hc]) ae
 | d4 h =>
  have cH:(D i).stage=2:=by rw [hD]
  have Hc:(D i).fuel=_:=congrArg WD.fuel hD;have qC:(D i).deaf=1:=by rw [hD]
  rcases Goes.cases h with bD|⟨m',rfl,bp⟩
  ·obtain⟨_,hmw,hx⟩:=bD w rf;obtain⟨VI,mX,rfl,rfl⟩:=aL.isLast hi ae;simp only [cH] at cq;obtain⟨g',hgo,q,hq⟩:=hx (by simpa using cq);have sY:g'.status=.running:=by
    cases q with
    | zero=>exact absurd hq.2 af
    | succ q=>exact hq.elim (fun x=>absurd x.2 af) (fun x=>x.1)
   refine OD hgo (aside_setCell w (smA S.G.Wg) _) (cq.setSm 1) (es:=semEvents (smA S.G.Wg)) ?_ ?_ (.quit hq) (by rw [qC];simp [deafBehind,semEvents]) ?_ (fun e=>absurd e (nr ae)) (.inl ae)
   ·intro e he;simp [semEvents] at he;rcases he with rfl|rfl|rfl|rfl
    ·exact .inl rfl
    ·exact bk_cell _ _ rfl
    ·exact bk_cell _ _ rfl
    ·exact .inr (.inl rfl)
   ·rw [qC];intro jx e he
    match jx,he with
    | 0,he=>simp [semEvents] at he;subst he;exact .inl rfl
    | 1,_=>exact .inr (by simp [deafBehind,semEvents])
    | 2,_=>exact .inr (by simp [deafBehind,semEvents])
    | 3,he=>simp [semEvents] at he;subst he;exact .inl rfl
    | jx+4,he=>simp [semEvents] at he
   ·intro tag' ht hw;have Uz:=hw hmw sY;have e3:tag'=.w3:=by
     rcases ht with rfl|⟨_,rfl⟩
     ·cases tag'<;>first|rfl|exact VI.elim|exact absurd rfl Uz
     ·rfl
    subst e3;simp only [if_true];exact .sema fun a ha=>by
     by_cases e:a=i
     ·subst e;rw [upd_same]
     ·rw [upd_ne D _ e];exact mX a ha e
  ·obtain⟨g',w',es,hgo,⟨rfl,rfl⟩,dm⟩:=bp w rf;exact idle hgo (by rw [cH,qC];exact .d4 dm) (by rw [Hc]) ae
 | @quit m dd _ _ h =>
  have cH:(D i).stage=1:=by rw [hD]
  have Hc:(D i).fuel=m:=congrArg WD.fuel hD;have qC:(D i).deaf=dd:=by rw [hD]
  cases m with
  | zero=>rw [h.1] at aD;cases aD
  | succ q =>
   rcases h with⟨hf,_⟩|⟨_,g',es,JH,bp,hq⟩
   ·rw [hf] at aD;cases aD
   ·have pc:∀ e∈es,Bk S.G.Wg e:=fun e he=>bk_of_mute (JH e he)
    have dJ:∀ jx e,es[jx]?=some e->(MemAct.ofEvent e).touch?=none∨0<deafBehind (D i).deaf (es.extract 0 jx):=fun jx e he=>.inl (by
     rcases bk_of_mute (Wg:=S.G.Wg) (JH e (aih he)) with h1|h1|⟨a,wr,rfl,_⟩
     ·rw [ofEvent_loc_mark h1];rfl
     ·rw [ofEvent_loc_mark h1];rfl
     ·have:=JH _ (aih he);simp [Event.mute] at this)
    refine book (bp w) (.refl S.G.Wg w) cq pc dJ (.quit hq) (by rw [qC]) (by have:=aL.same (i:=i) q (deafBehind dd es);rwa [cH] at this) (fun e=>(fR e).app fun i' r ez hr=>?_) (.inr ⟨cH.symm,Hc.symm⟩);by_cases e':i'=i
    ·subst e';exact hr.book yg _ _ pc dJ
    ·exact hr.appOther g_of_ofEvents ae
end
end CO
namespace CO
open Go Go.Conc Go.ConcN
open Go.ConcR (KK WgAt stA smA rd wr mk DC0 g_of_ofEvents)
theorem lX.base{P:Program}{E:Env P}{ρ:Ren}{bC cs:List Frame}(h:lX E ρ [bX P] bC [bX P] cs):cs=bC:=by
 generalize hx:[bX P]=x at h;have eQ:=hx
 cases h with
 | nil=>rfl
 | cons hf _ _ =>
  obtain⟨fn,CM,_⟩:=hf.fnOk;simp only [List.cons.injEq] at hx;rw [<- hx.1] at CM;simp [bX] at CM
section
variable {P:Program} {S:gE P}
def Gh.grow(H:Gh)(k a b:Nat):Gh:={ H with W:={ H.W with own:=fun k' x=>H.W.own k' x∨(k'=k/\a<=x/\x<b) } }
theorem EF{H:Gh}(h:H.W.Ok S.G){k a b:Nat}(aA:∀ k x,H.W.own k x->x<a)(ha:S.G.Lo<=a):(H.grow k a b).W.Ok S.G:=by
 refine⟨fun k1 k2 x h1 h2=>?_,h.tk1,fun k1 x h1=>?_⟩
 ·rcases h1 with h1|⟨rfl,h1,_⟩<;>rcases h2 with h2|⟨rfl,h2,_⟩
  ·exact h.one _ _ _ h1 h2
  ·have:=aA _ _ h1;omega
  ·have:=aA _ _ h2;omega
  ·rfl
 ·rcases h1 with h1|⟨_,h1,_⟩
  ·exact h.hi _ _ h1
  ·omega
theorem CR{v cg:World}(h:Exact S.G v)(g:Exact S.G cg)(k:gf v cg):∀ b,S.G.Sh b->cg.heap[b]?=v.heap[b]?:=fun b hb=>by
 obtain⟨c,e,h1⟩:=h b hb;obtain⟨c1,e1,g1⟩:=g b hb;obtain⟨c',z',h2,h3⟩:=k.row b c e _ h1;rw [g1] at h2;cases h2;have hc:c1=c:=by
  apply Array.ext h3.size;intro i hi ez;have:=h3.val i (ahQ _) ez;simp [hi,ez] at this;exact this
 subst hc;rw [g1,h1]
section
variable {H:Gh} {ρ aQ:Ren} {v cg w ai:World} {k:Nat}
theorem EG(hG:S.G.Ok)(yx:Kn S w)(hn:¬ ρ.eq)(hl:ρ.le aQ)(hw:WR ρ v w)(lU:WR aQ cg ai)(hf:Fr ρ aQ w ai)(wB:∀ z z',cu ρ z z'->v.frozen? z=true->ai.cell? z'=w.cell? z')(hx:Exact S.G v)(EC:Exact S.G cg)(hs:∀ b,S.G.Sh b->cg.heap[b]?=v.heap[b]?)(bc:vy S.G.Sh S.S0 ai)
  (hr:∀ b b',ρ b b'->(S.G.Sh b'/\b=b')∨(H.W.own k b'/\¬ H.ret b')) (hO:H.W.Ok S.G) {H':Gh} (h1:H'.W.own=(H.grow k w.heap.size ai.heap.size).W.own) (h2:H'.W.tk=H.W.tk) (h3:∀ b,H.ret b->H'.ret b) (h4:∀ b,H'.ret b->H.ret b∨H'.W.own k b) (h5:∀ q v,H.rv q v->H'.rv q v) :
  Chg S k none H w H' ai:=by
 have old:∀ b,b<w.heap.size->¬ S.G.Sh b->¬ (H.W.own k b/\¬ H.ret b)->ai.heap[b]?=w.heap[b]?:=fun b hb h1 h2=>hf.old b hb fun a ha=>(hr a b ha).elim (fun h=>h1 h.1) h2;have low:∀ b,b<S.G.Lo->¬ S.G.Sh b->ai.heap[b]?=w.heap[b]?:=fun b hb h1=>old b (ahv hb yx.lo) h1 fun h=>by have:=hO.hi _ _ h.1;omega
 have GC:∀ b,S.G.Sh b->b<S.G.Lo/\b≠S.G.Wg/\b≠S.G.O/\b≠S.G.Ch:=fun b hb=>hG.sh b (hG.rd b hb);have Bd:¬ aQ.eq:=by rw [hl.eq];exact hn
 have sh:∀ b,S.G.Sh b->ai.heap[b]?=w.heap[b]?:=fun b hb=>by
  by_cases px:∃ a,ρ a b
  ·obtain⟨a,ha⟩:=px;have yh:a=b:=by
    rcases hr a b ha with⟨_,h⟩|⟨h,_⟩
    ·exact h
    ·have:=hO.hi _ _ h;have:=(GC b hb).1;omega
   subst yh;obtain⟨cv,ev,hv⟩:=hx a hb;obtain⟨o,o',g1,g2,g3⟩:=hw.obj a a ha;obtain⟨p,p',g4,g5,g6⟩:=lU.obj a a (hl.r _ _ ha);rw [hv] at g1;rw [hs a hb,hv] at g4;cases g1;cases g4
   cases g3 with
   | cells _ _ hA =>
    cases g6 with
    | cells _ qw hB =>
     rename_i c z _ c' z';have:c'=c:=by
      apply Array.ext (by rw [<- hA.size,<-hB.size]);intro i hi ez
      have h1:=wB ⟨a,i,none⟩ ⟨a,i,none⟩ (.mk i none ha) (by
       unfold World.frozen?
       rw [hv]
       simp only [ahQ,decide_true,Bool.true_and,decide_eq_true_eq]
       rw [hB.size];exact hi)
      unfold World.cell? at h1;rw [g5,g2] at h1;simpa [hi,ez] using h1
     subst this;have h0:S.S0.heap[a]?=some (.cells c' ev z):=by
      obtain⟨l1,l2,l3,l4⟩:=GC a hb;rw [<- yx.low.low a l1 l2 l4 l3];exact g2
     have:=bc a hb c' ev z c' ev z' h0 g5;subst this;rw [g5,g2]
  ·exact hf.old b (ahv (GC b hb).1 yx.lo) fun a ha=>px ⟨a,ha⟩
 refine⟨⟨fun b hb _ _ _=>(Classical.em (S.G.Sh b)).elim (sh b) (low b hb)⟩,hf.size,fun b Xg D9 Y2=>old b D9 (fun h=>by have:=(GC b h).1;omega) Y2,fun cs e z hc=>⟨cs,?_,rfl,fun _ _=>rfl⟩,fun⟨st,sm,hg⟩=>⟨st,sm,?_⟩,fun k' b hb=>?_,fun k' b hb=>?_,h3,h4,fun k' q hq=>by rw [h2];exact hq,h5,nofun,fun _=>⟨hf.os,hf.output⟩⟩
 ·rw [low _ hG.o fun h=>(GC _ h).2.2.1 rfl];exact hc
 ·exact(low _ hG.wg fun h=>(GC _ h).2.1 rfl).trans hg
 ·rw [h1];exact .inl hb
 ·rw [h1] at hb;exact hb
theorem vC(lU:WR aQ cg ai)(hf:Fr ρ aQ w ai)(hr:∀ b b',ρ b b'->(S.G.Sh b'/\b=b')∨(H.W.own k b'/\¬ H.ret b')):∀ b b',aQ b b'->(S.G.Sh b'/\b=b')∨(H.W.own k b'/\¬ H.ret b')∨(w.heap.size<=b'/\b'<ai.heap.size):=fun b b' hb=>by
 rcases hf.new b b' hb with h|h
 ·exact(hr b b' h).imp id .inl
 ·obtain⟨o,o',_,g2,_⟩:=lU.obj b b' hb;exact .inr (.inr ⟨h,bW g2⟩)
end
end
section
variable {P:Program} {S:gE P} {H H':Gh} {gs:Array Goroutine} {w w':World} {sl:Option (Nat×Nat)} {j:Nat} {D:Nat->WD} {X:Nat->WX P} {tag:CTag} {f0 d0:Nat} {a:Goroutine} {t u:Trace} {st sm:Int} {left:List Nat}
theorem EH(hS:S.Ok)(ha:gs[0]?=some a)(bt:CSit S tag j f0 d0 a w)(aB:Com S H j gs w t D X d0 left)(cq:WgAt S.ty S.G.Wg w st sm)(aL:Mode j D tag st sm)
  {i:Nat} (hi:i<j) {g g':Goroutine} {es:Array Event} {J:Option Nat} {m':Nat} {y':WX P} (hg:gs[i+1]?=some g) (hD:(D i).stage=7/\(D i).deaf=0) (hgo:stepG P false g w=.go g' w' es)
  (c:Chg S (i+1) J H w H' w') (dz:WSit S H' (i+1) ⟨7,m',0⟩ y' g' w') (cn:∀ e∈es,EvW S.G.Wg (lY S.G H'.W) (yj S.G) (i+1) e/\∀ x,(MemAct.ofEvent e).touch?=some x->x.loc.low w'.heap.size/\(x.kind=.atomic->ShN S.G.Wg x.loc))
  (hX:y'.held=(X i).held) (Au:H'.W.Ok S.G) (Px:∀ k b,H'.W.own k b->b<w'.heap.size) (vl:w'.heap[S.G.Ch]?=w.heap[S.G.Ch]?) (oF:∀ b,H'.ret b->∃ k,H'.W.own k b) (ZX:∀ q v,H'.rv q v->H.rv q v∨Rec S H' q v w') (cH:H'.stored=H.stored) (oA:∀ k q,H'.W.tk k q->H.W.tk k q)
  (Z2:w'.heap[S.G.Wg]?=w.heap[S.G.Wg]?) (xd:y'=.fin->left=[]) (aA:nY P (ik ⟨7,m',0⟩ y') (ik (D i) (X i))):Done S (mu S j D X left tag f0) (crowd gs w sl) (i+1) t:=by
 have hok:=okW_of_EvW (fn:=g.frame.fn) (pos:=g.frame.place) fun e he=>(cn e he).1
 refine sW hS ha bt aB hi hg hgo c dz hok (fun e he=>(cn e he).1.2.2.2) (by rw [hD.2];exact deafBehind_idle (fun e he=>⟨(cn e he).1.2.1,(cn e he).1.2.2.1⟩) 0) (fun h=>absurd h (show ¬ 7<=6 by omega)) (fun op ho x hx=>by
   rw [ofEvents_eq] at ho
   obtain⟨e,he,rfl⟩:=Array.mem_map.1 ho
   exact((cn e he).2 x hx).1) (fun op ho x hx hk=>by
   rw [ofEvents_eq] at ho
   obtain⟨e,he,rfl⟩:=Array.mem_map.1 ho
   exact((cn e he).2 x hx).2 hk)
  (aB.book.same S.hG aB.kn hi hX c Au Px vl oF ZX cH oA hok) oA (fun h=>h.elim (fun h=>absurd h (show ¬ 7<=6 by omega)) xd) (Z2.trans cq) (fun tag' ht _=>Mode.retag (by have:=aL.same (i:=i) m' 0;rwa [hD.1] at this) ht) (fun e=>absurd e (aL.not_ret hi ae)) aA
theorem Aw{Q:Prop}{e:Event}{B Wg:Nat}(h:Q/\(MemAct.ofEvent e).low B/\∀ x,(MemAct.ofEvent e).touch?=some x->x.kind≠.atomic):Q/\∀ x,(MemAct.ofEvent e).touch?=some x->x.loc.low B/\(x.kind=.atomic->ShN Wg x.loc):=⟨h.1,fun x hx=>⟨vx h.2.1 hx,fun hk=>absurd hk (h.2.2 x hx)⟩⟩
theorem JI(hS:S.Ok)(ha:gs[0]?=some a)(bt:CSit S tag j f0 d0 a w)(aB:Com S H j gs w t D X d0 left)(cq:WgAt S.ty S.G.Wg w st sm)(aL:Mode j D tag st sm)
  {i:Nat} (hi:i<j) {g g':Goroutine} {es:Array Event} {m' m:Nat} {y':WX P} (hg:gs[i+1]?=some g) (Tf:D i=⟨7,m,0⟩) (hXi:X i=y') (hgo:stepG P false g w=.go g' w' es) (RO:DR S.G w w' es)
  (dz:WSit S H (i+1) ⟨7,m',0⟩ y' g' w') (xd:y'=.fin->left=[]) (aA:nY P (ik ⟨7,m',0⟩ y') (ik ⟨7,m,0⟩ y')):Done S (mu S j D X left tag f0) (crowd gs w sl) (i+1) t:=by
 obtain⟨⟨hh,h2⟩,HM⟩:=RO;refine EH hS ha bt aB cq aL hi hg (by rw [Tf];exact⟨rfl,rfl⟩) hgo (.heap hh fun _=>h2) dz (fun e he=>?_) (by rw [hXi]) aB.book.own (fun k b hb=>by rw [hh];exact aB.book.ownLt k b hb) (by rw [hh]) aB.book.retOwn (fun q v h=>.inl h) rfl (fun _ _ h=>h) (by rw [hh]) xd (by rw [Tf,hXi];exact aA);rcases HM e he with⟨b,rfl,hb⟩|hw
 rotate_left
 ·refine⟨⟨fun fn pos=>⟨rfl,fun x hx=>?_⟩,hw.2⟩,fun x hx=>?_⟩
  ·rcases(hw.1 fn pos).2 x hx with h|h|⟨h,_⟩
   ·exact .inl h
   ·exact h.elim
   ·exact h.elim
  ·rcases(hw.1 g.frame.fn g.frame.place).2 x hx with⟨h,_⟩|h|⟨h,_⟩
   ·refine⟨?_,fun _=>h⟩;obtain⟨b,hb,hw⟩:=h;rw [hb,hh];show b.block<_;rw [hw];exact aB.JE hS
   ·exact h.elim
   ·exact h.elim
 refine Aw ⟨⟨fun fn pos=>⟨rfl,fun x hx=>?_⟩,ag,ag,ag⟩,by rw [hh];exact ahv (S.hG.sh _ hb).1 aB.kn.lo,fun x hx=>by(have eQ:some (⟨.cell b,false,.plain⟩:Touch)=some x:=hx);cases eQ;simp⟩;have eQ:some (⟨.cell b,false,.plain⟩:Touch)=some x:=hx;cases eQ;exact .inr (.inr ⟨⟨b,rfl,hb⟩,rfl⟩)
theorem VJ(hS:S.Ok)(ha:gs[0]?=some a)(bt:CSit S tag j f0 d0 a w)(aB:Com S H j gs w t D X d0 left)(cq:WgAt S.ty S.G.Wg w st sm)(aL:Mode j D tag st sm)
  {i q:Nat} (hi:i<j) {g:Goroutine} (hg:gs[i+1]?=some g) (hD:(D i).stage=7/\(D i).deaf=0) (hq:q<S.N) (hX:(X i).held=some q) {x:FC} {v:World} (hA:Acc (Lt P) (x,v)) (hj:sR S H (i+1) q x v g w)
  (Z3:∀ y (hy:Acc (Lt P) y),Lt P y (x,v)->nY P (ik ⟨7,0,0⟩ (.job q ⟨y,hy⟩)) (ik (D i) (X i))) (RP:∀ m,nY P (ik ⟨7,m,0⟩ (.post q)) (ik (D i) (X i))):Done S (mu S j D X left tag f0) (crowd gs w sl) (i+1) t:=by
 have hx:=hj.exact hA;obtain⟨ρ,fr,cs,c,cs',rfl,Nf,hrn,cr,jF,iY,mY,Ax,Ng,hz,Nh⟩:=hj.at_;have B:=aB.book;have GC:∀ b,S.G.Sh b->b<S.G.Lo/\b≠S.G.Wg/\b≠S.G.O/\b≠S.G.Ch:=fun b hb=>S.hG.sh b (S.hG.rd b hb);have sZ:∀ {aQ:Ren} {ai:World},Fr ρ aQ w ai->∀ b,b<S.G.Lo->¬ S.G.Sh b->ai.heap[b]?=w.heap[b]?:=fun hf b hb pv=>hf.old b (ahv hb aB.kn.lo) fun a yh=>by
  rcases Ng a b yh with h|h
  ·exact pv h.1
  ·have:=B.own.hi _ _ h.1;omega
 have VK:∀ {aQ:Ren} {cg ai:World},WR aQ cg ai->∀ b b',aQ b b'->b'<ai.heap.size:=fun lU b b' hb=>by obtain⟨o,o',_,h2,_⟩:=lU.obj b b' hb;exact bW h2
 rcases hrn.OB S.hK S.hB false jF iY mY Ax (y:=(fr,cs)) with⟨val,s6,om,_⟩|⟨lr,cg,aQ,ij,ai,evs,s⟩
 ·
  have JJ:cs=c::cs':=by
   have:=mY;rw [s6.leaving.2] at this;exact this.base
  subst JJ;obtain⟨aQ,cy,ai,cg,evs,hgo,hle,OF,lU,hf,hk,⟨T,d,rfl⟩,RQ,wB⟩:=s6.OB false iY Ax;have RR:¬ aQ.eq:=by rw [hle.eq];exact cr
  have EC:Exact S.G (tp v T d):=hx;have K4:∀ b,S.G.Sh b->(tp v T d).heap[b]?=v.heap[b]?:=fun _ _=>rfl;have Au:=EF (S:=S) B.own (k:=i+1) (b:=ai.heap.size) B.ownLt aB.kn.lo;obtain⟨H',K7⟩:∃ H':Gh,H'={ H.grow (i+1) w.heap.size ai.heap.size with ret:=fun b=>H.ret b∨(H.grow (i+1) w.heap.size ai.heap.size).W.own (i+1) b,rv:=fun q' v'=>H.rv q' v'∨(q'=q/\v'=cy) }:=⟨_,rfl⟩;have hc:Chg S (i+1) none H w H' ai:=by
   subst K7;exact EG S.hG aB.kn cr hle Ax lU hf wB hx EC K4 (Nh.last iY mY s6.leaving hgo) Ng B.own rfl rfl (fun _ h=>.inl h) (fun _ h=>h) (fun _ _ h=>.inl h)
  have JK:=vC (S:=S) lU hf Ng;have Z4:Kn S ai:=aB.kn.rb hc.rb;have s7:=S.blind q val v T d om;obtain⟨m,VL⟩:=hS.post (i+1) q c cs' val cy ai aQ (tp v T d) Nf s7 OF Z4;have Z5:Rec S H' q cy ai:=by
   refine⟨aQ,tp v T d,val,s7,OF,lU,RR,fun b b' hb=>?_,EC,hle.m.trans jF.m⟩;subst K7;rcases JK b b' hb with h|h|h
   ·exact .inl h
   ·exact .inr (.inr (.inl h.1))
   ·exact .inr (.inr (.inr ⟨rfl,h⟩))
  have Z6:H'.W.Ok S.G:=by subst K7;exact Au
  refine EH hS ha bt aB cq aL hi hg hD hgo hc (.post hq (by subst K7;exact .inr ⟨rfl,rfl⟩) VL) (fun e he=>?_) (by rw [hX];rfl) Z6 (fun k b hb=>?_) (sZ hf _ S.hG.ch fun h=>(GC _ h).2.2.2 rfl) (fun b hb=>?_) (fun q' v' h=>?_) (by subst K7;rfl) (fun k q h=>by subst K7;exact h)
   (sZ hf _ S.hG.wg fun h=>(GC _ h).2.1 rfl) nofun (RP m)
  ·refine Aw (Ju S.hG (k:=i+1) (W:=H'.W) ⟨fun b b' hb=>?_,fun b hb=>?_,fun a u hu=>(S.hm a u (by rw [hle.m.trans jF.m] at hu;exact hu)).1⟩ (RQ e (nZ _ _ e he)) (VK lU) (ahZ aB.kn.lo hf.size))
   ·subst K7;rcases JK b b' hb with h|h|h
    ·exact .inl h
    ·exact .inr (.inl h.1)
    ·exact .inr (.inr ⟨rfl,h⟩)
   ·obtain⟨c,e,h⟩:=hx b hb;exact⟨c,e,_,h,.inl rfl⟩
  ·subst K7;rcases hb with hb|⟨_,_,hb⟩
   ·exact ahv (B.ownLt k b hb) hf.size
   ·exact hb
  ·subst K7;rcases hb with hb|hb
   ·obtain⟨k,hk⟩:=B.retOwn b hb;exact⟨k,.inl hk⟩
   ·exact⟨_,hb⟩
  ·subst K7;rcases h with h|⟨rfl,rfl⟩
   ·exact .inl h
   ·exact .inr Z5
 ·
  have tP:Acc (Lt P) (lr,cg):=hA.inv s.lt;have Dw:Zoned S.G cg:=fun b hb=>by
   obtain⟨c,e,z,h1,h2⟩:=hz b hb;obtain⟨c',z',h3,h4⟩:=s.keep.row b c e z h1;exact⟨c',e,z',h3,by rw [h4.size];exact h2.trans h4.zone⟩
  have EC:Exact S.G cg:=As tP s.runs (jF.mono s.le) s.fr s.cs s.wr Dw;have PN:=CR hx EC s.keep;obtain⟨Z8,bc⟩:=Nh.step S.hK S.hB iY mY (by obtain⟨QH,_⟩:=s.lt;exact QH) s.step;have RR:¬ aQ.eq:=by rw [s.le.eq];exact cr
  have Au:=EF (S:=S) B.own (k:=i+1) (b:=ai.heap.size) B.ownLt aB.kn.lo;have hc:Chg S (i+1) none H w (H.grow (i+1) w.heap.size ai.heap.size) ai:=EG S.hG aB.kn cr s.le Ax s.wr s.frame s.fz hx EC PN bc Ng B.own rfl rfl (fun _ h=>h) (fun _ h=>.inl h) (fun _ _ h=>h);have JK:=vC (S:=S) s.wr s.frame Ng;refine EH hS ha bt aB cq aL hi hg hD s.step hc (.job tP hq ⟨aQ,ij.1,ij.2,c,cs',rfl,Nf,s.runs,RR,jF.mono s.le,s.fr,s.cs,s.wr,fun b b' hb=>?_,Dw,Z8.mono fun b' h=>?_⟩) (fun e he=>?_) (by rw [hX];rfl) Au (fun k b hb=>?_) (sZ s.frame _ S.hG.ch fun h=>(GC _ h).2.2.2 rfl) (fun b hb=>?_) (fun q v h=>.inl h) rfl (fun _ _ h=>h)
   (sZ s.frame _ S.hG.wg fun h=>(GC _ h).2.1 rfl) nofun (Z3 _ tP s.lt)
  ·rcases JK b b' hb with h|h|h
   ·exact .inl h
   ·exact .inr ⟨.inl h.1,h.2⟩
   ·refine .inr ⟨.inr ⟨rfl,h⟩,fun hr=>?_⟩;obtain⟨k,hk⟩:=B.retOwn b' hr;have:=B.ownLt k b' hk;omega
  ·rcases h with h|h
   ·exact⟨.inl h.1,h.2⟩
   ·refine⟨.inr ⟨rfl,h⟩,fun hr=>?_⟩;obtain⟨k,hk⟩:=B.retOwn b' hr;have:=B.ownLt k b' hk;omega
  ·refine Aw (Ju S.hG (k:=i+1) (W:=(H.grow (i+1) w.heap.size ai.heap.size).W) ⟨fun b b' hb=>?_,fun b hb=>?_,fun a u hu=>(S.hm a u (by rw [s.le.m.trans jF.m] at hu;exact hu)).1⟩ (s.evs e (nZ _ _ e he)) (VK s.wr) (ahZ aB.kn.lo s.frame.size))
   ·rcases JK b b' hb with h|h|h
    ·exact .inl h
    ·exact .inr (.inl h.1)
    ·exact .inr (.inr ⟨rfl,h⟩)
   ·obtain⟨c,e,h⟩:=hx b hb;exact⟨c,e,_,h,.inl rfl⟩
  ·rcases hb with hb|⟨_,_,hb⟩
   ·exact ahv (B.ownLt k b hb) s.frame.size
   ·exact hb
  ·obtain⟨k,hk⟩:=B.retOwn b hb;exact⟨k,.inl hk⟩
end
end CO
