/- Part of the proof. -/
import Derived.Test.YtmbbagbhmjaedaaGreatDoorCdi
set_option linter.all false
namespace CO
open Go Go.Conc Go.ConcN
open Go.ConcR (KK WgAt stA smA rd wr mk DC0 g_of_ofEvents)
section
variable {P:Program} {S:gE P} {H H':Gh} {gs:Array Goroutine} {w w':World} {sl:Option (Nat×Nat)} {j:Nat} {D:Nat->WD} {X:Nat->WX P} {tag:CTag} {f0 d0:Nat} {a:Goroutine} {t u:Trace} {st sm:Int} {left:List Nat}
theorem RU(hS:S.Ok)(ha:gs[0]?=some a)(bt:CSit S tag j f0 d0 a w)(aB:Com S H j gs w t D X d0 left)(i r:Nat)(s:Bool):partners (gs.setIfInBounds i ph) r s=[]:=by
 refine partners_nil fun k g hg=>?_;rcases getElem?_stand gs i k g hg with⟨_,rfl⟩|⟨_,hg⟩
 ·rfl
 ·cases k with
  | zero =>
   rw [ha] at hg;cases hg;rcases bt.status hS with⟨hs,_⟩|⟨_,rfl⟩
   ·exact offersAt_of_not_blocked (by rw [hs];decide) r s
   ·cases bt with
    | blk hb =>
     have h3:=(hb w (dZ.refl w)).2.1;unfold offersAt;simp only [h3]
  | succ k =>
   have aA:k<j:=by have:=(ahx.1 hg).1;rw [aB.size] at this;omega
   obtain⟨g',dm,hs⟩:=aB.wk k aA;rw [hg] at dm;cases dm;rcases hs.status hS with h|h<;>exact offersAt_of_not_blocked (by rw [h];decide) r s
theorem s8(hS:S.Ok)(ha:gs[0]?=some a)(bt:CSit S tag j f0 d0 a w)(aB:Com S H j gs w t D X d0 left)(cq:WgAt S.ty S.G.Wg w st sm)(aL:Mode j D tag st sm)
  {i:Nat} (hi:i<j) {g':Goroutine} {m':Nat} {y':WX P} {left':List Nat} (hD:(D i).stage=7/\(D i).deaf=0) (aD:runT P (crowd gs w sl) (i+1)=(.next (crowd (gs.setIfInBounds (i+1) g') w' sl),u))
  (c:Chg S (i+1) none H w H' w') (dz:WSit S H' (i+1) ⟨7,m',0⟩ y' g' w') (hu:∀ op∈u,op.g=i+1/\op.act.touch?=none/\(∀ m,op.act≠.mark m)/\op.act.low w'.heap.size)
  (pc:(∀ op∈u,OkW (ShN S.G.Wg) (lY S.G H'.W) (yj S.G) (i+1) op)->lu S H' j (upd X i y') left' w' (t++u)) (oA:∀ k q,H'.W.tk k q->H.W.tk k q∨(k=i+1/\q∈left)) (nv:y'=.fin->left'=[]) (hl:left=[]->left'=[]) (hle:left'.length<=left.length)
  (Z2:w'.heap[S.G.Wg]?=w.heap[S.G.Wg]?) (aA:nY P (ik ⟨7,m',0⟩ y') (ik (D i) (X i))∨left'.length<left.length):Done S (mu S j D X left tag f0) (crowd gs w sl) (i+1) t:=by
 have hok:∀ op∈u,OkW (ShN S.G.Wg) (lY S.G H'.W) (yj S.G) (i+1) op:=fun op bU=>⟨(hu op bU).1,fun x hx=>by rw [(hu op bU).2.1] at hx;cases hx⟩;have PO:=aL.same (i:=i) m' 0;rw [hD.1] at PO;refine⟨_,_,_,aD,.single (pd (tag':=tag) (f':=f0) hi hle aA),⟨_,w',sl,H',j,_,_,left',tag,f0,d0,a,st,sm,rfl,by rw [ahw ae];exact ha,bt.rely (c.rbs ae),?_,Z2.trans cq,PO,fun e=>absurd e (aL.not_ret hi ae),rfl⟩⟩;refine aB.stepW S.hG hi ag (by rw [ahS (by rw [aB.size];omega)]) (fun b hb cr x hx=>by rw [ahw ae];exact hx) c dz hok (fun op bU=>(hu op bU).2.2.1 _) ?_ (fun h=>absurd h (show ¬ 7<=6 by omega)) (od fun op bU=>(hu op bU).2.2.2) (fun op bU x hx=>by rw [(hu op bU).2.1] at hx;cases hx) (pc hok) oA (fun h=>h.elim (fun h=>absurd h (show ¬ 7<=6 by omega)) nv) hl;rw [Deaf_still t (i+1) u fun op bU=>⟨(hu op bU).2.2.1 _,(hu op bU).2.2.1 _⟩,aB.deafW i hi];exact hD.2
theorem OG(hS:S.Ok)(ha:gs[0]?=some a)(bt:CSit S tag j f0 d0 a w)(aB:Com S H j gs w t D X d0 left)(cq:WgAt S.ty S.G.Wg w st sm)(aL:Mode j D tag st sm)
  {i:Nat} (hi:i<j) {g:Goroutine} (hg:gs[i+1]?=some g) {m:Nat} (Tf:D i=⟨7,m,0⟩) (hX:X i=.recv) (hr:S.Recv (i+1) g):Done S (mu S j D X left tag f0) (crowd gs w sl) (i+1) t:=by
 have cH:=hS.recv (i+1) g w hr;have xq:stepG P (i+1==0) g w=.comm g #[rcase S.G.Ch S.z] true (.recv true) w #[]:=by simpa using cH
 have B:=aB.book;obtain⟨cap,s,r,vl⟩:=B.ch;have dJ:=RU hS ha bt aB (i+1) S.G.Ch true;have Xq:S.G.Ch<w.heap.size:=bW vl
 cases oh:left with
 | nil =>
  subst oh;simp only [List.map_nil] at vl;have aD:=crowd_recv_closed (P:=P) (sl:=sl) hg xq vl dJ;rw [finishComm_recv] at aD;obtain⟨m2,h2⟩:=hS.fin (i+1) g w hr aB.kn;refine s8 hS ha bt aB cq aL hi (by rw [Tf];exact⟨rfl,rfl⟩) aD (.refl) (.fin h2) (fun op bU=>?_) (fun hok=>B.same S.hG aB.kn hi (by rw [hX];rfl) (.refl) B.own B.ownLt rfl B.retOwn (fun q v h=>.inl h) rfl (fun _ _ h=>h) hok) (fun _ _ h=>.inl h) (fun _=>rfl) id (ahr _) rfl (.inl (by rw [Tf,hX];exact Prod.Lex.left _ _ af));simp [MemOp.ofEvents] at bU;subst bU;exact⟨rfl,rfl,ag,Xq⟩
 | cons q vD =>
  subst oh;have aD:=crowd_recv_buf (P:=P) (sl:=sl) hg xq vl ag dJ;rw [finishComm_recv] at aD;have e1:((((q::vD).map fun q:Nat=>Value.int .i64 q).toArray).extract 1 (((q::vD).map fun q:Nat=>Value.int .i64 q).toArray).size)=(vD.map fun q:Nat=>Value.int .i64 q).toArray:=by
   generalize (fun q:Nat=>Value.int .i64 q)=f;simp;rw [aiM ag]
  have e2:(((q::vD).map fun q:Nat=>Value.int .i64 q).toArray).getD 0 undef=.int .i64 q:=ag;rw [e1,e2] at aD;obtain⟨w1,lU⟩:∃ w1,w1=w.setChan S.G.Ch cap (vD.map fun q:Nat=>Value.int .i64 q).toArray true s (r+1) false:=⟨_,rfl⟩;rw [<- lU] at aD;have bc:w1.heap.size=w.heap.size:=by rw [lU];simp [World.setChan]
  have hblk:∀ b,b≠S.G.Ch->w1.heap[b]?=w.heap[b]?:=fun b hb=>by rw [lU];simp [World.setChan,ahw (Ne.symm hb)]
  have BH:w1.heap[S.G.Ch]?=some (.chan cap (vD.map fun q:Nat=>Value.int .i64 q).toArray true s (r+1) false):=by rw [lU];simp [World.setChan,Xq]
  have GC:∀ b,S.G.Sh b->b<S.G.Lo/\b≠S.G.Wg/\b≠S.G.O/\b≠S.G.Ch:=fun b hb=>S.hG.sh b (S.hG.rd b hb);have hc:Chg S (i+1) none H w (H.take (i+1) q) w1 :=
   ⟨⟨fun b _ _ h1 _=>hblk b h1⟩,Nat.le_of_eq bc.symm,fun b hb _ _=>hblk b (by have:=S.hG.ch;omega),fun cs e z h1=>⟨cs,by rw [hblk _ (Ne.symm S.hG.co)];exact h1,rfl,fun _ _=>rfl⟩,
    fun⟨st,sm,h⟩=>⟨st,sm,(hblk _ S.hG.wc).trans h⟩,fun _ _ h=>h,fun _ _ h=>.inl h,fun _ h=>h,fun _ h=>.inl h,fun _ _ h=>.inl h,fun _ _ h=>h,nofun,fun _=>by rw [lU];exact⟨rfl,rfl⟩⟩
  have hq:q<S.N:=B.leftOk q ahU;obtain⟨m2,h2⟩:=hS.pre (i+1) g q w1 hr hq (aB.kn.rb hc.rb);have hu:∀ op∈MemOp.ofEvents (i+1) g.frame.fn g.frame.place #[]++#[({ g:=i+1,fn:=g.frame.fn,pos:=g.frame.place,act:=.recv S.G.Ch r cap }:MemOp),{ g:=i+1,fn:=g.frame.fn,pos:=g.frame.place,act:=.recvDone S.G.Ch r }],op.g=i+1/\op.act.touch?=none/\(∀ m,op.act≠.mark m)/\op.act.low w1.heap.size:=by
   intro op bU;simp [MemOp.ofEvents] at bU;rcases bU with rfl|rfl
   ·exact⟨rfl,rfl,ag,bc▸Xq⟩
   ·exact⟨rfl,rfl,ag,bc▸Xq⟩
  exact s8 hS ha bt aB cq aL hi (by rw [Tf];exact⟨rfl,rfl⟩) aD hc (.pre hq h2) hu (fun hok=>B.got S.hG aB.kn hi (by rw [hX];rfl) hc bc.symm ⟨cap,s,r+1,BH⟩ hok fun op bU x hx=>by rw [(hu op bU).2.1] at hx;cases hx)
   (fun k q' h=>h.elim .inl fun(h:k=i+1/\q'=q)=>.inr ⟨h.1,by rw [h.2];exact ahU⟩) nofun nofun ag (hblk _ S.hG.wc) (.inr ag)
theorem qM{m m':Nat}(h:m'<m)(X:WX P)(hX:∀ q p,X≠.job q p):nY P (ik ⟨7,m',0⟩ X) (ik ⟨7,m,0⟩ X):=by
 cases X with
 | job q p=>exact absurd rfl (hX q p)
 | _=>exact Prod.Lex.right _ (Prod.Lex.right _ h)
set_option maxHeartbeats 1600000 in
theorem stepWorker(hS:S.Ok)(hn:S.n<2147483648)(ha:gs[0]?=some a)(bt:CSit S tag j f0 d0 a w)(aB:Com S H j gs w t D X d0 left)(cq:WgAt S.ty S.G.Wg w st sm)(aL:Mode j D tag st sm)
  (fR:tag=.ret->AcqAll S.G.Wg j t) {i:Nat} (hi:i<j) {g:Goroutine} (hg:gs[i+1]?=some g) (aD:g.status=.running):Done S (mu S j D X left tag f0) (crowd gs w sl) (i+1) t:=by
 obtain⟨Z9,OH,hs⟩:=aB.wk i hi;obtain rfl:g=Z9:=by rw [hg] at OH;exact ah6 OH
 have rf:∀ q,RB S.G S.ty q w w:=fun q=>RB.refl w;have B:=aB.book;generalize hD:D i=Di at hs;generalize hX:X i=Xi at hs;have Iq:=hs
 cases hs with
 | @recv m _ _ h =>
  rcases Goes.cases h with bD|⟨m',rfl,bp⟩
  ·exact OG hS ha bt aB cq aL hi hg hD hX (bD w (rf _))
  ·obtain⟨g',w',es,hgo,RO,dm⟩:=bp w (rf _);exact JI hS ha bt aB cq aL hi hg hD hX hgo RO (.recv dm) nofun (qM (aiE _) _ nofun)
 | @pre q m _ _ hq h =>
  rcases Goes.cases h with bD|⟨m',rfl,bp⟩
  ·obtain⟨c,cs,Nf,rfl⟩:=bD w (rf _);obtain⟨ρ,v,hr,cr,jF,iY,Ax,Ng,hz⟩:=hS.view q w hq aB.kn;have hA:Acc (Lt P) ((Frame.enter P S.fdo #[S.arg q] .normal,[bX P]),v):=hr.acc fun x w h=>by obtain⟨val,h,_⟩:=h;exact h.leaving
   refine VJ hS ha bt aB cq aL hi hg (by rw [hD];exact⟨rfl,rfl⟩) hq (by rw [hX];rfl) hA ⟨ρ,_,_,c,cs,rfl,Nf,hr,cr,jF,iY,.nil,Ax,fun b b' hb=>.inl (Ng b b' hb),hz,(hS.viewZ q w (c::cs) hq aB.kn).mono fun _ h=>h.elim⟩ (fun y hy _=>?_) fun m=>?_
   ·rw [hD,hX];exact Prod.Lex.left _ _ af
   ·rw [hD,hX];exact Prod.Lex.left _ _ af
  ·obtain⟨g',w',es,hgo,RO,dm⟩:=bp w (rf _);exact JI hS ha bt aB cq aL hi hg hD hX hgo RO (.pre hq dm) nofun (qM (aiE _) _ nofun)
 | job hA hq h =>
  refine VJ hS ha bt aB cq aL hi hg (by rw [hD];exact⟨rfl,rfl⟩) hq (by rw [hX];rfl) hA h (fun y hy aA=>?_) fun m=>?_
  ·rw [hD,hX];exact Prod.Lex.right _ (Prod.Lex.left _ _ (.mk aA))
  ·rw [hD,hX];exact Prod.Lex.left _ _ af
 | @post q m cy _ _ hq hv h =>
  rcases Goes.cases h with bD|⟨m',rfl,bp⟩
  ·obtain⟨F0,tO⟩:=bD w (rf _);have SK:=B.store hi (by rw [hX];rfl) hv tO;have hD':upd D i ⟨7,0,0⟩ i=⟨7,0,0⟩:=upd_same _ _ _;have aaa:WSit S { H with stored:=fun q'=>H.stored q'∨q'=q } (i+1) ⟨7,0,0⟩ .recv g w:=.recv (Goes.stop fun _ _=>F0);have mh:Com S { H with stored:=fun q'=>H.stored q'∨q'=q } j gs w t (upd D i ⟨7,0,0⟩) (upd X i .recv) d0 left:=by
    have:=aB.stepW (S:=S) S.hG hi (gs':=gs) (u:=#[]) (H':={ H with stored:=fun q'=>H.stored q'∨q'=q }) (x':=⟨7,0,0⟩) (y':=.recv) (w':=w) (left':=left) (J:=none) rfl hg (fun _ _ _ _ h=>h)
     ⟨.refl w,ahr _,fun _ _ _ _=>rfl,fun cs e z h=>⟨cs,h,rfl,fun _ _=>rfl⟩,id,fun _ _ h=>h,fun _ _ h=>.inl h,fun _ h=>h,fun _ h=>.inl h,fun _ _ h=>h,fun _ _ h=>h,nofun,fun _=>.refl w⟩ aaa ag ag (by simp only [aij];rw [aB.deafW i hi,hD]) (fun h=>absurd h (show ¬ 7<=6 by omega)) (fun op bU=>by simp at bU) ag (by simpa using SK) (fun _ _ h=>.inl h) (fun h=>h.elim (fun h=>absurd h (show ¬ 7<=6 by omega)) nofun) id
    simpa using this
   have tY:Mode j (upd D i ⟨7,0,0⟩) tag st sm:=by have:=aL.same (i:=i) 0 0;rwa [hD] at this
   obtain⟨m₁,ops,Aq,h1,h2,h3⟩:=OG (sl:=sl) hS ha bt mh cq tY hi hg (upd_same _ _ _) (upd_same _ _ _) F0;refine⟨m₁,ops,Aq,h1,h2.trans (.single (pd hi (ahr _) (.inl ?_))),h3⟩;rw [hD,hX];exact Prod.Lex.left _ _ af
  ·obtain⟨g',w',es,hgo,dI,dm⟩:=bp w (rf _);have oA:=B.tkOf i hi q (by rw [hX];rfl);have pv:=B.heldNot i hi q (by rw [hX];rfl);have GC:∀ b,S.G.Sh b->b<S.G.Lo/\b≠S.G.Wg/\b≠S.G.O/\b≠S.G.Ch:=fun b hb=>S.hG.sh b (S.hG.rd b hb);have hc:Chg S (i+1) (some q) H w H w':=by
    refine .idle ⟨fun b _ _ _ h1=>dI.block b h1⟩ dI.size.symm (fun b hb=>dI.block b (by have:=S.hG.o;omega)) (fun cs e z h1=>?_) (fun⟨st,sm,h⟩=>⟨st,sm,(dI.block _ S.hG.wo).trans h⟩) (fun q' e=>by cases e;exact⟨oA,pv⟩) fun _=>dI.out2;obtain⟨cs',h2,h3,h4⟩:=dI.out cs e z h1;exact⟨cs',h2,h3,fun off FI=>h4 off (FI q rfl)⟩
   refine EH hS ha bt aB cq aL hi hg (by rw [hD];exact⟨rfl,rfl⟩) hgo hc (.post hq hv dm) (fun e he=>?_) (by rw [hX]) B.own (fun k b hb=>dI.size▸B.ownLt k b hb) (dI.block _ S.hG.co) B.retOwn (fun q v h=>.inl h) rfl (fun _ _ h=>h) (dI.block _ S.hG.wo) nofun (by rw [hD,hX];exact qM (aiE _) _ nofun);rcases dI.evs e he with⟨b,rfl,hb⟩|⟨off,wr,tO,rfl⟩
   ·refine Aw ⟨⟨fun fn pos=>⟨rfl,fun x hx=>?_⟩,ag,ag,ag⟩,ahv (S.hG.sh _ hb).1 (dI.size▸aB.kn.lo),fun x hx=>by(have eQ:some (⟨.cell b,false,.plain⟩:Touch)=some x:=hx);cases eQ;simp⟩;have eQ:some (⟨.cell b,false,.plain⟩:Touch)=some x:=hx;cases eQ;exact .inr (.inr ⟨⟨b,rfl,hb⟩,rfl⟩)
   ·refine Aw ⟨⟨fun fn pos=>⟨rfl,fun x hx=>?_⟩,ag,ag,ag⟩,ahv S.hG.o (dI.size▸aB.kn.lo),fun x hx=>by(have eQ:some (⟨.cell ⟨S.G.O,off,none⟩,wr,.plain⟩:Touch)=some x:=by cases wr<;>exact hx);cases eQ;simp⟩;have eQ:some (⟨.cell ⟨S.G.O,off,none⟩,wr,.plain⟩:Touch)=some x:=by cases wr<;>exact hx
    cases eQ;exact .inr (.inl (.inl ⟨_,rfl,.inr ⟨rfl,q,oA,tO⟩⟩))
 | @fin m _ _ h =>
  have oh:left=[]:=aB.done i hi (.inr hX);rcases Goes.cases h with bD|⟨m',rfl,bp⟩
  ·obtain⟨_,g',hgo,m₂,hk⟩:=bD w (rf _);have hok:=okW_none (Wg:=S.G.Wg) (Own:=lY S.G H.W) (Rd:=yj S.G) (k:=i+1) (fn:=g.frame.fn) (pos:=g.frame.place) (es:=#[mk (.releaseMerge (stA S.G.Wg))]) (by intro e he;simp at he;subst he;rfl)
   refine sW hS ha bt aB hi hg hgo (.refl) (.k1 hk) hok (by intro e he;simp at he;subst he;simp [mk]) (by rw [hD];rfl) (fun _=>⟨t.size,RelBy.new (by rw [aB.deafW i hi,hD]) _ _⟩) (od (xM fun e he=>?_)) (fun op ho x hx=>by
    rw [ofEvents_eq] at ho
    simp [Go.ConcR.ofEvent_mk] at ho
    subst ho;cases hx) (B.same S.hG aB.kn hi (by rw [hX];rfl) (.refl) B.own B.ownLt rfl B.retOwn (fun q v h=>.inl h) rfl (fun _ _ h=>h) hok) (fun _ _ h=>h) (fun _=>oh) cq
    (fun _ ht _=>(aL.counted hi (by rw [hD];show 5<=7;omega) (.inl rfl) _ _).retag ht) (fun e=>absurd e (aL.not_ret hi (by rw [hD];show 7≠1;omega))) (by rw [hD,hX];exact Prod.Lex.left _ _ (show 6<9 by omega))
   simp at he;subst he;exact aB.JE hS
  ·obtain⟨g',w',es,hgo,RO,dm⟩:=bp w (rf _);exact JI hS ha bt aB cq aL hi hg hD hX hgo RO (.fin dm) (fun _=>oh) (qM (aiE _) _ nofun)
 | k1 h=>exact pf hS hn ha bt aB cq aL fR hi hg aD hX (hD▸Iq)
 | d1 h=>exact pf hS hn ha bt aB cq aL fR hi hg aD hX (hD▸Iq)
 | d2 h=>exact pf hS hn ha bt aB cq aL fR hi hg aD hX (hD▸Iq)
 | d3 h=>exact pf hS hn ha bt aB cq aL fR hi hg aD hX (hD▸Iq)
 | d4 h=>exact pf hS hn ha bt aB cq aL fR hi hg aD hX (hD▸Iq)
 | quit h=>exact pf hS hn ha bt aB cq aL fR hi hg aD hX (hD▸Iq)
end
end CO
namespace CO
open Go Go.Conc Go.ConcN
open Go.ConcR (KK WgAt stA smA rd wr mk DC0 g_of_ofEvents Bk ofEvent_mk ofEvent_loc_mark)
section
variable {P:Program} {S:gE P} {H:Gh} {gs:Array Goroutine} {w w':World} {sl:Option (Nat×Nat)} {j:Nat} {D:Nat->WD} {X:Nat->WX P} {tag tag':CTag} {f0 f' d0:Nat} {a a':Goroutine} {t u:Trace} {st sm vA vB:Int} {left:List Nat} {es:Array Event}
theorem iG(hS:S.Ok)(ha:gs[0]?=some a)(aB:Com S H j gs w t D X d0 left)(cq:WgAt S.ty S.G.Wg w st sm)(aL:Mode j D tag st sm)(fR:tag=.ret->AcqAll S.G.Wg j t)
  (hgo:stepG P true a w=.go a' w' es) (hD:DS S.G w w' es) (mY:CSit S tag j f' d0 a' w') (hf:f'<f0):Done S (mu S j D X left tag f0) (crowd gs w sl) 0 t:=by
 obtain⟨hh,HM⟩:=hD;have A:=apart S.hG aB.book.own;have hm:∀ e∈es,e.loc≠.mark .disable/\e.loc≠.mark .enable/\e.loc≠.mark (.release (stA S.G.Wg)):=fun e he=>(HM e he).2;have tR:=aB.JE hS;have bU:∀ op∈MemOp.ofEvents 0 a.frame.fn a.frame.place es,op.g=0/\∀ x,op.act.touch?=some x->∃ b,x.loc=.cell b/\((x.write=false/\S.G.Rd b.block)∨(x.kind≠.plain/\b.block=S.G.Wg)):=fun op bU=>by
  rw [ofEvents_eq] at bU;obtain⟨e,he,rfl⟩:=Array.mem_map.1 bU;refine⟨rfl,fun x hx=>?_⟩;rcases((HM e he).1 a.frame.fn a.frame.place).2 x hx with⟨⟨b,hb,hw⟩,hk⟩|⟨_,h2,h3⟩
  ·exact⟨b,hb,.inr ⟨hk,hw⟩⟩
  ·obtain⟨b,hb,hr⟩:=Classical.not_not.1 (h2 1 (ahr _) (ahr _));refine⟨b,hb,.inl ⟨?_,hr⟩⟩
   cases hxw:x.write with
   | false=>rfl
   | true=>exact absurd ⟨b,hb,hr⟩ (h3 hxw 1 (ahr _) (ahr _))
 have c:Chg S 0 none H w H w':=.more S.hG aB.kn hh fun h=>absurd rfl h;refine pe hS ha aB hgo c (hh _ (ahv S.hG.ch aB.kn.lo)) (fun op ho=>⟨(bU op ho).1,fun x hx=>?_⟩) (fun e he=>(hm e he).2.2) (fun op ho x hx b hb e=>?_) (fun op ho x hx=>?_) (by rw [deafBehind_idle (fun e he=>⟨(hm e he).1,(hm e he).2.1⟩) d0];exact mY) ((hh _ tR).trans cq) aL (fun e=>(fR e).app fun i r _ hr=>hr.appOther g_of_ofEvents ae) (.inr ⟨rfl,hf⟩)
 ·obtain⟨b,hl,h⟩:=(bU op ho).2 x hx;rcases h with⟨hw,hb⟩|⟨hk,hb⟩
  ·have hr:∀ k,yj S.G k x.loc:=fun k=>⟨b,hl,hb⟩;exact .inr ⟨A.rdSh 0 _ (hr 0),fun k _ _ ho=>A.ownRd k 0 _ ho (hr 0),fun h=>by rw [hw] at h;cases h⟩
  ·exact .inl ⟨⟨b,hl,hb⟩,hk⟩
 ·obtain⟨b',hl,h⟩:=(bU op ho).2 x hx;rw [hl] at e;cases e;rcases h with⟨_,hr⟩|⟨_,hr⟩
  ·exact(S.hG.sh _ hr).2.2.1 hb
  ·exact S.hG.wo (hr.symm.trans hb)
 ·obtain⟨b,hl,h⟩:=(bU op ho).2 x hx;rw [hl];rcases h with⟨_,hr⟩|⟨_,hr⟩
  ·exact ahv (ahv (S.hG.sh _ hr).1 aB.kn.lo) c.size
  ·show b.block<_;rw [hr];exact ahv tR c.size
theorem jz(hS:S.Ok)(ha:gs[0]?=some a)(aB:Com S H j gs w t D X d0 left)(hgo:stepG P true a w=.go a' w' es)(B7:Aside S.G.Wg w w')(uE:WgAt S.ty S.G.Wg w' vA vB)(pc:∀ e∈es,Bk S.G.Wg e)
  (mY:CSit S tag' j f' (deafBehind d0 es) a' w') (sX:Mode j D tag' vA vB) (cr:tag'≠.ret) (aA:lx (Vc j D) tag'<lx (Vc j D) tag):Done S (mu S j D X left tag f0) (crowd gs w sl) 0 t:=by
 refine pe hS ha aB hgo (.group S.hG B7 ⟨_,_,uE⟩) (B7.block _ (Ne.symm S.hG.wc)) (ok0_of_Bk pc) (norel_of_Bk pc) (fun op ho x hx b hb e=>?_) (od (xM fun e he=>JD (pc e he) (B7.size▸aB.JE hS))) mY uE sX (fun e=>absurd e cr) (.inl aA);rw [ofEvents_eq] at ho;obtain⟨ev,he,rfl⟩:=Array.mem_map.1 ho;rcases pc ev he with h|h|⟨c,wr,rfl,hc⟩
 ·rw [ofEvent_loc_mark h] at hx;cases hx
 ·rw [ofEvent_loc_mark h] at hx;cases hx
 ·have:some (⟨.cell c,wr,.atomic⟩:Touch)=some x:=by cases wr<;>exact hx
  cases this;cases e;exact S.hG.wo (hc.symm.trans hb)
theorem w1S(hS:S.Ok)(hn:S.n<2147483648)(ha:gs[0]?=some a)(aB:Com S H S.n gs w t D X 1 left)(cq:WgAt S.ty S.G.Wg w st sm)(aL:Mode S.n D .w1 st sm)
  (h:Goes P true (dZ S.G S.ty) (DS S.G) (RM P S.ty S.G.Wg (dZ S.G S.ty) (DS S.G) S.End S.AnchW) f0 a w):Done S (mu S S.n D X left .w1 f0) (crowd gs w sl) 0 t:=by
 rcases Goes.cases h with bD|⟨m',rfl,bp⟩
 ·obtain⟨_,cZ⟩:=bD w (dZ.refl w);obtain⟨ho,rfl,rfl,_⟩:=aL.open_inv trivial;have hV:=Vc_le S.n D;obtain⟨a',hgo,h0,cr⟩:=cZ (Vc S.n D) ae (by simpa [pend] using cq);by_cases hv:Vc S.n D=0
  ·obtain⟨m₂,hk⟩:=h0 hv;refine jz hS ha aB hgo (.refl S.G.Wg w) cq bk_rd (tag':=.ke) (.ke hk) ?_ ag (show 3<8 by omega);have e:((Vc S.n D+pend .w1:Nat):Int)*KK=0:=by rw [hv];simp [pend]
   rw [e];exact .fin trivial (allQuit_of ho hv)
  ·obtain⟨m₂,hk⟩:=cr hv;exact jz hS ha aB hgo (.refl S.G.Wg w) cq bk_rd (tag':=.w2 (Vc S.n D)) (.w2 hk) (aL.reopen trivial trivial rfl (fun vs e=>by cases e;omega)) ag (by simp [lx])
 ·obtain⟨a',w',es,hgo,hD,dm⟩:=bp w (dZ.refl w);exact iG hS ha aB cq aL ag hgo hD (.w1 dm) ae
set_option maxHeartbeats 1600000 in
theorem Ay(hS:S.Ok)(hn:S.n<2147483648)(ha:gs[0]?=some a)(bt:CSit S tag j f0 d0 a w)(aB:Com S H j gs w t D X d0 left)(cq:WgAt S.ty S.G.Wg w st sm)(aL:Mode j D tag st sm)
  (fR:tag=.ret->AcqAll S.G.Wg j t) (aD:a.status=.running):(tag=.ret/\j=S.n/\S.End a w)∨Done S (mu S j D X left tag f0) (crowd gs w sl) 0 t:=by
 have hVj:=Vc_le j D;have rf:dZ S.G S.ty w w:=dZ.refl w
 cases bt with
 | skd hr h =>
  rcases Goes.cases h with bD|⟨m',rfl,bp⟩
  ·obtain⟨_,a',hgo,m₂,hk⟩:=bD w rf;exact .inr (jz hS ha aB hgo (.refl S.G.Wg w) cq bk_dis (.sa1 hr hk) (aL.reopen trivial trivial rfl ag) ag (by simp [lx]))
  ·obtain⟨a',w',es,hgo,hD,dm⟩:=bp w rf;exact .inr (iG hS ha aB cq aL ag hgo hD (.skd hr dm) ae)
 | sa1 hr h =>
  rename_i r;rcases Goes.cases h with bD|⟨m',rfl,bp⟩
  ·obtain⟨_,cZ⟩:=bD w rf;obtain⟨ho,rfl,rfl,_⟩:=aL.open_inv trivial;obtain⟨a',hgo,m₂,hk⟩:=cZ (Vc (S.n-(r+1)) D) ae (by simpa [pend] using cq);refine .inr (jz hS ha aB hgo (aside_setCell w (stA S.G.Wg) _) (cq.setSt _) bk_rw (.ske hr hk) ?_ ag (by simp [lx]));have e:(((Vc (S.n-(r+1)) D:Nat):Int)+1)*KK=((Vc (S.n-(r+1)) D+pend (.sp r 3):Nat):Int)*KK:=by simp [pend]
   rw [e];exact .opn trivial ho ag
  ·obtain⟨a',w',es,hgo,hD,dm⟩:=bp w rf;exact .inr (iG hS ha aB cq aL ag hgo hD (.sa1 hr dm) ae)
 | ske hr h =>
  rcases Goes.cases h with bD|⟨m',rfl,bp⟩
  ·obtain⟨_,a',hgo,m₂,hk⟩:=bD w rf;exact .inr (jz hS ha aB hgo (.refl S.G.Wg w) cq bk_en (.sgo hr hk) (aL.reopen trivial trivial rfl ag) ag (by simp [lx]))
  ·obtain⟨a',w',es,hgo,hD,dm⟩:=bp w rf;exact .inr (iG hS ha aB cq aL ag hgo hD (.ske hr dm) ae)
 | sgo hr h =>
  rename_i r;rcases Goes.cases h with bD|⟨m',rfl,bp⟩
  ·obtain⟨_,a',child,Ms,_,aab,OI⟩:=bD w rf;obtain⟨m₂,QJ⟩:=aab;obtain⟨ho,rfl,rfl,_⟩:=aL.open_inv trivial;have sY:=runT_crowd_spawn (P:=P) (sl:=sl) (i:=0) ha (by simpa using Ms);rw [aB.size] at sY;have mh:=aB.spawn S.hG (a':=a') (x:={ g:=0,fn:=a.frame.fn,pos:=a.frame.place,act:=.go (S.n-(r+1)+1) }) (y:={ g:=S.n-(r+1)+1,fn:=child.frame.fn,pos:=a.frame.place,act:=.start }) ⟨rfl,rfl⟩ ⟨rfl,rfl⟩ QJ;have eV:Vc (S.n-(r+1)+1) (upd D (S.n-(r+1)) ⟨7,m₂,0⟩)=Vc (S.n-(r+1)) D+1:=by
    simp only [Vc,sumTo,upd_same];rw [sumTo_upd_out D _ cnt (ahr _)];rfl
   have ho':OpenSt (S.n-(r+1)+1) (upd D (S.n-(r+1)) ⟨7,m₂,0⟩):=fun i hi=>by
    by_cases e:i=S.n-(r+1)
    ·subst e;rw [upd_same];simp
    ·rw [upd_ne D _ e];exact ho i ae
   have Lm:((gs.setIfInBounds 0 a').push child)[0]?=some a':=by
    rw [Array.getElem?_push_lt (by simp [aB.size]),<-ahO];simp [aB.size]
   have ej:S.n-(r+1)+1=S.n-r:=ae;rw [ej] at sY mh eV ho';have est:∀ tag',pend tag'=0->((Vc (S.n-(r+1)) D+pend (.sp r 2):Nat):Int)*KK=((Vc (S.n-r) (upd D (S.n-(r+1)) ⟨7,m₂,0⟩)+pend tag':Nat):Int)*KK:=fun tag' hp=>by rw [eV,hp];simp [pend]
   cases r with
   | zero =>
    obtain⟨JL,hk⟩:=OI;simp only [Nat.sub_zero] at sY mh eV ho' est
    refine .inr ⟨_,_,mu S S.n (upd D (S.n-(0+1)) ⟨7,m₂,0⟩) (upd X (S.n-(0+1)) .recv) left .kd JL,sY,.single (Prod.Lex.left _ _ ae),
     ⟨_,w,sl,H,S.n,_,_,left,.kd,JL,0,a',_,_,rfl,Lm,.kd hk,mh,cq,?_,ag,rfl⟩⟩
    rw [est .kd rfl];exact .opn trivial ho' ag
   | succ r' =>
    obtain⟨JL,hk⟩:=OI
    refine .inr ⟨_,_,mu S (S.n-(r'+1)) (upd D (S.n-(r'+1+1)) ⟨7,m₂,0⟩) (upd X (S.n-(r'+1+1)) .recv) left (.sp r' 5) JL,sY,.single (Prod.Lex.left _ _ ae),
     ⟨_,w,sl,H,S.n-(r'+1),_,_,left,.sp r' 5,JL,0,a',_,_,rfl,Lm,.skd ae hk,mh,cq,?_,ag,rfl⟩⟩
    rw [est (.sp r' 5) rfl];exact .opn trivial ho' ag
  ·obtain⟨a',w',es,hgo,hD,dm⟩:=bp w rf;exact .inr (iG hS ha aB cq aL ag hgo hD (.sgo hr dm) ae)
 | kd h =>
  rcases Goes.cases h with bD|⟨m',rfl,bp⟩
  ·obtain⟨_,a',hgo,m₂,hk⟩:=bD w rf;exact .inr (jz hS ha aB hgo (.refl S.G.Wg w) cq bk_dis (.anch hk) (aL.reopen trivial trivial rfl ag) ag (show 9<11 by omega))
  ·obtain⟨a',w',es,hgo,hD,dm⟩:=bp w rf;exact .inr (iG hS ha aB cq aL ag hgo hD (.kd dm) ae)
 | anch h =>
  rcases Goes.cases h with bD|⟨m',rfl,bp⟩
  ·obtain⟨m₂,hk⟩:=hS.loop a w (bD w rf);obtain⟨m₁,ops,Aq,h1,h2,h3⟩:=w1S (sl:=sl) hS hn ha aB cq (aL.reopen trivial trivial rfl ag) hk;exact .inr ⟨m₁,ops,Aq,h1,h2.trans (.single (sV (.inl (show 8<9 by omega)))),h3⟩
  ·obtain⟨a',w',es,hgo,hD,dm⟩:=bp w rf;exact .inr (iG hS ha aB cq aL ag hgo hD (.anch dm) ae)
 | w1 h=>exact .inr (w1S hS hn ha aB cq aL h)
 | w2 h =>
  rename_i vs;rcases Goes.cases h with bD|⟨m',rfl,bp⟩
  ·obtain⟨_,cZ⟩:=bD w rf;obtain⟨ho,rfl,rfl,yi⟩:=aL.open_inv trivial;obtain⟨hle,h1⟩:=yi vs rfl;obtain⟨aad,VM⟩:=cZ (Vc S.n D) ae (by simpa [pend] using cq);by_cases e:Vc S.n D=vs
   ·obtain⟨a',hgo,m₂,hk⟩:=aad e;exact .inr (jz hS ha aB hgo (aside_setCell w (stA S.G.Wg) _) (cq.setSt _) bk_rw (.w3 hk) (.reg trivial ho ae) ag (by simp [lx,e]))
   ·obtain⟨a',hgo,m₂,hk⟩:=VM e;exact .inr (jz hS ha aB hgo (.refl S.G.Wg w) cq bk_rd (.anch hk) (aL.reopen trivial trivial rfl ag) ag (by simp [lx,Ne.symm e]))
  ·obtain⟨a',w',es,hgo,hD,dm⟩:=bp w rf;exact .inr (iG hS ha aB cq aL ag hgo hD (.w2 dm) ae)
 | w3 h =>
  rcases Goes.cases h with bD|⟨m',rfl,bp⟩
  ·obtain⟨_,FI,hblk,VN⟩:=bD w rf
   cases aL with
   | opn h1 _ _=>exact h1.elim
   | reg h1 h2 h3=>exact .inr (jz hS ha aB (hblk ⟨_,cq⟩) (.refl S.G.Wg w) cq ag (.blk bD) (.reg trivial h2 h3) ag (show 5<6 by omega))
   | last L h1 h2 h3 h4=>exact .inr (jz hS ha aB (hblk ⟨_,cq⟩) (.refl S.G.Wg w) cq ag (.blk bD) (.last L trivial h2 h3 h4) ag (show 5<6 by omega))
   | sema h2 =>
    obtain⟨a',hgo,m₂,hk⟩:=VN cq;exact .inr (jz hS ha aB hgo (aside_setCell w (smA S.G.Wg) _) (cq.setSm 0) bk_sem (.w4 hk) (.fin trivial h2) ag (show 4<6 by omega))
   | fin h1 _=>exact h1.elim
  ·obtain⟨a',w',es,hgo,hD,dm⟩:=bp w rf;exact .inr (iG hS ha aB cq aL ag hgo hD (.w3 dm) ae)
 | blk h=>simp at aD
 | w4 h =>
  rcases Goes.cases h with bD|⟨m',rfl,bp⟩
  ·obtain⟨_,hx⟩:=bD w rf;obtain⟨hq,rfl,rfl⟩:=aL.fin_inv trivial;obtain⟨a',hgo,m₂,hk⟩:=hx cq;exact .inr (jz hS ha aB hgo (.refl S.G.Wg w) cq bk_rd (.ke hk) (.fin trivial hq) ag (show 3<4 by omega))
  ·obtain⟨a',w',es,hgo,hD,dm⟩:=bp w rf;exact .inr (iG hS ha aB cq aL ag hgo hD (.w4 dm) ae)
 | ke h =>
  rcases Goes.cases h with bD|⟨m',rfl,bp⟩
  ·obtain⟨_,a',hgo,m₂,hk⟩:=bD w rf;obtain⟨hq,rfl,rfl⟩:=aL.fin_inv trivial;exact .inr (jz hS ha aB hgo (.refl S.G.Wg w) cq bk_en (.acq hk) (.fin trivial hq) ag (show 2<3 by omega))
  ·obtain⟨a',w',es,hgo,hD,dm⟩:=bp w rf;exact .inr (iG hS ha aB cq aL ag hgo hD (.ke dm) ae)
 | acq h =>
  rcases Goes.cases h with bD|⟨m',rfl,bp⟩
  ·obtain⟨_,a',hgo,m₂,hk⟩:=bD w rf;obtain⟨hq,rfl,rfl⟩:=aL.fin_inv trivial;have ht:∀ op∈MemOp.ofEvents 0 a.frame.fn a.frame.place #[mk (.acquire (stA S.G.Wg))],op.act.touch?=none:=by
    intro op bU;rw [ofEvents_eq] at bU;simp [ofEvent_mk] at bU;subst bU;rfl
   refine .inr (pe hS ha aB hgo (.refl) rfl (ok0_none (by intro e he;simp at he;subst he;rfl)) (by intro e he;simp at he;subst he;simp [mk]) (fun op ho x hx=>by rw [ht op ho] at hx;cases hx) (fun op ho x hx=>by rw [ht op ho] at hx;cases hx) (.ret hk) cq (.fin trivial hq) (fun _=>?_) (.inl (show 1<2 by omega)));have e1:MemOp.ofEvents 0 a.frame.fn a.frame.place #[mk (.acquire (stA S.G.Wg))]=#[{ g:=0,fn:=a.frame.fn,pos:=a.frame.place,act:=.mark (.acquire (stA S.G.Wg)) }]:=by rw [ofEvents_eq];simp [ofEvent_mk]
   have hy:(t++#[({ g:=0,fn:=a.frame.fn,pos:=a.frame.place,act:=.mark (.acquire (stA S.G.Wg)) }:MemOp)])[t.size]?=some { g:=0,fn:=a.frame.fn,pos:=a.frame.place,act:=.mark (.acquire (stA S.G.Wg)) }:=ag;refine⟨t.size,by rw [e1,act?_of hy],by rw [e1];simp [Trace.g?],by rw [e1];exact⟨0,by simp [Trace.g?],by rw [deaf_old (ahr _)];exact aB.deaf0⟩,fun i hi=>?_⟩;obtain⟨r,hr⟩:=aB.rel i hi (by rw [hq i hi];omega);exact⟨r,hr.appOther g_of_ofEvents ae,lt_of_act? hr.act⟩
  ·obtain⟨a',w',es,hgo,hD,dm⟩:=bp w rf;exact .inr (iG hS ha aB cq aL ag hgo hD (.acq dm) ae)
 | ret h =>
  rcases Goes.cases h with bD|⟨m',rfl,bp⟩
  ·exact .inl ⟨rfl,rfl,bD w rf⟩
  ·obtain⟨a',w',es,hgo,hD,dm⟩:=bp w rf;exact .inr (iG hS ha aB cq aL fR hgo hD (.ret dm) ae)
end
end CO
namespace CO
open Go Go.Conc Go.ConcN
open Go.ConcR (KK WgAt stA smA rd wr mk DC0 g_of_ofEvents)
section
variable {P:Program} {S:gE P}
def pg(S:gE P)(m:Machine)(t:Trace):Prop:=∃ (gs:Array Goroutine) (w:World) (sl:Option (Nat×Nat)) (H:Gh) (D:Nat->WD) (X:Nat->WX P) (left:List Nat) (a:Goroutine),
 m=crowd gs w sl/\gs[0]?=some a/\S.End a w/\Com S H S.n gs w t D X 0 left/\AllQuit S.n D/\AcqAll S.G.Wg S.n t
theorem JM(hS:S.Ok)(hn:S.n<2147483648):∀ μ m t,Inv S μ m t->pg S m t∨∃ m' ops Aq,stepT P m=(.next m',ops)/\Relation.TransGen (CN P) Aq μ/\Inv S Aq m' (t++ops):=by
 rintro μ m t ⟨gs,w,sl,H,j,D,X,left,tag,f0,d0,a,st,sm,rfl,ha,bt,aB,cq,aL,fR,rfl⟩;have rf:dZ S.G S.ty w w:=dZ.refl w;by_cases s9:tag=.ret/\S.End a w
 ·obtain⟨rfl,s9⟩:=s9;obtain⟨hq,rfl,rfl⟩:=aL.fin_inv trivial
  cases bt with
  | ret h=>exact .inl ⟨gs,w,sl,H,D,X,left,a,rfl,ha,s9,aB,hq,fR rfl⟩
 ·obtain⟨i,g,d,RV,hg,aD,bp⟩:=crowd_pick (P:=P) (w:=w) (sl:=sl) (all_awake hS ha bt aB) (someone_runs hS ha bt aB aL);rw [bp];have hrb:dZ S.G S.ty w (w.at d):=⟨Chg.rb (Chg.at (S:=S) (H:=H) (k:=0) d),rfl,rfl⟩;have mY:=bt.rely hrb;have mh:=aB.at S.hG d;have uE:WgAt S.ty S.G.Wg (w.at d) st sm:=cq
  cases i with
  | zero =>
   rw [ha] at hg;cases hg;by_cases ht:tag=.ret
   ·subst ht
    cases bt with
    | ret h =>
     rcases Goes.cases h with bD|⟨m',rfl,cH⟩
     ·exact absurd ⟨rfl,bD w rf⟩ s9
     ·obtain⟨a',w',es,hgo,hD,dm⟩:=cH _ hrb;exact .inr (iG hS ha mh uE aL fR hgo hD (.ret dm) ae)
   ·rcases Ay (sl:=RV) hS hn ha mY mh uE aL fR aD with⟨e,_⟩|h
    ·exact absurd e ht
    ·exact .inr h
  | succ i =>
   have hi:i<j:=by have:=(ahx.1 hg).1;rw [aB.size] at this;omega
   exact .inr (stepWorker hS hn ha mY mh uE aL fR hi hg aD)
theorem Ni(hS:S.Ok)(hn:S.n<2147483648){μ:MM P}{m:Machine}{t:Trace}(h:Inv S μ m t):∃ N m' t',runNT P N m t=(.next m',t')/\pg S m' t' :=
 reach_of_inv (Vz P).transGen (Inv S) (pg S) (JM hS hn) μ m t h
theorem WSit.quits{H:Gh}{k:Nat}{D:WD}{X:WX P}{g:Goroutine}{w:World}(h:WSit S H k D X g w)(hs:D.stage=1):QuitsD P D.fuel D.deaf g/\X=.none:=by
 cases h<;>first|exact⟨by assumption,rfl⟩|(exact absurd hs ag)
structure Joined(S:gE P)(gs:Array Goroutine)(w:World)(t:Trace):Prop where
 size:gs.size=S.n+1
 quits:∀ i g,gs[i]?=some g->i≠0->∃ q d,QuitsD P q d g/\Deaf t i=d
 kn:Kn S w
 res:∃ ret:Nat->Prop,(∀ b,ret b->S.G.Lo<=b)/\∀ q,q<S.N->∃ (cy:Value) (ρ:Ren) (v:World) (val:Value),j8 S.G q cy w/\S.Post q val v/\VR ρ val cy/\WR ρ v w/\¬ ρ.eq/\(∀ b b',ρ b b'->(S.G.Sh b'/\b=b')∨ret b')/\Exact S.G v
 past:∃ B,w.heap.size<=B/\Past (ShN S.G.Wg) B t
 gs:∀ (i:Nat) (op:MemOp),t[i]?=some op->op.g<=S.n
theorem joined(hn:0<S.n){m:Machine}{t:Trace}(h:pg S m t):∃ (gs:Array Goroutine) (w:World) (sl:Option (Nat×Nat)) (a:Goroutine),m=crowd gs w sl/\gs[0]?=some a/\S.End a w/\Joined S gs w t:=by
 obtain⟨gs,w,sl,H,D,X,left,a,rfl,ha,s9,aB,hq,fR⟩:=h;have oh:left=[]:=aB.done 0 hn (.inl (by rw [hq 0 hn];decide));have wk:∀ i g,gs[i]?=some g->i≠0->∃ i',i=i'+1/\i'<S.n/\QuitsD P (D i').fuel (D i').deaf g/\X i'=.none:=by
  intro i g hg S1;obtain⟨i',rfl⟩:∃ i',i=i'+1:=⟨i-1,ae⟩;have aA:i'<S.n:=by have:=(ahx.1 hg).1;rw [aB.size] at this;omega
  obtain⟨g',dm,dz⟩:=aB.wk i' aA;rw [hg] at dm;cases dm;exact⟨i',rfl,aA,dz.quits (hq i' aA)⟩
 have xn:∀ i,i<S.n->X i=.none:=fun i hi=>by
  obtain⟨g,hg,hs⟩:=aB.wk i hi;exact(hs.quits (hq i hi)).2
 have B:=aB.book;have kn0:∀ (i g:Nat),t.g? i=some g->g≠0->∃ r,RelBy (stA S.G.Wg) t g r:=fun i g RX cr=>by
  obtain⟨op,ho,rfl⟩:=ahs.1 RX;have:=aB.ct.gs i op ho;have:=aB.rel (op.g-1) ae (by rw [hq _ ae];decide)
  rwa [show op.g-1+1=op.g by omega] at this
 obtain⟨q,h1,h2,h3,h4⟩:=fR;have kn1:∀ (i g:Nat),t.g? i=some g->g≠0->∃ r,RelBy (stA S.G.Wg) t g r/\r<q:=fun i g RX cr=>by
  obtain⟨op,ho,rfl⟩:=ahs.1 RX;have:=aB.ct.gs i op ho;have:=h4 (op.g-1) ae
  rwa [show op.g-1+1=op.g by omega] at this
 obtain⟨B0,Zh⟩:=Ar t;have VO:∀ op∈t,op.act.low (max B0 w.heap.size):=fun op bU=>MemAct.low_mono (Nat.le_max_left _ _) (Zh op bU);have VP:Past (ShN S.G.Wg) (max B0 w.heap.size) t->∃ B,w.heap.size<=B/\Past (ShN S.G.Wg) B t:=fun h=>⟨_,Nat.le_max_right _ _,h⟩;refine⟨gs,w,sl,a,rfl,ha,s9,aB.size,fun i g hg S1=>?_,aB.kn,⟨H.ret,fun b hb=>?_,fun q yd=>?_⟩,VP ⟨aB.ct.nr,fun i x hx hm=>?_,handedOver_all kn1 aB.norel h1 h2 h3,aB.deaf0,VO⟩,aB.ct.gs⟩
 ·obtain⟨i',rfl,aA,hqd,_⟩:=wk i g hg S1;exact⟨_,_,hqd,aB.deafW i' aA⟩
 ·obtain⟨k,hk⟩:=B.retOwn b hb;exact B.own.hi k b hk
 ·rcases B.jobs q yd with h|⟨i,hi,h⟩|h
  ·rw [oh] at h;cases h
  ·rw [xn i hi] at h;cases h
  ·obtain⟨cy,hv,tO⟩:=B.stor q h;obtain⟨ρ,v,val,r1,r2,r3,r4,r5,r6,_⟩:=B.recs q cy hv;exact⟨cy,ρ,v,val,tO,r1,r2,r3,r4,r5,r6⟩
 ·obtain⟨op,ho,hxo⟩:=touch_of hx;by_cases h0:op.g=0
  ·have:=knows_own ho;rw [h0] at this;exact .inl this
  ·have RX:t.g? i=some op.g:=by simp [Trace.g?,ho]
   obtain⟨r,hr,hrq⟩:=kn1 i op.g RX h0;have VQ:HappensBefore t r q:=.single (.inr ⟨.marked hrq (.inr hr.act) h1 (fun k _ _=>aB.norel k),hr.heard,h3⟩);obtain⟨oq,hoq,aae⟩:=ahs.1 h2;rcases aia r i with aA|hge
   ·have S8:=hr.after i aA RX;by_cases hk:x.kind=.atomic
    ·exact .inr ⟨aB.atom i op x ho h0 hxo hk,hk⟩
    ·exact absurd ⟨x,hx,hm,.inl hk⟩ S8
   ·refine .inl ⟨q,oq,hoq,aae,.inr ?_⟩;rcases Nat.lt_or_eq_of_le hge with aA|rfl
    ·exact .trans (.single (.inl ⟨aA,op.g,RX,hr.g⟩)) VQ
    ·exact VQ
end
end CO
