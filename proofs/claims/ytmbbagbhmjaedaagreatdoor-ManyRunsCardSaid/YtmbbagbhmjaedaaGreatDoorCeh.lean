/- Part of the proof. -/
import Derived.Test.YtmbbagbhmjaedaaGreatDoorCeg
import Derived.Conc.LeavingOf
set_option linter.all false
set_option maxRecDepth 10000
set_option maxHeartbeats 3200000
namespace Go.Proofs.YtmbbagbhmjaedaaGreatDoor
open Go FM CO Go.Conc Go.ConcN Tryz
variable {w:World}
theorem globP_map{w':World}(h:∀ b,uJ b->∀ c e z,w.heap[b]?=some (.cells c e z)->∃ (φ:Value->Value) (z':Nat×Nat),(∀ k n,φ (.int k n)=.int k n)/\(∀ t v,∃ v',φ (.iface t v)=.iface t v')/\w'.heap[b]?=some (.cells (c.map φ) e z'))(hw:GlobP w):GlobP w':=by
 have tab:∀ {n:String} {g:Nat} {k:IntKind} {zs:List Int},Tryz.prog.globalNamed n=some g->uJ g->Lib.TabIs Tryz.prog w n k zs->Lib.TabIs Tryz.prog w' n k zs:=fun{n g k zs} hg hb ht=>by
  unfold Lib.TabIs World.var? at *;rw [hg] at ht ⊢;simp only [aiJ] at ht ⊢
  cases hh:w.heap[g]? with
  | none=>rw [hh] at ht;cases ht
  | some o =>
   rw [hh] at ht
   cases o with
   | cells c e z =>
    obtain⟨φ,z',hi,hf,h1⟩:=h g hb c e z hh;simp only [ahp] at ht;rw [h1,ht];simp only [ahp];apply Array.ext';simp [hi]
   | _=>cases ht
 have cell:∀ {g:Nat} {v:Value},uJ g->w.cell? ⟨g,0,none⟩=some v->∃ φ:Value->Value,(∀ k n,φ (.int k n)=.int k n)/\(∀ t v,∃ v',φ (.iface t v)=.iface t v')/\w'.cell? ⟨g,0,none⟩=some (φ v):=fun{g v} hb hv=>by
  unfold World.cell? at *;dsimp only at *
  cases hh:w.heap[g]? with
  | none=>rw [hh] at hv;cases hv
  | some o =>
   rw [hh] at hv
   cases o with
   | cells c e z =>
    obtain⟨φ,z',hi,hf,h1⟩:=h g hb c e z hh;refine⟨φ,hi,hf,?_⟩;rw [h1];simp at hv ⊢;exact⟨v,hv,rfl⟩
   | _=>cases hv
 refine⟨tab Ld (.inr (.inl rfl)) hw.pow,tab Le (.inl rfl) hw.spc,?_,?_⟩
 ·obtain⟨m,hm⟩:=hw.mx;obtain⟨φ,hi,_,h1⟩:=cell (.inr (.inr (.inl rfl))) hm;exact⟨m,by rw [h1,hi]⟩
 ·obtain⟨tp,q,hm⟩:=hw.syn;obtain⟨φ,_,hf,h1⟩:=cell (.inr (.inr (.inr rfl))) hm;obtain⟨v',tN⟩:=hf tp q;exact⟨tp,v',by rw [h1,tN]⟩
theorem tE(t:TypeId)(v:Value):∃ v',cl (.iface t v)=.iface t v':=by
 cases v with
 | pointer a=>cases a<;>exact⟨_,rfl⟩
 | _=>exact⟨_,rfl⟩
theorem eM{b:Nat}(h:uJ b):G1 b=true:=by rcases h with rfl|rfl|rfl|rfl<;>rfl
theorem Dh{S0:World}(hp:GlobP S0)(h:∀ b,G1 b=true->∃ c e z z',S0.heap[b]?=some (.cells c e z)/\w.heap[b]?=some (.cells c e z')):GlobP (cd G1 w) :=
 globP_map (fun b hb c e z hc=>by
  obtain⟨c',e',z',z2,h1,h2⟩:=h b (eM hb)
  rw [hc] at h1;cases h1
  exact⟨cl,_,fun _ _=>rfl,tE,fG (eM hb) h2⟩) hp
theorem p7{v:World}(hp:GlobP w)(h2:∀ b,G2 b=true->∀ c e z,w.heap[b]?=some (.cells c e z)->∃ z',v.heap[b]?=some (.cells (c.map cl) e z'))(h5:v.heap[5]?=w.heap[5]?):GlobP v :=
 globP_map (fun b hb c e z hc=>by
  by_cases e5:b=5
  ·subst e5
   exact⟨id,z,fun _ _=>rfl,fun t v=>⟨v,rfl⟩,by rw [h5,hc];simp⟩
  ·have hg:G2 b=true:=by rcases hb with rfl|rfl|rfl|rfl<;>first|rfl|exact absurd rfl e5
   obtain⟨z',h⟩:=h2 b hg c e z hc
   exact⟨cl,z',fun _ _=>rfl,tE,h⟩) hp
section
variable {p:kt} {hp:p.Ok} {End AnchW:Goroutine->World->Prop}
theorem qN(hk:Kn (nb p hp End AnchW) w):∀ b,G1 b=true->w.heap[b]?=p.S0.heap[b]?:=fun b hb=>by
 have h1:=iH hb;have h2:=hp.ten;exact hk.low.low b (by show b<p.B+6;omega) (by show b≠p.B+5;omega) (by show b≠p.B+3;omega) (by show b≠p.B+1;omega)
theorem xY(hk:Kn (nb p hp End AnchW) w):∀ b,G1 b=true->∃ c e z z',p.S0.heap[b]?=some (.cells c e z)/\w.heap[b]?=some (.cells c e z')/\FzI c.size z'/\∀ (i:Nat) u,c[i]?=some u->JV u:=fun b hb=>by
 obtain⟨c,e,z,h1,h2,h3⟩:=hp.tab b hb;exact⟨c,e,z,z,h1,(qN hk b hb).trans h1,h2,h3⟩
theorem EZ(hk:Kn (nb p hp End AnchW) w):Hg G1 w:=fun b hb=>by
 obtain⟨c,e,z,z',_,h4,h5,h3⟩:=xY hk b hb;exact⟨c,e,z',h4,h5,h3⟩
def Ku(d:De)(j:Nat):Value:=Nt ((Ep d).cells.getD j .nil)
theorem Dj(d:De):∀ y∈(Ep d).cells,y.GZ=true:=by
 intro y hy;simp [AV.cells] at hy;rcases hy with rfl|rfl|rfl|rfl|rfl|rfl|rfl|rfl|rfl<;>rfl
theorem Sr{y:AV}(h:y.GZ=true):Pl (Nt y):=by
 cases y<;>first|exact .int _ _|exact .str _|cases h
theorem Ss(d:De)(j:Nat)(hj:j<9):Pl (Ku d j):=by
 have hl:j<(Ep d).cells.length:=hj;have e:(Ep d).cells.getD j .nil=(Ep d).cells[j]:=by rw [ahK,ahn hl];rfl
 unfold Ku;rw [e];exact Sr (Dj d _ (ahB hl))
theorem xZ{m:Addr->Value->Prop}{l:List De}{s:Value}(h:dn m 9 Ku l s):qD m s:=by
 refine dn.sl (cps:=List.replicate 9 Pl) (by rw [List.length_replicate];exact h) fun x _ j Q hQ=>?_;rw [List.getElem?_replicate] at hQ;split at hQ
 ·cases hQ;exact Ss x j (by assumption)
 ·cases hQ
theorem x4{L:Nat->aO}{π:Option (List Nat)}(hL:∀ b,L b=.sh){m:Addr->Value->Prop}(hm:∀ a u,m a u->w.cell? a=some u){l:List De}{s:Value}(h:dn m 9 Ku l s):Rep L w π (oB l) s :=
 rep_rowM (C:=fun d=>(Ep d).cells) (fun x=>rfl) (fun x=>rfl) Dj hL af hm h
theorem Nx{J:List De}{q:Nat}(hS:FnSpec Sy.P 10 [oB J] [oB J] (KX (p.A q)))(hJ:dn p.m 9 Ku J (p.arg q))(hk:Kn (nb p hp End AnchW) w):
  ∃ (ρ:Ren) (v:World),Runs Tryz.prog (Na (nb p hp End AnchW) q) (Frame.enter Tryz.prog 10 #[p.arg q] .normal,[bX Tryz.prog]) v/\¬ ρ.eq/\Cx (kr p.m) ρ/\fP (kr p.m) ρ (Frame.enter Tryz.prog 10 #[p.arg q] .normal) (Frame.enter Tryz.prog 10 #[p.arg q] .normal)/\WR ρ v w/\(∀ b b',ρ b b'->(gm p.B).Sh b'/\b=b')/\Zoned (gm p.B) v:=by
 have hm:∀ a u,(kr p.m).m a u->G1 a.block=false:=fun a u h=>h.2.1;have q8:∀ g,(kr p.m).G g=true->G1 g=true:=fun g h=>h;have hT:=EZ hk;have JC:=hp.ten;have hg:Tryz.prog.globals.size<=w.heap.size:=by
  have e:Tryz.prog.globals.size=11:=ah;have:p.B+6<=w.heap.size:=hk.lo;omega
 have hs:∀ a u,(kr p.m).m a u->w.cell? a=some u:=fun a u h=>(C7 hk h.1 h.2.1).trans h.2.2;have iY:∀ ρ:Ren,fP (kr p.m) ρ (Frame.enter Tryz.prog 10 #[p.arg q] .normal) (Frame.enter Tryz.prog 10 #[p.arg q] .normal):=fun ρ =>
  .enter (jE p.m) (.inr rfl) func10 (c:=xU) rfl ⟨rfl,fun t x y hx hy=>by
   rw [hx] at hy;cases hy
   match t,hx with
   | 0,hx =>
    simp at hx
    subst hx
    show KR (kr p.m) 1 ρ _ _
    unfold KR
    rw [if_neg af]
    exact⟨rfl,.inr (xZ hJ)⟩
   | t+1,hx=>simp at hx⟩
 refine⟨ly (kr p.m) G1 False hm,cd G1 w,?_,id,ot hm q8,iY _,EJ hm hT hg hs,fun b b' h=>⟨by show G1 b'=true;rw [<- h.1];exact h.2,h.1⟩,fun b hb=>?_⟩
 ·refine CS (Q:=fun val v=>p6 (p.A q) val v/\Exact (gm p.B) v) (tz p.m) (jE p.m) hm q8 hT hg hs (fun val v T d h=>h) (iY _) fun T=>?_;have gl:GlobP (cd G1 w):=Dh hp.gp fun b hb=>by
   obtain⟨c,e,z,z',h1,h2,_⟩:=xY hk b hb;exact⟨c,e,z,z',h1,h2⟩
  have b7:NO [oB J].length (fun _=>.sh) (tp (cd G1 w) T 0):=⟨fun b q h=>(by cases h),fun b q h=>(by cases h),fun b b' q h=>(by cases h),fun b _ h=>(by cases h),GlobP.keep (w:=cd G1 w) (fun g _=>rfl) gl,fun g dm=>⟨by show g<(cd G1 w).heap.size;rw [jA];have:=iH (eM dm);have:p.B+6<=w.heap.size:=hk.lo;omega,rfl⟩⟩;refine(hS.calls (tp (cd G1 w) T 0) (fun _=>.sh) [p.arg q] rfl b7 fun i x v hx hv=>?_).mono fun e w' ⟨v,L',he,hB⟩=>⟨v,he,G0 hB.res,fun b hb=>?_⟩
  ·match i,hx,hv with
   | 0,hx,hv =>
    cases hx;cases hv;refine x4 (fun _=>rfl) (m:=p.m) (fun a u h=>?_) hJ;show(cd G1 w).cell? a=some u;rw [jB h.2.1];exact hs a u h
   | i+1,hx,_=>simp at hx
  ·obtain⟨c,e,z,z',h1,h2,h3,_⟩:=xY hk b hb;have aA:b<(tp (cd G1 w) T 0).heap.size:=by
    show b<(cd G1 w).heap.size;rw [jA];have:=iH hb;have:p.B+6<=w.heap.size:=hk.lo;omega
   have:=hB.keep.block b aA (fun q h=>by cases h);refine⟨c.map cl,e,?_⟩;rw [this];show(cd G1 w).heap[b]?=_;rw [fG hb h2];simp
 ·obtain⟨c,e,z,z',h1,h2,h3,_⟩:=xY hk b hb;exact⟨_,e,_,fG hb h2,by simp [xu]⟩
theorem Kv{J:List De}{q:Nat}(hS:FnSpec Sy.P 10 [oB J] [oB J] (KX (p.A q)))(hJ:dn p.m 9 Ku J (p.arg q))(hk:Kn (nb p hp End AnchW) w)(base:List Frame):
  ZAt (kr p.m) (gm p.B).Sh p.S0 (fun _=>False) base (Frame.enter Tryz.prog 10 #[p.arg q] .normal) base w:=by
 have hm:∀ a u,(kr p.m).m a u->G1 a.block=false:=fun a u h=>h.2.1;have q8:∀ g,(kr p.m).G g=true->G1 g=true:=fun g h=>h;have hT:=EZ hk;have JC:=hp.ten;have hg:Tryz.prog.globals.size<=w.heap.size:=by
  have e:Tryz.prog.globals.size=11:=ah;have:p.B+6<=w.heap.size:=hk.lo;omega
 have hs:∀ a u,(kr p.m).m a u->w.cell? a=some u:=fun a u h=>(C7 hk h.1 h.2.1).trans h.2.2;have iY:∀ ρ:Ren,fP (kr p.m) ρ (Frame.enter Tryz.prog 10 #[p.arg q] .normal) (Frame.enter Tryz.prog 10 #[p.arg q] .normal):=fun ρ =>
  .enter (jE p.m) (.inr rfl) func10 (c:=xU) rfl ⟨rfl,fun t x y hx hy=>by
   rw [hx] at hy;cases hy
   match t,hx with
   | 0,hx =>
    simp at hx
    subst hx
    show KR (kr p.m) 1 ρ _ _
    unfold KR
    rw [if_neg af]
    exact⟨rfl,.inr (xZ hJ)⟩
   | t+1,hx=>simp at hx⟩
 refine JX (Tb:=G1) hm q8 hT hg hs (iY _) (qN hk) (Q:=fun x v=>∃ val,cL Tryz.prog x v val/\mU (fun b=>G1 b=true) p.S0 v) ?_ (fun x v ⟨val,h1,h2⟩=>⟨⟨val,h1⟩,h2⟩);refine runs_callsV (Q:=fun val v=>mU (fun b=>G1 b=true) p.S0 v) (tz p.m) (jE p.m) hm q8 (vF hm hT hg hs) (fun val v T d h=>h) (iY _) fun T=>?_
 have gl:GlobP (viewZ G1 w):=globP_map (fun b hb c e z hc=>by
  exact⟨cl,z,fun _ _=>rfl,tE,dW (eM hb) ((qN hk b (eM hb)).trans hc)⟩) hp.gp
 have b7:NO [oB J].length (fun _=>.sh) (tp (viewZ G1 w) T 0):=⟨fun b q h=>(by cases h),fun b q h=>(by cases h),fun b b' q h=>(by cases h),fun b _ h=>(by cases h),GlobP.keep (w:=viewZ G1 w) (fun g _=>rfl) gl,fun g dm=>⟨by show g<(viewZ G1 w).heap.size;rw [ff];have:=iH (eM dm);have:p.B+6<=w.heap.size:=hk.lo;omega,rfl⟩⟩;refine(hS.calls (tp (viewZ G1 w) T 0) (fun _=>.sh) [p.arg q] rfl b7 fun i x v hx hv=>?_).mono fun e w' ⟨v,L',he,hB⟩=>⟨v,he,fun b hb c e z h0=>?_⟩
 ·match i,hx,hv with
  | 0,hx,hv =>
   cases hx;cases hv;refine x4 (fun _=>rfl) (m:=p.m) (fun a u h=>?_) hJ;show(viewZ G1 w).cell? a=some u;rw [im h.2.1];exact hs a u h
  | i+1,hx,_=>simp at hx
 ·have aA:b<(tp (viewZ G1 w) T 0).heap.size:=by
   show b<(viewZ G1 w).heap.size;rw [ff];have:=iH hb;have:p.B+6<=w.heap.size:=hk.lo;omega
  have:=hB.keep.block b aA (fun q h=>by cases h);refine⟨c.map cl,e,?_⟩;rw [this];show(viewZ G1 w).heap[b]?=_;exact dW hb ((qN hk b hb).trans h0)
end
end Go.Proofs.YtmbbagbhmjaedaaGreatDoor
namespace Go.Proofs.YtmbbagbhmjaedaaGreatDoor
open Go FM CO Go.Conc Go.ConcN
section
variable {p:kt} {h:Int} {hp:p.Ok}
theorem Ny(hJ:∀ q,q<p.N->∃ J,FnSpec Sy.P 10 [oB J] [oB J] (KX (p.A q))/\dn p.m 9 Ku J (p.arg q)):(ku p h hp).Ok where
 recvRun:=fun k g hg=>by obtain⟨T,rfl,_⟩:=hg;rfl
 recv:=fun k g w hg=>GN hg
 pre:=fun k g q w hg hq hk=>R7 hg hq hk
 view:=fun q w hq hk=>by
  obtain⟨J,h1,h2⟩:=hJ q hq;exact Nx h1 h2 hk
 viewZ:=fun q w base hq hk=>by
  obtain⟨J,h1,h2⟩:=hJ q hq;exact Kv h1 h2 hk base
 post:=fun k q c cs val cy w ρ v hr om hv hk=>Nq hr om hv hk
 fin:=fun k g w hg hk=>Sb hg hk
 anch:=fun g w hg=>by obtain⟨T,j,_,T',rfl,_⟩:=hg;rfl
 loop:=fun g w hg=>Ko g w hg
 endRun:=fun g w hg=>by have dm:g=_:=hg.1;rw [dm];rfl
end
end Go.Proofs.YtmbbagbhmjaedaaGreatDoor
namespace Go.Proofs.YtmbbagbhmjaedaaGreatDoor
open Go FM CO Go.Conc Go.ConcN Go.RowKit
open Go.ConcR (KK WgAt stA smA rd wr mk)
open Tryz
structure iq(W:World)(vJ:Value)(N:Nat)(J:Nat->List De)(arg:Nat->Value):Prop where
 ten:11<=W.heap.size
 vj:∃ ad cap,vJ=.slice ad N cap/\N<=cap
 room:N*48<=281474976710656
 jobs:∀ q,q<N->∃ b o c,vJ=.slice (some ⟨b,o,none⟩) N c/\b<W.heap.size/\10<=b/\W.cell? ⟨b,o+q,none⟩=some (arg q)
 tab:Hg G1 W
 gp:GlobP W
 row:∀ q,q<N->dn (fun a u=>a.block<W.heap.size/\10<=a.block/\W.cell? a=some u) 9 Ku (J q) (arg q)
 noInt:∀ a n,G2 a.block=true->W.cell? a≠some (.int .i64 n)
section
variable {W:World} {vJ:Value} {N n:Nat} {J:Nat->List De} {arg:Nat->Value} {A:Nat->List (Int×Int×Int)}
theorem AQ(h0:iq W vJ N J arg)(U9:1<=n)(hn8:n<=8)(dI:∀ q,q<N->FnSpec Sy.P 10 [oB (J q)] [oB (J q)] (KX (A q))):
  ∃ (p:kt) (hp:p.Ok) (k:Nat) (m':Machine) (t':Trace),p.B=W.heap.size/\p.N=N/\p.n=n/\p.vJ=vJ/\p.arg=arg/\p.A=A/\(∀ b,b<W.heap.size->p.S0.heap[b]?=W.heap[b]?)/\fF W p.S0 /\
   runNT Tryz.prog k (solo (Go.Conc.G (Frame.enter Tryz.prog 3 #[.int .i64 n,vJ] .normal) []) W) #[]=(.next m',t')/\pg (ku p n hp) m' t':=by
 obtain⟨ad,cap,hJ,_⟩:=h0.vj
 let p0:kt:=⟨W.heap.size,N,n,vJ,arg,A,W⟩
 obtain⟨a',w',⟨⟨k,u,hk,hu⟩,bc⟩,T,row,rfl,hF,hL⟩:=Dg (p:=p0) (h:=n) (W:=W) rfl rfl ae ae hJ h0.room
 let p:kt:=⟨W.heap.size,N,n,vJ,arg,A,w'⟩
 have old:∀ b,b<W.heap.size->w'.heap[b]?=W.heap[b]?:=hL.old;have O5:∀ a:Addr,a.block<W.heap.size->w'.cell? a=W.cell? a:=fun a ha=>by unfold World.cell?;rw [old _ ha]
 have JC:=h0.ten
 have hp:p.Ok:=⟨by show 10<=W.heap.size;omega,hL.at_ 0 _ rfl,hL.at_ 2 _ rfl,hL.at_ 4 _ rfl,fun q hq=>by
  obtain⟨b,o,c,e1,e2,e3,e4⟩:=h0.jobs q hq
  exact⟨b,o,c,e1,e2,AN ae,(O5 _ e2).trans e4⟩,fun b hb=>by
  obtain⟨c,e,z,e1,e2,e3⟩:=h0.tab b hb
  exact⟨c,e,z,(old b (by have:=iH hb;omega)).trans e1,e2,e3⟩,GlobP.keep (fun g hg=>old g (by have:=iH (eM hg);omega)) h0.gp⟩
 have cq:WgAt 59 (W.heap.size+5) w' 0 0:=hL.at_ 5 _ rfl;have yx:Kn (ku p n hp) w':=⟨.refl _,⟨_,hL.at_ 1 _ rfl,by rw [size_madeCells];rfl⟩,⟨0,0,cq⟩,by rw [show w'.heap.size=W.heap.size+6 from hL.size];exact ahr _⟩;have hok:(ku p n hp).Ok:=Ny fun q hq=>⟨J q,dI q hq,(h0.row q hq).mono fun a u ⟨e1,e2,e3⟩=>⟨e1,AN ae,(O5 a e1).trans e3⟩⟩;have hFp:FT p 0 T:=⟨hF.size,hF.t3,hF.t6,hF.t7,hF.t9,hF.t31,hF.t32⟩;have Ms:=(Dc (p:=p) (h:=n) (hp:=hp) (by show n<_;omega) n 0 T (by show 0+n=n;omega) hFp).at w' ⟨knp yx,.refl w'⟩;obtain⟨μ,hI⟩:=GL (S:=ku p n hp) (sl:=none) (t:=u) (by show 0<n;omega) hu yx cq (hL.at_ 3 _ rfl) (Kp Ms);obtain⟨k2,m',t',e1,e2⟩:=Ni hok (by show n<_;omega) hI;refine⟨p,hp,k+k2,m',t',rfl,rfl,rfl,rfl,rfl,rfl,old,hL.out2,?_,e2⟩;rw [runNT_add,hk];dsimp only;rw [aiH];exact e1
end
end Go.Proofs.YtmbbagbhmjaedaaGreatDoor
namespace FM
open Go Go.RowKit
theorem Nz{S:Sys}{N:Nat}{c:Code}{I:List (Nat×TV)}{fn:Func}{t4:Nat}{bv:Bool}(hD:∀ v0,(S.fixed 0 v0).D=[])(hP:∀ v0,(S.fixed 0 v0).P=S.P)(hr:fn.results=#[.tmp t4])(h:∀ v0,CW (S.fixed 0 v0) N c (Ret (S.fixed 0 v0) [.tmp t4] [] [] (.bool bv)) (jc I)){T:Array Value}{W:World}(hs:T.size=N)(hg:kg (fun _=>.sh) W)
  (hh:∀ n,n<N->Hold (fun _=>.sh) W T n (get (jc I) n) (T.getD n undef)) (ho:∀ n,N<=n->get (jc I) n=.none):c.wp S.P (bodyPost S.P fn fun e w'=>∃ val,e=.returned val/\(val=.bool bv/\∀ b,b<W.heap.size->w'.heap[b]?=W.heap[b]?)) ⟨T,[]⟩ W:=by
 have h:=h fun _=>undef;unfold CW at h;rw [hP] at h;refine h W (fun _=>.sh) _ ⟨T,[]⟩ W ⟨fun e bx a' w' oF hR=>?_,fun ch a' w' hd=>by obtain⟨_,_,hx,_⟩:=hd.dies;exact hx.elim⟩ ⟨fun _=>.sh,rfl,hs,⟨rfl,rfl,rfl,ahr _,fun _ _ _=>rfl⟩,⟨fun b q hb=>(by cases hb),fun b b' q hb=>(by cases hb),fun b q hb=>(by cases hb),fun b q _ hb=>⟨q,hb⟩,fun b _=>Iff.rfl,fun b _ hb=>(by cases hb)⟩,hh,ho,fun i hi=>by simp [Sys.fixed,Sys.vZ] at hi,hg⟩;obtain⟨WQ,⟨rs,Py,hle⟩,_⟩:=oF
 suffices NP:bodyPost S.P fn _ .ret a' w' by
  cases e with
  | ret=>exact NP
  | normal=>exact NP
  | _=>cases WQ
 obtain⟨L',hR⟩:=hR;obtain⟨Dy,XJ⟩:=qX Py
 match rs,Dy with
 | [y],_ =>
  obtain⟨v,h1,h2⟩:=Du hR (XJ 0 _ y rfl rfl);have hv:a'.tmps.getD t4 undef=v:=by
   have nj:(Go.Sem.pure (a'.tmps.getD t4 undef)).run _ w'=.ok v w':=h1;simp only [Sem.run] at nj;injection nj
  have h3:v=.bool bv:=by
   have:=Rep.le hle h2;cases this;rfl
  refine⟨by rw [hR.defers,hD],_,(results_tmp hr a'.tmps S.P w':_),_,rfl,by rw [hv,h3],fun b hb=>hR.keep.block b hb fun q h=>by cases h⟩
end FM
namespace Go.Proofs.YtmbbagbhmjaedaaGreatDoor
open Go FM CO Go.Conc Go.ConcN Tryz
variable {vJ:Value}{T:Array Value}
theorem Su(x y:Value)(t:Nat):(#[x,y]++Array.replicate 93 undef).getD t undef=if t=0 then x else if t=1 then y else undef:=by
 rw [ahA,Array.getElem?_append]
 match t with
 | 0=>rfl
 | 1=>rfl
 | t+2 =>
  rw [if_neg ag,Array.getElem?_replicate];rw [if_neg (show ¬ (t+2=0) by omega),if_neg (show ¬ (t+2=1) by omega)];split<;>rfl
theorem AS(p:kt)(h:Int)(l:Value)(e:Int)(t:Nat)(ht:t<95):(qs (uH p h) l e).getD t undef=if 6=t then .int .i64 e else if 5=t then l else if 22=t then .int .i64 e else if 21=t then l else if 17=t then .tuple #[l,.int .i64 e] else if 20=t then .tuple #[l,.int .i64 e] else if 19=t then p.vJ else if 18=t then .int .i64 h else if 4=t then .bool false else if t=0 then .int .i64 h else if t=1 then p.vJ else undef:=by
 unfold qs uH;rw [iT _ _ _ _ (by simp;omega),iT _ _ _ _ (by simp;omega),iT _ _ _ _ (by simp;omega),iT _ _ _ _ (by simp;omega),iT _ _ _ _ (by simp;omega),iT _ _ _ _ (by simp;omega),iT _ _ _ _ (by simp;omega),iT _ _ _ _ (by simp;omega),iT _ _ _ _ (by simp;omega),Su]
theorem aaV:Bj Tryz.prog (fun f=>Lb.elem f||lv2.elem f) ⟨G2,3,j9,fun f=>f==6||f==7⟩ c3=true:=ah
theorem aaW:(Tryz.f3.results.all fun r=>Kb j9 3 r)=true:=ah
theorem Kw{m:Addr->Value->Prop}{ρ:Ren}{h:Int}{l:Value}{e:Int}(hs:T.size=95)(hT:∀ t,t<95->T.getD t undef=if 6=t then .int .i64 e else if 5=t then l else if 22=t then .int .i64 e else if 21=t then l else if 17=t then .tuple #[l,.int .i64 e] else if 20=t then .tuple #[l,.int .i64 e] else if 19=t then vJ else if 18=t then .int .i64 h else if 4=t then .bool false else if t=0 then .int .i64 h else if t=1 then vJ else undef)(hJ:Sl m [qD m] vJ)(hl:Sl m [qT m,qE m] l):fP (lA m) ρ (b3.at ⟨T,[]⟩ [.code c3]) (b3.at ⟨T,[]⟩ [.code c3]):=by
 refine⟨rfl,⟨rfl,fun t x y hx hy=>?_⟩,rfl,fun i hi=>?_,⟨rfl,rfl⟩,⟨rfl,.inl rfl⟩,⟨rfl,rfl⟩,⟨rfl,rfl⟩,Tryz.f3,func3,aaW⟩
 ·have eQ:T[t]?=some x:=hx;have qx:T[t]?=some y:=hy;rw [eQ] at qx;cases qx;have ht:t<95:=by
   have:=(ahx.1 eQ).1;omega
  have hg:=hT t ht;rw [ahA,eQ] at hg;simp only [ah8] at hg;show KR (lA m) (K3 t) ρ x x;have clean:K3 t=0->VR ρ x x->KR (lA m) (K3 t) ρ x x:=fun h1 h2=>.vr h2 h1;have p8:∀ k,K3 t=k->k≠0->(x=undef∨dv m k x)->KR (lA m) (K3 t) ρ x x:=fun k h1 h0 h2=>by
   rw [h1];unfold KR;rw [if_neg h0];exact⟨rfl,h2⟩
  by_cases e6:6=t
  ·subst e6;rw [if_pos rfl] at hg;subst hg;exact clean rfl (.int _ _)
  rw [if_neg e6] at hg;by_cases e5:5=t
  ·subst e5;rw [if_pos rfl] at hg;subst hg;exact p8 6 rfl af (.inr hl)
  rw [if_neg e5] at hg;by_cases e22:22=t
  ·subst e22;rw [if_pos rfl] at hg;subst hg;exact clean rfl (.int _ _)
  rw [if_neg e22] at hg;by_cases e21:21=t
  ·subst e21;exact p8 5 rfl af (.inr trivial)
  rw [if_neg e21] at hg;by_cases e17:17=t
  ·subst e17;exact p8 5 rfl af (.inr trivial)
  rw [if_neg e17] at hg;by_cases e20:20=t
  ·subst e20;exact p8 5 rfl af (.inr trivial)
  rw [if_neg e20] at hg;by_cases e19:19=t
  ·subst e19;rw [if_pos rfl] at hg;subst hg;exact p8 3 rfl af (.inr hJ)
  rw [if_neg e19] at hg;by_cases e18:18=t
  ·subst e18;exact p8 5 rfl af (.inr trivial)
  rw [if_neg e18] at hg;by_cases e4:4=t
  ·subst e4;rw [if_pos rfl] at hg;subst hg;exact clean rfl (.bool _)
  rw [if_neg e4] at hg;by_cases e0:t=0
  ·subst e0;rw [if_pos rfl] at hg;subst hg;exact clean rfl (.int _ _)
  rw [if_neg e0] at hg;by_cases e1:t=1
  ·subst e1;rw [if_pos rfl] at hg;subst hg;exact p8 3 rfl af (.inr hJ)
  rw [if_neg e1] at hg;subst hg;by_cases hk:K3 t=0
  ·exact clean hk .undef
  ·exact p8 _ rfl hk (.inl rfl)
 ·simp only [Frame.at,ahL] at hi;subst hi;exact aaV
theorem Wz:Tryz.f3.results=#[.tmp 4]:=rfl
theorem WB{c0 c1 c:Code}(hb:(Tryz.f3).body=some (.seq c0 (.seq c1 c))):c3=c:=by
 unfold c3 vM;rw [hb];rfl
theorem vO{m:Addr->Value->Prop}{v:World}{h:Int}{l:Value}{e:Int}{x1 x5:AV}(hs:T.size=95)(hT:∀ t,t<95->T.getD t undef=if 6=t then .int .i64 e else if 5=t then l else if 22=t then .int .i64 e else if 21=t then l else if 17=t then .tuple #[l,.int .i64 e] else if 20=t then .tuple #[l,.int .i64 e] else if 19=t then vJ else if 18=t then .int .i64 h else if 4=t then .bool false else if t=0 then .int .i64 h else if t=1 then vJ else undef)(hJ:Sl m [qD m] vJ)(hl:Sl m [qT m,qE m] l)
  (WE:∃ n,m ⟨5,0,none⟩ (.int .i64 n)) (hm:∀ a u,m a u->G2 a.block=false) (hv:WR (ly (lA m) G2 True hm) v v) (bc:11<=v.heap.size) (O6:GlobP v)
  (r1:∀ Tp,Rep (fun _=>.sh) (tp v Tp 0) (some [1]) x1 vJ) (r5:∀ Tp,Rep (fun _=>.sh) (tp v Tp 0) (some [5]) x5 l)
  (hc:∃ c0 c1 c,(Tryz.f3).body=some (.seq c0 (.seq c1 c))/\∀ v0,CW (Sy.fixed 0 v0) 95 c (Ret (Sy.fixed 0 v0) [.tmp 4] [] [] (.bool true)) (jc [(0,.av (.int h)),(1,.av x1),(5,.av x5),(6,.av (.int e))])) :
  Runs Tryz.prog (JN Tryz.prog fun val v'=>val=.bool true/\∀ b,b<v.heap.size->v'.heap[b]?=v.heap[b]?) (b3.at ⟨T,[]⟩ [.code c3],[bX Tryz.prog]) v:=by
 obtain⟨c0,c1,c,hb,hc⟩:=hc;have ec:=WB hb;refine CU (E:=lA m) (Q:=fun val v'=>val=.bool true/\∀ b,b<v.heap.size->v'.heap[b]?=v.heap[b]?) (AJ m WE) (vI m) hm (fun g h=>h) hv (fun _ _ _ _ h=>h) (fn:=Tryz.f3) func3 ah (Kw hs hT hJ hl) fun Tp=>?_;rw [ec];have gl:kg (fun _=>.sh) (tp v Tp 0):=⟨GlobP.keep (w:=v) (fun g _=>rfl) O6,fun g dm=>⟨by show g<v.heap.size;have:=iH (eM dm);omega,rfl⟩⟩;refine Nz (S:=Sy) (fun _=>rfl) (fun _=>rfl) Wz hc hs gl (fun n hn=>?_) fun n hn=>?_
 ·have hg:=hT n hn;rw [hg];by_cases e0:n=0
  ·subst e0;exact .int
  by_cases e1:n=1
  ·subst e1;exact r1 Tp
  by_cases e5:n=5
  ·subst e5;exact r5 Tp
  by_cases e6:n=6
  ·subst e6;exact .int
  have:FM.get (jc [(0,.av (.int h)),(1,.av x1),(5,.av x5),(6,.av (.int e))]) n=.none:=by
   simp only [jc,FM.get,aY];rw [au (fun h=>e0 h.symm),au (fun h=>e1 h.symm),au (fun h=>e5 h.symm),au (fun h=>e6 h.symm)];rfl
  rw [this];trivial
 ·simp only [jc,FM.get,aY];rw [au (show 0≠n by omega),au (show 1≠n by omega),au (show 5≠n by omega),au (show 6≠n by omega)];rfl
def m2(Wg:Nat)(w:World)(a:Addr)(u:Value):Prop:=w.cell? a=some u/\G2 a.block=false/\a.block≠Wg
theorem AT{Wg:Nat}{gs:Array Goroutine}{w:World}{sl:Option (Nat×Nat)}{q:Nat->Nat}{t:Trace}{h:Int}{l:Value}{e:Int}{x1 x5:AV}(hs:T.size=95)(hT:∀ t,t<95->T.getD t undef=if 6=t then .int .i64 e else if 5=t then l else if 22=t then .int .i64 e else if 21=t then l else if 17=t then .tuple #[l,.int .i64 e] else if 20=t then .tuple #[l,.int .i64 e] else if 19=t then vJ else if 18=t then .int .i64 h else if 4=t then .bool false else if t=0 then .int .i64 h else if t=1 then vJ else undef)(hJ:Sl (m2 Wg w) [qD (m2 Wg w)] vJ)(hl:Sl (m2 Wg w) [qT (m2 Wg w),qE (m2 Wg w)] l)
  (G3:Hg G2 w) (bc:11<=w.heap.size) (O6:GlobP w)
  (r1:∀ v:World,(∀ a,G2 a.block=false->v.cell? a=w.cell? a)->Rep (fun _=>.sh) v (some [1]) x1 vJ) (r5:∀ v:World,(∀ a,G2 a.block=false->v.cell? a=w.cell? a)->Rep (fun _=>.sh) v (some [5]) x5 l)
  (hc:∃ c0 c1 c,(Tryz.f3).body=some (.seq c0 (.seq c1 c))/\∀ v0,CW (Sy.fixed 0 v0) 95 c (Ret (Sy.fixed 0 v0) [.tmp 4] [] [] (.bool true)) (jc [(0,.av (.int h)),(1,.av x1),(5,.av x5),(6,.av (.int e))]))
  (h0:gs[0]?=some (Gm (b3.at ⟨T,[]⟩ [.code c3]) [])) (hL:Leavers Tryz.prog t gs q) (hP:∃ B,w.heap.size<=B/\Past (ShN Wg) B t) (tR:Wg<w.heap.size) (hW5:Wg≠5) (hW2:G2 Wg=false) :
  ∃ N last o w' t',runNT Tryz.prog (N+1) (crowd gs w sl) t=(.ended o w',t')/\runN Tryz.prog N (crowd gs w sl)=.next last/\step Tryz.prog last=.ended o w'/\Go.Conc.Good Tryz.prog (fun val W'=>val=.bool true/\(∀ b,b<w.heap.size->W'.heap[b]?=w.heap[b]?)/\fF w W') last o w' t':=by
 have hm:∀ a u,(lA (m2 Wg w)).m a u->G2 a.block=false:=fun a u h=>h.2.1;have aH:∀ a u,(lA (m2 Wg w)).m a u->w.cell? a=some u:=fun a u h=>h.1;have e11:Tryz.prog.globals.size=11:=ah;have hg:Tryz.prog.globals.size<=w.heap.size:=by rw [e11];exact bc
 have WE:∃ n,m2 Wg w ⟨5,0,none⟩ (.int .i64 n):=by
  obtain⟨n,hn⟩:=O6.mx;exact⟨n,hn,rfl,fun h=>hW5 h.symm⟩
 have XC:∀ (v:World) (Tp:Tape),(∀ a,G2 a.block=false->v.cell? a=w.cell? a)->∀ a,G2 a.block=false->(tp v Tp 0).cell? a=w.cell? a:=fun v Tp h a ha=>h a ha;have h5f:G2 5=false:=rfl;have rF:=vO (v:=cd G2 w) hs hT hJ hl WE hm (AF hm G3 hg aH) (by rw [jA];exact bc) (p7 O6 (fun b hb c e z hc=>⟨_,fG hb hc⟩) (tf h5f)) (fun Tp=>r1 _ (XC _ Tp fun a ha=>jB ha)) (fun Tp=>r5 _ (XC _ Tp fun a ha=>jB ha)) hc;have rZ:=vO (v:=viewZ G2 w) hs hT hJ hl WE hm (vF hm G3 hg aH) (by rw [ff];exact bc) (p7 O6 (fun b hb c e z hc=>⟨_,dW hb hc⟩) (pZ h5f)) (fun Tp=>r1 _ (XC _ Tp fun a ha=>im ha)) (fun Tp=>r5 _ (XC _ Tp fun a ha=>im ha)) hc;have iY:∀ ρ:Ren,fP (lA (m2 Wg w)) ρ (b3.at ⟨T,[]⟩ [.code c3]) (b3.at ⟨T,[]⟩ [.code c3]):=fun ρ=>Kw hs hT hJ hl;have Nh:ZAt (lA (m2 Wg w)) (fun b=>G2 b=true) w (fun b=>w.heap.size<=b) [] (b3.at ⟨T,[]⟩ [.code c3]) [] w:=by
  refine JX hm (fun g h=>h) G3 hg aH (iY _) (fun _ _=>rfl) rZ fun x v' ⟨val,h1,⟨_,h2⟩,_⟩=>⟨⟨val,h1⟩,fun b hb c e z h0=>?_⟩;have aA:b<w.heap.size:=bW h0;exact⟨_,e,(h2 b (by rw [ff];exact aA)).trans (dW hb h0)⟩
 have oo:JP (lA (m2 Wg w)) (fun b=>G2 b=true) w (ly (lA (m2 Wg w)) G2 False hm) (cd G2 w) (b3.at ⟨T,[]⟩ [.code c3]) [] w :=
  ⟨Nh,fun _ _=>rfl,.refl w,ahr _,fun b hb=>⟨by obtain⟨c,e,z,h1,_⟩:=G3 b hb;exact bW h1,rfl,hb⟩,fun b b' h=>.inl ⟨by rw [<- h.1];exact h.2,h.1⟩,fun b hb=>by
   obtain⟨c,e,z,h1,_⟩:=G3 b hb
   exact⟨_,e,_,fG hb h1,by simp [xu]⟩⟩
 obtain⟨N,last,o,w',t',h1,h2,h3,h4⟩:=GG (E:=lA (m2 Wg w)) (Wg:=Wg) (Post:=fun val _=>val=.bool true) (AJ _ WE) (vI _) (fun a u h=>h.2.2) (fun _ _ _ _ h=>h) (sl:=sl) h0 hL hP (rF.mono fun x v' ⟨val,h1,h2,h3⟩=>⟨val,h1,h2.1,h3⟩) (ot hm fun g h=>h) (iY _) .nil (EJ hm G3 hg aH) (fun b b' h e=>by
  have:G2 b'=true:=by rw [<- h.1];exact h.2
  rw [e,hW2] at this;cases this) tR oo
 refine⟨N,last,o,w',t',h1,h2,h3,Go.Conc.Good.mono h4 fun val ⟨⟨ρ,v,af6,hp,OF,_⟩,hh,ho⟩=>⟨?_,hh,ho⟩⟩;subst hp;cases OF;rfl
theorem Sv{ρ:Ren}{k:IntKind}{n:Int}{y:Value}(h:VR ρ (.int k n) y):y=.int k n:=by cases h;rfl
theorem vP{ρ:Ren}{v w:World}(hw:WR ρ v w){α:Type}{k:Nat}{f:α->Nat->Value}{l:List α}{s s':Value}(hf:∀ x j,∃ n,f x j=.int .i64 n)(h:dn (mW v) k f l s)(hv:VR ρ s s'){Q:Nat->Prop}(hr:∀ b b',ρ b b'->Q b'):dn (fun a u=>w.cell? a=some u/\Q a.block) k f l s':=by
 rcases h with⟨a,c,rfl,rfl⟩|⟨b,o,c,rfl,hc,h⟩
 ·cases hv with
  | sliceN l c=>exact .inl ⟨_,_,rfl,rfl⟩
  | slice l c ha=>exact .inl ⟨_,_,rfl,rfl⟩
 ·cases hv with
  | slice l' c' ha =>
   obtain⟨_,_,Av⟩:=ha;rename_i b';refine .inr ⟨b',o,c,rfl,hc,fun i x hx j hj=>⟨?_,hr _ _ Av⟩⟩;obtain⟨n,hn⟩:=hf x j;have h1:v.cell? ⟨b,o+(i*k+j),none⟩=some (f x j):=h i x hx j hj;obtain⟨ob,ob',e1,e2,e3⟩:=hw.obj _ _ Av;unfold World.cell? at h1 ⊢;dsimp only at h1 ⊢;rw [e1] at h1;rw [e2]
   cases e3 with
   | cells e hz ha =>
    simp at h1 ⊢;have hs:=ha.size;have aA:=(ahx.1 h1).1;rw [hs] at aA;have qZ:=ha.get _ _ _ h1 (ahO aA);rw [hn] at qZ ⊢;rw [ahO aA];rw [Sv qZ]
   | _=>simp at h1
theorem dn.int{α:Type}{m m':Addr->Value->Prop}{k:Nat}{f:α->Nat->Value}{l:List α}{s:Value}(hf:∀ x j,∃ n,f x j=.int .i64 n)(h:dn m k f l s)(hm:∀ a n,m a (.int .i64 n)->m' a (.int .i64 n)):dn m' k f l s :=
 h.imp id fun⟨b,o,c,h1,h2,h3⟩=>⟨b,o,c,h1,h2,fun i x hx j hj=>by
  obtain⟨n,hn⟩:=hf x j
  have:=h3 i x hx j hj
  rw [hn] at this ⊢
  exact hm _ _ this⟩
theorem tF{B:Nat}{w:World}{k:Nat}{f:(Int×Int×Int)->Nat->Value}{l:List (Int×Int×Int)}{s:Value}(hB:10<=B)(hf:∀ x j,∃ n,f x j=.int .i64 n)(ht:∀ a n,G2 a.block=true->w.cell? a≠some (.int .i64 n))(h:dn (fun a u=>w.cell? a=some u/\(G1 a.block=true∨B+6<=a.block)) k f l s):dn (m2 (B+5) w) k f l s :=
 h.int hf fun a n ⟨h1,h2⟩=>by
  have hg:G2 a.block=false:=by
   cases e:G2 a.block with
   | false=>rfl
   | true=>exact absurd h1 (ht a n e)
  refine⟨h1,hg,?_⟩;rcases h2 with h2|h2
  ·have:=iH h2;omega
  ·omega
end Go.Proofs.YtmbbagbhmjaedaaGreatDoor
namespace Go.Proofs.YtmbbagbhmjaedaaGreatDoor
open Go FM CO Go.Conc Go.ConcN Go.RowKit Tryz
theorem Kx{b:Nat}(h:G2 b=true):b<=9:=by
 unfold G2 at h;rw [aht] at h;exact ah3 h.1
theorem AU{b:Nat}(h:10<=b):G2 b=false:=by
 cases e:G2 b with
 | false=>rfl
 | true=>have:=Kx e;omega
theorem WG{b:Nat}(h:G2 b=true):G1 b=true:=by
 unfold G2 at h;rw [aht] at h;exact h.1
section
variable {W w:World} {vJ:Value} {N:Nat} {Jb:List (List De)} {arg:Nat->Value} {Wg:Nat}
def uI(Jb:List (List De))(q:Nat):List De:=Jb.getD q []
theorem x6{i:Nat}{x:List De}(h:Jb[i]?=some x):uI Jb i=x:=by
 unfold uI;rw [ahK,h];rfl
theorem E0(h0:iq W vJ N (uI Jb) arg)(ho:∀ b,b<W.heap.size->w.heap[b]?=W.heap[b]?)(tR:W.heap.size<=Wg){q:Nat}(hq:q<N):dn (m2 Wg w) 9 Ku (uI Jb q) (arg q) :=
 (h0.row q hq).mono fun a u ⟨h1,h2,h3⟩=>⟨by unfold World.cell? at h3 ⊢;rw [ho _ h1];exact h3,AU ae,ae⟩
theorem ox(h0:iq W vJ N (uI Jb) arg)(ho:∀ b,b<W.heap.size->w.heap[b]?=W.heap[b]?)(tR:W.heap.size<=Wg){q:Nat}(hq:q<N):∃ b o c,vJ=.slice (some ⟨b,o,none⟩) N c/\m2 Wg w ⟨b,o+q,none⟩ (arg q):=by
 obtain⟨b,o,c,e1,e2,e3,e4⟩:=h0.jobs q hq;exact⟨b,o,c,e1,by unfold World.cell? at e4 ⊢;rw [ho _ e2];exact e4,AU (by show 10<=b;omega),by show b≠Wg;omega⟩
theorem E3(h0:iq W vJ N (uI Jb) arg)(ho:∀ b,b<W.heap.size->w.heap[b]?=W.heap[b]?)(tR:W.heap.size<=Wg):Sl (m2 Wg w) [qD (m2 Wg w)] vJ:=by
 obtain⟨ad,cap,hJ,_⟩:=h0.vj;rcases aiD N with hN|hN
 ·subst hN;exact .inl ⟨ad,cap,hJ⟩
 ·obtain⟨b,o,c,e1,_⟩:=ox h0 ho tR hN;refine .inr ⟨b,o,N,c,e1,fun i hi j Q hQ=>?_⟩
  match j,hQ with
  | 0,hQ =>
   cases hQ;obtain⟨b',o',c',oD,e2⟩:=ox h0 ho tR hi;rw [e1] at oD;cases oD;exact⟨arg i,by simpa using e2,xZ (E0 h0 ho tR hi)⟩
theorem AW(h0:iq W vJ N (uI Jb) arg)(hN:Jb.length=N)(ho:∀ b,b<W.heap.size->w.heap[b]?=W.heap[b]?)(tR:W.heap.size<=Wg){π:Option (List Nat)}{v:World}(hv:∀ a,G2 a.block=false->v.cell? a=w.cell? a):Rep (fun _=>.sh) v π (la Jb) vJ:=by
 obtain⟨ad,cap,hJ,bK⟩:=h0.vj;refine xX (F:=oB) (C:=fun l=>[oB l]) (k:=1) (fun _=>rfl) (fun _=>rfl) (fun _=>rfl) ?_ af;rcases aiD N with hz|hp
 ·subst hz;exact .inl ⟨ad,cap,hJ,List.length_eq_zero_iff.1 hN⟩
 ·obtain⟨b,o,c,e1,_⟩:=ox h0 ho tR hp;have hc:N<=c:=by rw [hJ] at e1;cases e1;exact bK
  refine .inr ⟨b,o,c,by rw [hN];exact e1,ae,fun i x hx j y hy=>?_⟩;have hi:i<N:=by have:=(aho.1 hx).1;omega
  match j,hy with
  | 0,hy =>
   cases hy;obtain⟨b',o',c',oD,e2⟩:=ox h0 ho tR hi;rw [e1] at oD;cases oD;have hr:=E0 h0 ho tR hi;rw [x6 hx] at hr;exact⟨arg i,by rw [show i*1+0=i by omega,hv _ e2.2.1];exact e2.1,x4 (fun _=>rfl) (m:=m2 Wg w) (fun a u h=>(hv a h.2.1).trans h.1) hr⟩
theorem E4(h0:iq W vJ N (uI Jb) arg)(ho:∀ b,b<W.heap.size->w.heap[b]?=W.heap[b]?):Hg G2 w:=fun b hb=>by
 obtain⟨c,e,z,e1,e2,e3⟩:=h0.tab b (WG hb);exact⟨c,e,z,(ho b (bW e1)).trans e1,e2,e3⟩
theorem Ky(h0:iq W vJ N (uI Jb) arg)(ho:∀ b,b<W.heap.size->w.heap[b]?=W.heap[b]?):GlobP w :=
 GlobP.keep (fun g hg=>ho g (by have:=iH (eM hg);have:=h0.ten;omega)) h0.gp
end
theorem O7(p:kt)(h:Int)(l:Value)(e:Int):(qs (uH p h) l e).size=95:=by simp [qs,uH]
def Dk(W W':World)(val:Value):Prop:=val=.bool true/\(∀ b,b<W.heap.size->W'.heap[b]?=W.heap[b]?)/\fF W W'
theorem G4{W:World}{vJ:Value}{N n:Nat}{Jb:List (List De)}{arg:Nat->Value}{R:Er}(hR:vk R)(h0:iq W vJ N (uI Jb) arg)(hN:Jb.length=N)(hJ:Jb.length<=9223372036854775807)(hl:∀ l∈Jb,l.length<=4000000000000/\∀ d∈l,sw d)(U9:1<=n)(hn8:n<=8)
  {p:kt} {hp:p.Ok} (eB:p.B=W.heap.size) (eN:p.N=N) (en:p.n=n) (eJ:p.vJ=vJ) (eA:p.A=fun q=>qL R qj (uI Jb q)) (old:∀ b,b<W.heap.size->p.S0.heap[b]?=W.heap[b]?) (AP:fF W p.S0) {m:Machine} {t:Trace} (hj:pg (ku p n hp) m t) :
  ∃ M last o w' t',runNT Tryz.prog (M+1) m t=(.ended o w',t')/\runN Tryz.prog M m=.next last/\step Tryz.prog last=.ended o w'/\Go.Conc.Good Tryz.prog (fun val W'=>Dk W W' val) last o w' t':=by
 obtain⟨gs,w,sl,a,rfl,WS,⟨rfl,s9⟩,J⟩:=joined (S:=ku p n hp) (by show 0<p.n;omega) hj;have hk:=J.kn;have JC:=hp.ten;have bc:p.B+6<=w.heap.size:=hk.lo;have ho:∀ b,b<W.heap.size->w.heap[b]?=W.heap[b]?:=fun b hb=>(hk.low.low b (by show b<p.B+6;omega) (by show b≠p.B+5;omega) (by show b≠p.B+3;omega) (by show b≠p.B+1;omega)).trans (old b hb);have tR:W.heap.size<=p.B+5:=ae;have RN:=h0.ten;have rows:∀ q,q<N->∃ s1 s2,w.cell? ⟨p.B+1,q*2+0,none⟩=some s1/\w.cell? ⟨p.B+1,q*2+1,none⟩=some s2/\dn (m2 (p.B+5) w) 2 fT (qL R qj (uI Jb q)) s1/\dn (m2 (p.B+5) w) 1 fE (qL R qj (uI Jb q)) s2:=fun q hq=>by
  obtain⟨ret,oF,mC⟩:=J.res;obtain⟨cy,ρ,v,val,tO,om,OF,Ax,cr,Ng,hex⟩:=mC q (by show q<p.N;omega);have s7:p6 (p.A q) val v:=om;rw [eA] at s7;obtain⟨s1,s2,rfl,r1,r2⟩:=s7;obtain⟨R8,R9,rfl,v1,v2⟩:=EW OF;have hr:∀ b b',ρ b b'->G1 b'=true∨p.B+6<=b':=fun b b' hb=>(Ng b b' hb).elim (fun h=>.inl h.1) fun h=>.inr (oF _ h);have ht:∀ a n,G2 a.block=true->w.cell? a≠some (.int .i64 n):=fun a n ha e=>by
   have:=Kx ha;refine h0.noInt a n ha ?_;unfold World.cell? at e ⊢;rw [<- ho _ ae];exact e
  have c0:=tO.2 0 (by show 0<2;omega);have c1:=tO.2 1 (by show 1<2;omega);exact⟨R8,R9,c0,c1,tF JC (fun x j=>⟨_,rfl⟩) ht (vP Ax (fun x j=>⟨_,rfl⟩) r1 v1 hr),tF JC (fun x j=>⟨_,rfl⟩) ht (vP Ax (fun x j=>⟨_,rfl⟩) r2 v2 hr)⟩
 have XD:∀ j u,w.cell? ⟨p.B+1,j,none⟩=some u->m2 (p.B+5) w ⟨p.B+1,j,none⟩ u:=fun j u h=>⟨h,AU (by show 10<=p.B+1;omega),by show p.B+1≠p.B+5;omega⟩;have tO:Sl (m2 (p.B+5) w) [qT (m2 (p.B+5) w),qE (m2 (p.B+5) w)] (sO p):=by
  refine .inr ⟨p.B+1,0,p.N,p.N,rfl,fun i hi j Q hQ=>?_⟩;obtain⟨s1,s2,c0,c1,r1,r2⟩:=rows i ae
  match j,hQ with
  | 0,hQ =>
   cases hQ;refine⟨s1,XD _ _ (by simpa using c0),dn.sl (cps:=[Pl,Pl]) r1 fun x _ j Q hQ=>?_⟩
   match j,hQ with
   | 0,hQ=>cases hQ;exact .int _ _
   | 1,hQ=>cases hQ;exact .int _ _
  | 1,hQ =>
   cases hQ;refine⟨s2,XD _ _ (by simpa using c1),dn.sl (cps:=[Pl]) r2 fun x _ j Q hQ=>?_⟩
   match j,hQ with
   | 0,hQ=>cases hQ;exact .int _ _
 have r5:∀ v:World,(∀ a,G2 a.block=false->v.cell? a=w.cell? a)->Rep (fun _=>.sh) v (some [5]) (Et R Jb) (sO p):=fun v hv=>by
  refine xX (F:=fun l=>KX (qL R qj l)) (C:=fun l=>[.sl false 2 (eT (qL R qj l)),.sl false 1 (kq (qL R qj l))]) (k:=2) (fun _=>rfl) (fun _=>rfl) (fun _=>rfl) (.inr ⟨p.B+1,0,p.N,by rw [hN,<-eN];rfl,ae,fun i x hx j y hy=>?_⟩) af;have hi:i<N:=by have:=(aho.1 hx).1;omega
  obtain⟨s1,s2,c0,c1,r1,r2⟩:=rows i hi;rw [x6 hx] at r1 r2;have hm:∀ a u,m2 (p.B+5) w a u->v.cell? a=some u:=fun a u h=>(hv a h.2.1).trans h.1
  match j,hy with
  | 0,hy=>cases hy;exact⟨s1,hm _ _ (XD _ _ (by simpa using c0)),Kt (fun _=>rfl) hm r1⟩
  | 1,hy=>cases hy;exact⟨s2,hm _ _ (XD _ _ (by simpa using c1)),Nw (fun _=>rfl) hm r2⟩
 have hn:(1:Int)<=n/\(n:Int)<=8:=⟨ae,ae⟩;obtain⟨Lv,hLv⟩:∃ q,Leavers Tryz.prog t gs q:=by
  have hq:∀ i,∃ q,∀ g,gs[i]?=some g->i≠0->QuitsD Tryz.prog q (Deaf t i) g:=fun i=>by
   cases h:gs[i]? with
   | none=>exact⟨0,fun g hg=>by cases hg⟩
   | some g0 =>
    by_cases hi:i=0
    ·exact⟨0,fun g _ h=>absurd hi h⟩
    ·obtain⟨q,d,h1,h2⟩:=J.quits i g0 h hi;exact⟨q,fun g hg _=>by cases hg;rw [h2];exact h1⟩
  refine⟨fun i=>(hq i).choose,fun i g hi hg=>(hq i).choose_spec g hg ae,fun j hjj=>?_⟩;have bc:=J.size;refine Deaf_absent fun i op hi=>?_;have:op.g<=p.n:=J.gs i op hi;have dz:gs.size=p.n+1:=bc;omega
 obtain⟨M,last,o,w',t',e1,e2,e3,e4⟩:=AT (Wg:=p.B+5) (vJ:=p.vJ) (h:=n) (l:=sO p) (e:=0) (T:=qs (uH p n) (sO p) 0) (sl:=sl) (O7 _ _ _ _) (fun t ht=>AS p n (sO p) 0 t ht) (eJ▸E3 h0 ho tR) tO (E4 h0 ho) ae (Ky h0 ho)
  (fun v hv=>eJ▸AW h0 hN ho tR hv) r5 (Ga R hR n hn Jb hJ hl) WS hLv J.past ae ae (AU ae)
 exact⟨M,last,o,w',t',e1,e2,e3,Go.Conc.Good.mono e4 fun val ⟨g1,g2,g3⟩=>⟨g1,fun b hb=>(g2 b ae).trans (ho b hb),(AP.trans s9).trans g3⟩⟩
end Go.Proofs.YtmbbagbhmjaedaaGreatDoor
