/- Part of the proof. -/
import Derived.Test.YtmbbagbhmjaedaaGreatDoorCei
set_option linter.all false
set_option maxRecDepth 10000
set_option maxHeartbeats 6400000
namespace Go.Proofs.YtmbbagbhmjaedaaGreatDoor
open Go FM CO Go.Conc Go.ConcN Go.RowKit Go.Proofs.Tryz
variable {g:Nat}{t:TypeId}
def GK(b:Nat)(u:Value):Prop:=(∃ k n,u=.int k n/\(k=.i64->b=5))∨(∃ a,u=.pointer a)∨∃ t a,u=.iface t (.pointer (some a))
def GB(W:World)(b:Nat):Prop:=∃ c e,W.heap[b]?=some (.cells c e (0,0))/\∀ (i:Nat) u,c[i]?=some u->GK b u
section
variable {W:World}
theorem lO(hs:W.ShapedOpen Tryz.prog){sz:Nat}(hg:g<Tryz.prog.globals.size)(h0:(((begin Tryz.prog (fun _ _=>0) default).world.heap[g]?).bind Obj.row?).map (fun x=>(x.1.size,x.2))=some (sz,t)):
  ∃ cs,W.heap[g]?=some (.cells cs t)/\cs.size=sz/\(Tryz.prog.buildable t=true->Row.ok Tryz.prog W .any 0 t cs):=by
 obtain⟨⟨zero,t'⟩,h1,h2⟩:=ahs.1 h0;simp only [Prod.mk.injEq] at h2;obtain⟨h2,rfl⟩:=h2;obtain⟨cs,h3,h4,h5⟩:=hs.1 g zero t' hg h1;exact⟨cs,h3,h4.trans h2,h5⟩
theorem fj(hs:W.ShapedOpen Tryz.prog){sz:Nat}{y0:TypeId}{k:IntKind}(hg:g<Tryz.prog.globals.size)(h0:(((begin Tryz.prog (fun _ _=>0) default).world.heap[g]?).bind Obj.row?).map (fun x=>(x.1.size,x.2))=some (sz,t))(hb:Tryz.prog.buildable t=true)
  (hc:(Tryz.prog.cellTypes Tryz.prog.depth t).map (fun l=>l.all fun y=>y==y0)=some true) (hu:Tryz.prog.underlying y0=some (.int k)) (hk:k=.i64->g=5):GB W g:=by
 obtain⟨cs,h1,_,h3⟩:=lO hs hg h0;obtain⟨ts,Lg,_,cZ⟩:=h3 hb;rw [Lg] at hc;simp only [ah2,ahp,ahM,beq_iff_eq] at hc;refine⟨cs,t,h1,fun i u hi=>?_⟩;obtain⟨y,hy,hok⟩:=cZ i u hi;have:y=y0:=hc y (ahH hy);subst this;unfold Cell.ok at hok;rw [hu] at hok;cases u<;>simp at hok
 case int k' n=>exact .inl ⟨k',n,rfl,fun h=>hk (hok.1.symm.trans h)⟩
theorem vT(hs:W.ShapedOpen Tryz.prog)(hg:g<Tryz.prog.globals.size)(h0:(((begin Tryz.prog (fun _ _=>0) default).world.heap[g]?).bind Obj.row?).map (fun x=>(x.1.size,x.2))=some (1,t)){v:Value}(hv:W.cell? ⟨g,0,none⟩=some v)(hk:GK g v):GB W g:=by
 obtain⟨cs,h1,h2,_⟩:=lO hs hg h0;refine⟨cs,t,h1,fun i u hi=>?_⟩;have aA:=(ahx.1 hi).1;have:i=0:=ae;subst this;unfold World.cell? at hv;dsimp only at hv;rw [h1] at hv;have tN:cs[0]?=some v:=hv;rw [hi] at tN;cases tN;exact hk
theorem A6{l:List (String×DataW Unit)}{nm:String}{g:Nat}{bs:List UInt8}(h:laidMetH Tryz.prog l W)(hp:(l.all fun x=>x.2.handleName?.isNone)=true)
  (e3:(l.filter fun x=>x.1==nm)=[(nm,.iface "*errors.errorString" (.ptr (.agg [.lit (.string bs)])))]) (g3:Tryz.prog.globalNamed nm=some g) (g4:(Tryz.prog.globals[g]?).map (·.type)=some 123):∃ t a,W.cell? ⟨g,0,none⟩=some (.iface t (.pointer (some a))):=by
 rw [MakeChecks.laidMetH_plain _ _ _ hp] at h;have h3:=laidMet.filter (fun x=>x.1==nm) h;rw [e3] at h3;obtain⟨a0,s0,VH,-,-,-⟩:=laid_sentinel h3 g3 (by simpa using g4) underlying123 AZ underlying235 underlying237 rfl rfl underlying9 ah ah;exact⟨_,a0,by have h0:=World.var?_cell g3 VH 0;simpa using h0⟩
theorem G6(hs:W.ShapedOpen Tryz.prog){e:TypeId}(hg:g<Tryz.prog.globals.size)(h0:(((begin Tryz.prog (fun _ _=>0) default).world.heap[g]?).bind Obj.row?).map (fun x=>(x.1.size,x.2))=some (1,t))(hb:Tryz.prog.buildable t=true)
  (hc:(Tryz.prog.cellTypes Tryz.prog.depth t).map (fun l=>l.all fun y=>y==t)=some true) (hu:Tryz.prog.underlying t=some (.pointer e)):GB W g:=by
 obtain⟨cs,h1,_,h3⟩:=lO hs hg h0;obtain⟨ts,Lg,_,cZ⟩:=h3 hb;rw [Lg] at hc;simp only [ah2,ahp,ahM,beq_iff_eq] at hc;refine⟨cs,t,h1,fun i u hi=>?_⟩;obtain⟨y,hy,hok⟩:=cZ i u hi;have:y=t:=hc y (ahH hy);subst this;unfold Cell.ok at hok;rw [hu] at hok;cases u<;>simp at hok
 case pointer a=>exact .inr (.inl ⟨a,rfl⟩)
theorem WJ{l:List (String×DataW Unit)}(hs:W.ShapedOpen Tryz.prog)(h:laidMetH Tryz.prog l W)(hp:(l.all fun x=>x.2.handleName?.isNone)=true)
  (e3:(l.filter fun x=>x.1 == "strconv.ErrSyntax")=[("strconv.ErrSyntax",.iface "*errors.errorString" (.ptr (.agg [.lit (.string [105,110,118,97,108,105,100,32,115,121,110,116,97,120])])))])
  (e4:(l.filter fun x=>x.1 == "strconv.ErrRange")=[("strconv.ErrRange",.iface "*errors.errorString" (.ptr (.agg [.lit (.string [118,97,108,117,101,32,111,117,116,32,111,102,32,114,97,110,103,101])])))]):∀ b,b<=9->GB W b:=by
 have e11:Tryz.prog.globals.size=11:=ah;intro b hb
 match b,hb with
 | 0,_=>exact fj hs ae (sz:=256) (t:=154) (y0:=5) ah ah ah underlying5 (fun h=>by cases h)
 | 1,_=>exact G6 hs ae (t:=186) ah ah ah underlying186
 | 2,_=>exact fj hs ae (sz:=20) (t:=209) (y0:=54) ah ah ah underlying54 (fun h=>by cases h)
 | 3,_ =>
  obtain⟨t,a,hc⟩:=A6 h hp e3 (g:=3) ah ah;exact vT hs ae (t:=123) ah hc (.inr (.inr ⟨t,a,rfl⟩))
 | 4,_ =>
  obtain⟨t,a,hc⟩:=A6 h hp e4 (g:=4) ah ah;exact vT hs ae (t:=123) ah hc (.inr (.inr ⟨t,a,rfl⟩))
 | 5,_=>exact fj hs ae (sz:=1) (t:=3) (y0:=3) ah ah ah underlying3 (fun _=>rfl)
 | 6,_=>exact fj hs ae (sz:=256) (t:=154) (y0:=5) ah ah ah underlying5 (fun h=>by cases h)
 | 7,_=>exact fj hs ae (sz:=32) (t:=249) (y0:=5) ah ah ah underlying5 (fun h=>by cases h)
 | 8,_=>exact fj hs ae (sz:=32) (t:=250) (y0:=5) ah ah ah underlying5 (fun h=>by cases h)
 | 9,_=>exact fj hs ae (sz:=64) (t:=251) (y0:=5) ah ah ah underlying5 (fun h=>by cases h)
theorem x7(hg:∀ b,b<=9->GB W b){a:Addr}{u:Value}(ha:a.block<=9)(hc:W.cell? a=some u):GK a.block u:=by
 obtain⟨c,e,h1,h2⟩:=hg _ ha;unfold World.cell? at hc;rw [h1] at hc;dsimp only at hc;split at hc
 ·cases hc
 ·exact h2 _ _ hc
theorem E6(hs:W.ShapedOpen Tryz.prog):11<=W.heap.size:=by
 have h0:(((begin Tryz.prog (fun _ _=>0) default).world.heap[10]?).bind Obj.row?).map (fun x=>(x.1.size,x.2))=some (1,186):=ah;have e11:Tryz.prog.globals.size=11:=ah;obtain⟨cs,h1,_⟩:=lO hs ae h0;have:=bW h1;omega
theorem G7{v1:Value}{Jb:List (List De)}(hs:W.ShapedOpen Tryz.prog)(O6:GlobP W)(hg:∀ b,b<=9->GB W b)(hr:Rep (fun _=>.sh) W none (la Jb) v1)(fY:Jb.length*48<=281474976710656):∃ arg,iq W v1 Jb.length (uI Jb) arg:=by
 have RN:=E6 hs;have tab:Hg G1 W:=fun b hb=>by
  obtain⟨c,e,h1,h2⟩:=hg b (iH hb);refine⟨c,e,(0,0),h1,.inr ⟨id,.inl rfl⟩,fun i u hi=>?_⟩;rcases h2 i u hi with⟨k,n,rfl,_⟩|h|h
  ·exact .inl (.int k n)
  ·exact .inr (.inr h)
  ·exact .inr (.inl h)
 have noInt:∀ a n,G2 a.block=true->W.cell? a≠some (.int .i64 n):=fun a n ha hc=>by
  have h9:=Kx ha;rcases x7 hg h9 hc with⟨k,n',h1,h2⟩|⟨_,h⟩|⟨_,_,h⟩
  ·cases h1;have:=h2 rfl;rw [this] at ha;exact absurd ha af
  ·cases h
  ·cases h
 have row:∀ (l:List De) (u:Value),Rep (fun _=>.sh) W none (oB l) u->dn (fun a u=>a.block<W.heap.size/\10<=a.block/\W.cell? a=some u) 9 Ku l u:=fun l u hu=>by
  have h1:dn (mW W) 9 Ku l u:=tC (C:=fun d=>(Ep d).cells) (fun x=>rfl) (fun x=>rfl) Dj hu;rcases h1 with h1|⟨b,o,c,rfl,hc,h1⟩
  ·exact .inl h1
  ·refine .inr ⟨b,o,c,rfl,hc,fun i x hx j hj=>?_⟩;have aa0:=h1 i x hx 2 af;have aH:W.cell? ⟨b,o+(i*9+2),none⟩=some (.string ⟨x.2.2.1.toArray⟩):=aa0;have hb:10<=b:=by
    rcases aia b 10 with h|h
    ·rcases x7 hg (a:=⟨b,o+(i*9+2),none⟩) (by show b<=9;omega) aH with⟨k,n',h1,_⟩|⟨_,h⟩|⟨_,_,h⟩
     ·cases h1
     ·cases h
     ·cases h
    ·exact h
   have aA:b<W.heap.size:=lN aH;exact⟨aA,hb,h1 i x hx j hj⟩
 rcases tB (F:=oB) (C:=fun l=>[oB l]) (k:=1) (fun _=>rfl) (fun _=>rfl) hr with⟨a,c,rfl,rfl⟩|⟨b,o,c,rfl,hc,h1⟩
 ·exact⟨fun _=>undef,RN,⟨a,c,rfl,ahQ _⟩,fY,fun q hq=>absurd hq (ait q),tab,O6,fun q hq=>absurd hq (ait q),noInt⟩
 ·have at_:∀ q,q<Jb.length->∃ u,W.cell? ⟨b,o+q,none⟩=some u/\Rep (fun _=>.sh) W none (oB (uI Jb q)) u:=fun q hq=>by
   have hx:Jb[q]?=some Jb[q]:=ahn hq;obtain⟨u,h2,h3⟩:=h1 q _ hx 0 _ rfl;rw [show q*1+0=q by omega] at h2;rw [x6 hx];exact⟨u,h2,h3⟩
  have arg:∀ q,q<Jb.length->W.cell? ⟨b,o+q,none⟩=some ((W.cell? ⟨b,o+q,none⟩).getD undef)/\Rep (fun _=>.sh) W none (oB (uI Jb q)) ((W.cell? ⟨b,o+q,none⟩).getD undef):=fun q hq=>by
   obtain⟨u,h2,h3⟩:=at_ q hq;rw [h2];exact⟨rfl,h3⟩
  refine⟨fun q=>(W.cell? ⟨b,o+q,none⟩).getD undef,RN,⟨_,c,rfl,hc⟩,fY,fun q hq=>?_,tab,O6,fun q hq=>row _ _ (arg q hq).2,noInt⟩;obtain⟨h2,h3⟩:=arg q hq;refine⟨b,o,c,rfl,lN h2,?_,h2⟩;rcases aia b 10 with h|h
  ·exfalso;have hk:=x7 hg (a:=⟨b,o+q,none⟩) (by show b<=9;omega) h2;generalize (W.cell? ⟨b,o+q,none⟩).getD undef=u at h3 hk;have tO:∃ a l c,u=.slice a l c:=by
    rcases tB (F:=Ep) (C:=fun d=>(Ep d).cells) (k:=9) (fun _=>rfl) (fun _=>rfl) h3 with⟨a,c,rfl,_⟩|⟨b,o,c,rfl,_⟩
    ·exact⟨_,_,_,rfl⟩
    ·exact⟨_,_,_,rfl⟩
   obtain⟨_,_,_,rfl⟩:=tO;rcases hk with⟨_,_,h,_⟩|⟨_,h⟩|⟨_,_,h⟩<;>cases h
  ·exact h
end
end Go.Proofs.YtmbbagbhmjaedaaGreatDoor
namespace FM
open Go Go.RowKit
theorem EStep.KB{S:Sys}{σ bx:St}{o:Oper}{t t2 s i j:Nat}{y y2:AV}{xs:List AV}(ht:get σ t=.rref s i y)(Ii:get σ t2=.rref s j y2)(hs:get σ s=.av (.pt true xs))(hy:y≠.dead)(cH:Nat.beq s t=false)(aa1:Nat.beq s t2=false)(htt:Nat.beq t t2=false)(SJ:Nat.beq i j=false)(hi:Nat.blt i xs.length=true)
  (h:EStep S o (((σ.upd false s (.av (.pt true (xs.set i .dead)))).put t (.av y)).put t2 (.rref s j y2)) bx):EStep S o σ bx:=by
 have ez:i<xs.length:=by have:=ah3 hi;omega
 intro w0 L0 N a w hN ⟨L,hR⟩;have WK:=aJ hR Ii ag;have xq:=aC cH;have ada:=aC aa1;have hh:=hR.hold t2 WK;rw [Ii] at hh;obtain⟨b,h1,h2,h3⟩:=hh
 have Ip:=(hR.wX hs ht hy xq ez).say (t:=t2) (tv:=.rref s j y2) WK ⟨b,cC h1 xq (by simp [strip]),h2,fun hn=>Rep.frame (ahr _) rfl rfl rfl (fun k h1 _=>⟨ew h1,rfl⟩) (h3 hn) _ fun p hp=>by
  cases hp
  exact⟨_,rfl,fun k q hk=>⟨cC (t:=s) (q:=j::q) hk xq (by simp [strip,SJ,ahy]),rfl⟩⟩⟩
 exact h w0 L0 N a w hN ⟨_,Ip⟩
theorem JAS.has{S:Sys}{N:Nat}{ops:Array Oper}{fuel:Nat}{listed:List Bool}{K:St->Prop}{σ:St}(I:List (Nat×TV))(hI:Has σ I)(h:JAS S N ops fuel listed K (jc I)):JAS S N ops fuel listed K σ:=by
 unfold JAS at *;exact fun hd w0 L0 Q a w hp hQ hR=>h hd w0 L0 Q a w hp hQ (hR.weaken (gR hI))
end FM
namespace Go.Proofs.YtmbbagbhmjaedaaGreatDoor
open Go FM Go.Proofs Go.Proofs.Tryz
variable {o:Oper}{σ bx:St}
noncomputable def ND:Code:=Tryz.f10.body.getD .skip
noncomputable def WL:Array Oper:=match ND with|.seq _ (.seq _ (.seq _ (.seq (.seq _ (.block _ (.loop (.seq _ (.seq _ (.seq (.block _ (.seq _ (.seq _ (.region _ o _)))) _)))))) _)))=>o|_=>#[]
theorem w7{S:FM.Sys}(h:Step S o σ bx:=by(with_reducible apply IQ)<;>(first|rfl|exact AV.noConfusion)):Step S o σ bx:=h
theorem w7s{S:FM.Sys}(h:EStep S o σ bx:=by(with_reducible apply Rh)<;>rfl):EStep S o σ bx:=h
theorem j7{S:FM.Sys}{N:Nat}{ops:Array Oper}{fuel:Nat}{listed:List Bool}{K:St->Prop}{I:List (Nat×TV)}(hs:Step S o σ bx)(hg:live ops o.guard σ=some true)(hI:Has bx I)(h:JAS S N ops fuel listed K (jc I)):J false S N ops [o] (JAS S N ops fuel listed K) σ:=J.step hg hs (J.nil (JAS.has I hI h))
theorem SB{S:FM.Sys}{N:Nat}{ops:Array Oper}{fuel:Nat}{listed:List Bool}{K:St->Prop}{I:List (Nat×TV)}(hs:EStep S o σ bx)(hg:live ops o.guard σ=some true)(hI:Has bx I)(h:JAS S N ops fuel listed K (jc I)):J false S N ops [o] (JAS S N ops fuel listed K) σ:=J.fJ hg hs (J.nil (JAS.has I hI h))
abbrev tL(A:List (Int×Int×Int)):AV:=.sl true 2 (eT A)
abbrev eL(A:List (Int×Int×Int)):AV:=.sl true 1 (kq A)
abbrev S7(a2 a3 mj mn a12:AV)(r:List (Nat×TV)):List (Nat×TV):=(2,.av a2)::(3,.av a3)::(r++[(10,.av mj),(11,.av mn),(12,.av a12)])
abbrev N7(v0:Nat->Value)(K:St->Prop)(f:Nat)(l:List Bool)(I:List (Nat×TV)):Prop:=JAS (Sy.fixed 0 v0) 36 WL.toList.toArray f l K (jc I)
section
variable {v0:Nat->Value} {K:St->Prop} {a2 a3 mj mn a12:AV} {t m e:Int} {A:List (Int×Int×Int)} (hA:A.length<=4000000000000) (hK:K (jc (S7 a2 a3 mj mn a12 [(4,.av (.pt true [tL (A++[(t,m,e)]),eL (A++[(t,m,e)])]))])))
include hA hK
theorem iX:N7 v0 K 0 [true,true,true,true,true,true,true,true,true,true,true,true,true,true] (S7 a2 a3 mj mn a12 [(4,.av (.pt true [tL (A++[(t,m,e)]),eL (A++[(t,m,e)])]))]):=by
 refine JAS.done ah ?_;exact hK
theorem kv:N7 v0 K 1 [true,true,true,true,true,true,true,true,true,true,true,true,true,false] (S7 a2 a3 mj mn a12 [(33,.fpt 4 1 .dead),(4,.av (.pt true [tL (A++[(t,m,e)]),.dead])),(31,.av (eL (A++[(t,m,e)])))]):=by
 refine JAS.one (fuel:=0) (i:=13) (by decide +kernel) rfl ?_
 ·refine SB w7s rfl ?_ (iX hA hK);exact ck
theorem nc:N7 v0 K 2 [true,true,true,true,true,true,true,true,true,true,true,true,false,false] (S7 a2 a3 mj mn a12 [(4,.av (.pt true [tL (A++[(t,m,e)]),.dead])),(31,.av (eL (A++[(t,m,e)])))]):=by
 refine JAS.rK (fuel:=1) (i:=12) rfl rfl (by decide +kernel) (by first|exact kU rfl rfl rfl rfl rfl rfl rfl rfl) ?_;exact JAS.has _ ck (kv hA hK)
theorem qu:N7 v0 K 3 [true,true,true,true,true,true,true,true,true,true,true,false,false,false] (S7 a2 a3 mj mn a12 [(32,.fpt 4 0 .dead),(4,.av (.pt true [.dead,.dead])),(31,.av (eL (A++[(t,m,e)]))),(26,.av (tL (A++[(t,m,e)])))]):=by
 refine JAS.one (fuel:=2) (i:=11) (by decide +kernel) rfl ?_
 ·refine SB w7s rfl ?_ (nc hA hK);exact ck
theorem mr:N7 v0 K 4 [true,true,true,true,true,true,true,true,true,false,true,false,false,false] (S7 a2 a3 mj mn a12 [(28,.rref 4 1 (eL A)),(32,.fpt 4 0 .dead),(4,.av (.pt true [.dead,eL A])),(30,.av (.sl true 1 [.int e])),(26,.av (tL (A++[(t,m,e)])))]):=by
 refine JAS.one (fuel:=3) (i:=9) (by decide +kernel) rfl ?_
 ·refine SB (EStep.IP (t:=28) rfl rfl AV.noConfusion rfl rfl (by(with_reducible apply jJ (a:=(t,m,e)))<;>exact bu)) rfl ?_ (qu hA hK);exact ck
theorem A7:N7 v0 K 5 [true,true,true,true,true,true,true,true,false,false,true,false,false,false] (S7 a2 a3 mj mn a12 [(28,.rref 4 1 (eL A)),(32,.fpt 4 0 .dead),(4,.av (.pt true [.dead,eL A])),(29,.av (.int e)),(26,.av (tL (A++[(t,m,e)])))]):=by
 refine JAS.one (fuel:=4) (i:=8) (by decide +kernel) rfl ?_
 ·refine aG (J.nil ?_);exact JAS.has _ ck (mr hA hK)
theorem A8:N7 v0 K 6 [true,true,true,true,true,true,true,true,false,false,false,false,false,false] (S7 a2 a3 mj mn a12 [(28,.rref 4 1 (eL A)),(4,.av (.pt true [.dead,eL A])),(29,.av (.int e)),(26,.av (tL (A++[(t,m,e)])))]):=by
 refine JAS.rK (fuel:=5) (i:=10) rfl rfl (by decide +kernel) (by first|exact kU rfl rfl rfl rfl rfl rfl rfl rfl) ?_;exact JAS.has _ ck (A7 hA hK)
theorem tG:N7 v0 K 5 [true,true,true,true,true,true,true,true,true,false,false,false,false,false] (S7 a2 a3 mj mn a12 [(28,.rref 4 1 (eL A)),(4,.av (.pt true [.dead,eL A])),(30,.av (.sl true 1 [.int e])),(26,.av (tL (A++[(t,m,e)])))]):=by
 refine JAS.rK (fuel:=4) (i:=10) rfl rfl (by decide +kernel) (by first|exact kU rfl rfl rfl rfl rfl rfl rfl rfl) ?_;exact JAS.has _ ck (mr hA hK)
theorem A9:N7 v0 K 6 [true,true,true,true,true,true,false,true,true,false,false,false,false,false] (S7 a2 a3 mj mn a12 [(27,.fpt 4 1 .dead),(4,.av (.pt true [.dead,eL A])),(30,.av (.sl true 1 [.int e])),(26,.av (tL (A++[(t,m,e)])))]):=by
 refine JAS.one (fuel:=5) (i:=6) (by decide +kernel) rfl ?_
 ·refine j7 w7 rfl ?_ (tG hA hK);exact ck
theorem SC:N7 v0 K 7 [true,true,true,true,true,true,false,true,false,false,false,false,false,false] (S7 a2 a3 mj mn a12 [(27,.fpt 4 1 .dead),(4,.av (.pt true [.dead,eL A])),(29,.av (.int e)),(26,.av (tL (A++[(t,m,e)])))]):=by
 refine JAS.two (fuel:=6) (i:=6) (j:=8) (by decide +kernel) rfl rfl ?_ ?_
 ·refine j7 w7 rfl ?_ (A8 hA hK);exact ck
 ·refine aG (J.nil ?_);exact JAS.has _ ck (A9 hA hK)
theorem lP:N7 v0 K 6 [true,true,true,true,false,true,true,true,true,false,false,false,false,false] (S7 a2 a3 mj mn a12 [(28,.rref 4 1 (eL A)),(23,.rref 4 0 (tL A)),(4,.av (.pt true [tL A,eL A])),(30,.av (.sl true 1 [.int e])),(25,.av (.sl true 2 [lV t m]))]):=by
 refine JAS.one (fuel:=5) (i:=4) (by decide +kernel) rfl ?_
 ·refine SB (EStep.KB (t:=23) (t2:=28) rfl rfl rfl AV.noConfusion rfl rfl rfl rfl rfl (by(with_reducible apply jJ (a:=(t,m,e)))<;>exact bu)) rfl ?_ (tG hA hK);exact ck
theorem x8:N7 v0 K 7 [true,true,true,true,false,true,true,true,false,false,false,false,false,false] (S7 a2 a3 mj mn a12 [(28,.rref 4 1 (eL A)),(23,.rref 4 0 (tL A)),(4,.av (.pt true [tL A,eL A])),(29,.av (.int e)),(25,.av (.sl true 2 [lV t m]))]):=by
 refine JAS.two (fuel:=6) (i:=4) (j:=8) (by decide +kernel) rfl rfl ?_ ?_
 ·refine SB (EStep.KB (t:=23) (t2:=28) rfl rfl rfl AV.noConfusion rfl rfl rfl rfl rfl (by(with_reducible apply jJ (a:=(t,m,e)))<;>exact bu)) rfl ?_ (A8 hA hK);exact ck
 ·refine aG (J.nil ?_);exact JAS.has _ ck (lP hA hK)
theorem x9:N7 v0 K 7 [true,true,true,true,false,true,false,true,true,false,false,false,false,false] (S7 a2 a3 mj mn a12 [(27,.fpt 4 1 (eL A)),(23,.rref 4 0 (tL A)),(4,.av (.pt true [tL A,eL A])),(30,.av (.sl true 1 [.int e])),(25,.av (.sl true 2 [lV t m]))]):=by
 refine JAS.two (fuel:=6) (i:=4) (j:=6) (by decide +kernel) rfl rfl ?_ ?_
 ·refine SB (EStep.IP (t:=23) rfl rfl AV.noConfusion rfl rfl (by(with_reducible apply jJ (a:=(t,m,e)))<;>exact bu)) rfl ?_ (A9 hA hK);exact ck
 ·refine j7 w7 rfl ?_ (lP hA hK);exact ck
theorem Pc:N7 v0 K 8 [true,true,true,true,false,true,false,true,false,false,false,false,false,false] (S7 a2 a3 mj mn a12 [(27,.fpt 4 1 (eL A)),(23,.rref 4 0 (tL A)),(4,.av (.pt true [tL A,eL A])),(29,.av (.int e)),(25,.av (.sl true 2 [lV t m]))]):=by
 refine JAS.three (fuel:=7) (i:=4) (j:=6) (k:=8) (by decide +kernel) rfl rfl rfl ?_ ?_ ?_
 ·refine SB (EStep.IP (t:=23) rfl rfl AV.noConfusion rfl rfl (by(with_reducible apply jJ (a:=(t,m,e)))<;>exact bu)) rfl ?_ (SC hA hK);exact ck
 ·refine j7 w7 rfl ?_ (x8 hA hK);exact ck
 ·refine aG (J.nil ?_);exact JAS.has _ ck (x9 hA hK)
theorem tH:N7 v0 K 7 [true,true,true,false,false,true,true,true,true,false,false,false,false,false] (S7 a2 a3 mj mn a12 [(28,.rref 4 1 (eL A)),(23,.rref 4 0 (tL A)),(4,.av (.pt true [tL A,eL A])),(30,.av (.sl true 1 [.int e])),(24,.av (.agg [.int t,.int m]))]):=by
 refine JAS.one (fuel:=6) (i:=3) (by decide +kernel) rfl ?_
 ·refine aG (J.nil ?_);exact JAS.has _ ck (lP hA hK)
theorem KC:N7 v0 K 8 [true,true,true,false,false,true,true,true,false,false,false,false,false,false] (S7 a2 a3 mj mn a12 [(28,.rref 4 1 (eL A)),(23,.rref 4 0 (tL A)),(4,.av (.pt true [tL A,eL A])),(29,.av (.int e)),(24,.av (.agg [.int t,.int m]))]):=by
 refine JAS.two (fuel:=7) (i:=3) (j:=8) (by decide +kernel) rfl rfl ?_ ?_
 ·refine aG (J.nil ?_);exact JAS.has _ ck (x8 hA hK)
 ·refine aG (J.nil ?_);exact JAS.has _ ck (tH hA hK)
theorem KD:N7 v0 K 8 [true,true,true,false,false,true,false,true,true,false,false,false,false,false] (S7 a2 a3 mj mn a12 [(27,.fpt 4 1 (eL A)),(23,.rref 4 0 (tL A)),(4,.av (.pt true [tL A,eL A])),(30,.av (.sl true 1 [.int e])),(24,.av (.agg [.int t,.int m]))]):=by
 refine JAS.two (fuel:=7) (i:=3) (j:=6) (by decide +kernel) rfl rfl ?_ ?_
 ·refine aG (J.nil ?_);exact JAS.has _ ck (x9 hA hK)
 ·refine j7 w7 rfl ?_ (tH hA hK);exact ck
theorem aa2:N7 v0 K 9 [true,true,true,false,false,true,false,true,false,false,false,false,false,false] (S7 a2 a3 mj mn a12 [(27,.fpt 4 1 (eL A)),(23,.rref 4 0 (tL A)),(4,.av (.pt true [tL A,eL A])),(29,.av (.int e)),(24,.av (.agg [.int t,.int m]))]):=by
 refine JAS.three (fuel:=8) (i:=3) (j:=6) (k:=8) (by decide +kernel) rfl rfl rfl ?_ ?_ ?_
 ·refine aG (J.nil ?_);exact JAS.has _ ck (Pc hA hK)
 ·refine j7 w7 rfl ?_ (KC hA hK);exact ck
 ·refine aG (J.nil ?_);exact JAS.has _ ck (KD hA hK)
theorem tI:N7 v0 K 7 [true,false,true,true,false,true,true,true,true,false,false,false,false,false] (S7 a2 a3 mj mn a12 [(28,.rref 4 1 (eL A)),(22,.fpt 4 0 (tL A)),(4,.av (.pt true [tL A,eL A])),(30,.av (.sl true 1 [.int e])),(25,.av (.sl true 2 [lV t m]))]):=by
 refine JAS.one (fuel:=6) (i:=1) (by decide +kernel) rfl ?_
 ·refine j7 w7 rfl ?_ (lP hA hK);exact ck
theorem KE:N7 v0 K 8 [true,false,true,true,false,true,true,true,false,false,false,false,false,false] (S7 a2 a3 mj mn a12 [(28,.rref 4 1 (eL A)),(22,.fpt 4 0 (tL A)),(4,.av (.pt true [tL A,eL A])),(29,.av (.int e)),(25,.av (.sl true 2 [lV t m]))]):=by
 refine JAS.two (fuel:=7) (i:=1) (j:=8) (by decide +kernel) rfl rfl ?_ ?_
 ·refine j7 w7 rfl ?_ (x8 hA hK);exact ck
 ·refine aG (J.nil ?_);exact JAS.has _ ck (tI hA hK)
theorem KF:N7 v0 K 8 [true,false,true,true,false,true,false,true,true,false,false,false,false,false] (S7 a2 a3 mj mn a12 [(27,.fpt 4 1 (eL A)),(22,.fpt 4 0 (tL A)),(4,.av (.pt true [tL A,eL A])),(30,.av (.sl true 1 [.int e])),(25,.av (.sl true 2 [lV t m]))]):=by
 refine JAS.two (fuel:=7) (i:=1) (j:=6) (by decide +kernel) rfl rfl ?_ ?_
 ·refine j7 w7 rfl ?_ (x9 hA hK);exact ck
 ·refine j7 w7 rfl ?_ (tI hA hK);exact ck
theorem aa3:N7 v0 K 9 [true,false,true,true,false,true,false,true,false,false,false,false,false,false] (S7 a2 a3 mj mn a12 [(27,.fpt 4 1 (eL A)),(22,.fpt 4 0 (tL A)),(4,.av (.pt true [tL A,eL A])),(29,.av (.int e)),(25,.av (.sl true 2 [lV t m]))]):=by
 refine JAS.three (fuel:=8) (i:=1) (j:=6) (k:=8) (by decide +kernel) rfl rfl rfl ?_ ?_ ?_
 ·refine j7 w7 rfl ?_ (Pc hA hK);exact ck
 ·refine j7 w7 rfl ?_ (KE hA hK);exact ck
 ·refine aG (J.nil ?_);exact JAS.has _ ck (KF hA hK)
theorem Ba:N7 v0 K 8 [true,false,true,false,false,true,true,true,true,false,false,false,false,false] (S7 a2 a3 mj mn a12 [(28,.rref 4 1 (eL A)),(22,.fpt 4 0 (tL A)),(4,.av (.pt true [tL A,eL A])),(30,.av (.sl true 1 [.int e])),(24,.av (.agg [.int t,.int m]))]):=by
 refine JAS.two (fuel:=7) (i:=1) (j:=3) (by decide +kernel) rfl rfl ?_ ?_
 ·refine j7 w7 rfl ?_ (tH hA hK);exact ck
 ·refine aG (J.nil ?_);exact JAS.has _ ck (tI hA hK)
theorem SD:N7 v0 K 9 [true,false,true,false,false,true,true,true,false,false,false,false,false,false] (S7 a2 a3 mj mn a12 [(28,.rref 4 1 (eL A)),(22,.fpt 4 0 (tL A)),(4,.av (.pt true [tL A,eL A])),(29,.av (.int e)),(24,.av (.agg [.int t,.int m]))]):=by
 refine JAS.three (fuel:=8) (i:=1) (j:=3) (k:=8) (by decide +kernel) rfl rfl rfl ?_ ?_ ?_
 ·refine j7 w7 rfl ?_ (KC hA hK);exact ck
 ·refine aG (J.nil ?_);exact JAS.has _ ck (KE hA hK)
 ·refine aG (J.nil ?_);exact JAS.has _ ck (Ba hA hK)
theorem SE:N7 v0 K 9 [true,false,true,false,false,true,false,true,true,false,false,false,false,false] (S7 a2 a3 mj mn a12 [(27,.fpt 4 1 (eL A)),(22,.fpt 4 0 (tL A)),(4,.av (.pt true [tL A,eL A])),(30,.av (.sl true 1 [.int e])),(24,.av (.agg [.int t,.int m]))]):=by
 refine JAS.three (fuel:=8) (i:=1) (j:=3) (k:=6) (by decide +kernel) rfl rfl rfl ?_ ?_ ?_
 ·refine j7 w7 rfl ?_ (KD hA hK);exact ck
 ·refine aG (J.nil ?_);exact JAS.has _ ck (KF hA hK)
 ·refine j7 w7 rfl ?_ (Ba hA hK);exact ck
theorem aa4:N7 v0 K 10 [true,false,true,false,false,true,false,true,false,false,false,false,false,false] (S7 a2 a3 mj mn a12 [(27,.fpt 4 1 (eL A)),(22,.fpt 4 0 (tL A)),(4,.av (.pt true [tL A,eL A])),(29,.av (.int e)),(24,.av (.agg [.int t,.int m]))]):=by
 refine JAS.four (fuel:=9) (i:=1) (j:=3) (k:=6) (m:=8) (by decide +kernel) rfl rfl rfl rfl ?_ ?_ ?_ ?_
 ·refine j7 w7 rfl ?_ (aa2 hA hK);exact ck
 ·refine aG (J.nil ?_);exact JAS.has _ ck (aa3 hA hK)
 ·refine j7 w7 rfl ?_ (SD hA hK);exact ck
 ·refine aG (J.nil ?_);exact JAS.has _ ck (SE hA hK)
end
theorem NF{v0:Nat->Value}{Q:Exit->St->Prop}{a2 a3 mj mn a12:AV}{t m e:Int}{A:List (Int×Int×Int)}(hA:A.length<=4000000000000)(hK:Q .normal (jc (S7 a2 a3 mj mn a12 [(4,.av (.pt true [tL (A++[(t,m,e)]),eL (A++[(t,m,e)])]))]))):
  CW (Sy.fixed 0 v0) 36 (.region 7 WL.toList.toArray true) Q (jc [(2,.av a2),(3,.av a3),(4,.av (.pt true [tL A,eL A])),(7,.av (.pt true (lV t m).cells)),(8,.av (.int e)),(10,.av mj),(11,.av mn),(12,.av a12)]):=by
 refine CW.freeze 7 rfl (Oo t m) rfl ?_;refine CW.UD 0 14 ?_ (List.replicate 0 true++List.replicate 14 false) ?_ ?_ ?_
 ·kernel_rfl
 ·kernel_rfl
 ·kernel_rfl
 rw [List.take_zero];refine J.nil ?_;refine JA.held ?_;refine JAF.take (fuel:=13) (i:=0) rfl rfl (by decide +kernel) (StepW.toS (by first|exact kU rfl rfl rfl rfl rfl rfl rfl rfl)) ?_;refine JAF.take (fuel:=12) (i:=2) rfl rfl (by decide +kernel) (by(with_reducible apply IJ)<;>rfl) ?_;refine JAF.take (fuel:=11) (i:=5) rfl rfl (by decide +kernel) (StepW.toS (by first|exact kU rfl rfl rfl rfl rfl rfl rfl rfl)) ?_;refine JAF.take (fuel:=10) (i:=7) rfl rfl (by decide +kernel) (StepW.toS (StepW.QM (.inl rfl) FM.st)) ?_;refine JAF.go ?_;exact JAS.has _ ck (aa4 hA hK)
end Go.Proofs.YtmbbagbhmjaedaaGreatDoor
namespace Go.Proofs.YtmbbagbhmjaedaaGreatDoor
open Go FM Go.Proofs Go.Proofs.Tryz
theorem NG(R:Er)(hR:vk R)(l:List De)(hl:l.length<=4000000000000)(hd:∀ d∈l,sw d):FnSpec Sy.P 10 [oB l] [oB l] (KX (qL R qj l)):=by
 have hN:=Is;have hF:=fun(s:Hs) (d:De) (hs:k8 s) (h:sw d)=>(hR s d hs h).f;refine bQ func10 ntmps10 fun v0=>?_;repeat' first|refine aG ?_|refine aF (hN) ?_|(refine aK ?_ ?_<;>intro _<;>try exact aE)|fail
 refine CW.Vn 4 (cs':=[.sl true 2 (eT []),.sl true 1 (kq [])]) rfl rfl Zy ?_;refine CW.loop (fun z:Nat×Hs×List (Int×Int×Int)=>[(2,.av (.pt true [.nil,.nil])),(3,.av (km z.2.1.A z.2.1.O z.2.1.k z.2.1.n)),(4,.av (.pt true [.sl true 2 (eT z.2.2),.sl true 1 (kq z.2.2)])),(10,.av (oB l)),(11,.av (.int (l.length))),(12,.av (.int (z.1)))]) (fun z=>z.1<=l.length/\z.2.1=On R qj (l.take z.1)/\z.2.2=qL R qj (l.take z.1)) (fun z=>l.length-z.1) ((0,qj,[])) ?_ (ck) ?_
 ·exact⟨ahQ _,rfl,rfl⟩
 rintro⟨k,s,A⟩ ⟨hk,hs,hA⟩;dsimp only at hk hs hA ⊢;by_cases aA:k<l.length
 ·have hx:l[k]?=some l[k]:=ahn aA;have hD:=hd _ (ahB aA);have e1:=zS (R:=R) (s:=qj) aA;have e2:=zT (R:=R) (s:=qj) aA;rw [<- hs] at e1 e2;rw [<- hA] at e2;have Zz:k8 s:=hs▸Cd hR _ Vo fun d h=>hd d (aii h);have hAl:A.length<=l.length:=by rw [hA,nR,ahF];omega
  clear hs hA;generalize l[k]=d at *;have hF:=hF s d Zz hD;generalize (R s d)=r at *;obtain⟨s',t,m,e⟩:=r;dsimp only at hF e1 e2;obtain⟨kd,n0,w,dl,⟨⟩⟩:=d;repeat' first|(refine NF (t:=t) (m:=m) (e:=e) (A:=A) ae ?_)|(refine CW.cut (c:=.region 6 _ _) [(2,.av (.pt true [.nil,.nil])),(3,.av (km s'.A s'.O s'.k s'.n)),(4,.av (.pt true [.sl true 2 (eT A),.sl true 1 (kq A)])),(7,.av (.pt true (lV t m).cells)),(8,.av (.int e)),(10,.av (oB l)),(11,.av (.int l.length)),(12,.av (.int k))] ?_ ?_)|exact Qv|((with_reducible apply J.step);rfl;((with_reducible apply jS)<;>(first|rfl|exact AV.noConfusion)))|((with_reducible apply J.step);rfl;((with_reducible apply IQ)<;>(first|rfl|exact AV.noConfusion)))|refine aG ?_|refine Xe (hF) ?_|(refine aK ?_ ?_<;>intro _<;>try exact aE)|fail
  all_goals
   refine⟨(k+1,s',A++[(t,m,e)]),?_,fM,ck⟩;exact⟨by simp only;omega,e1.symm,e2.symm⟩
 ·obtain rfl:k=l.length:=ae;have ZA:A=qL R qj l:=by rw [hA,aiM (ahr _)]
  subst ZA;repeat' first|(refine J.aN 4 rfl rfl (MJ _) rfl ?_)|refine uc @jX ?_|refine aG ?_|(refine aK ?_ ?_<;>intro _<;>try exact aE)|fail
  all_goals first|(exfalso;omega)|exact Ret.KN rfl (.refl _) rfl
end Go.Proofs.YtmbbagbhmjaedaaGreatDoor
