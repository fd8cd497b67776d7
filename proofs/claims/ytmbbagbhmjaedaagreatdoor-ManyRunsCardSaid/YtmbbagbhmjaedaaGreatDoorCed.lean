/- Part of the proof. -/
import Derived.Test.YtmbbagbhmjaedaaGreatDoorCec
set_option linter.all false
set_option maxRecDepth 10000
namespace CO
open Go Go.Conc Go.ConcN Go.RowKit
structure Lay(W:World)(l:List Obj)(w:World):Prop where
 size:w.heap.size=W.heap.size+l.length
 old:∀ b,b<W.heap.size->w.heap[b]?=W.heap[b]?
 at_:∀ (i:Nat) o,l[i]?=some o->w.heap[W.heap.size+i]?=some o
 out2:fF W w
theorem Lay.nil(W:World):Lay W [] W:=⟨rfl,fun _ _=>rfl,fun i o h=>by simp at h,.refl W⟩
section
variable {W w:World} {l:List Obj}
theorem AI(w:World)(o:Obj)(b:Nat):(w.alloc o).heap[b]?=if b=w.heap.size then some o else w.heap[b]?:=by
 simp only [World.alloc,aiB]
theorem Lay.alloc(h:Lay W l w)(o:Obj):Lay W (l++[o]) (w.alloc o):=by
 refine⟨by simp [h.size];omega,fun b hb=>?_,fun i x hx=>?_,⟨h.out2.os,h.out2.output⟩⟩
 ·rw [AI,if_neg (by rw [h.size];omega)];exact h.old b hb
 ·rw [AI,h.size];rw [List.getElem?_append] at hx;split at hx
  ·rw [if_neg ae];exact h.at_ i x hx
  ·rename_i hl;have hi:=(aho.1 hx).1;simp at hi;have:i=l.length:=ae;subst this;rw [if_pos rfl];simpa using hx
theorem Lay.set(h:Lay W l w){i:Nat}(hi:i<l.length)(o:Obj):Lay W (l.set i o) { w with heap:=w.heap.setIfInBounds (W.heap.size+i) o }:=by
 refine⟨by simp [h.size],fun b hb=>?_,fun j x hx=>?_,⟨h.out2.os,h.out2.output⟩⟩
 ·show(w.heap.setIfInBounds (W.heap.size+i) o)[b]?=_;rw [ahw ae];exact h.old b hb
 ·show(w.heap.setIfInBounds (W.heap.size+i) o)[W.heap.size+j]?=_;rw [aio] at hx;by_cases e:i=j
  ·subst e;rw [if_pos rfl,if_pos hi] at hx;cases hx;rw [ahS (by rw [h.size];omega)]
  ·rw [if_neg e] at hx;rw [ahw ae];exact h.at_ j x hx
theorem Lay.setRow(h:Lay W l w){i:Nat}{old:Array Value}{e:TypeId}{z:Nat×Nat}(hi:l[i]?=some (.cells old e z))(cs:Array Value):Lay W (l.set i (.cells cs e z)) (w.setRow (W.heap.size+i) cs):=by
 have hl:=(aho.1 hi).1;have hg:=h.at_ i _ hi;refine⟨by simp [h.size],fun b hb=>?_,fun j x hx=>?_,⟨h.out2.os,h.out2.output⟩⟩
 ·rw [setRow_other _ _ _ _ ae];exact h.old b hb
 ·rw [aio] at hx;by_cases e:i=j
  ·subst e;rw [if_pos rfl,if_pos hl] at hx;cases hx;exact setRow_heap w _ _ _ _ _ hg
  ·rw [if_neg e] at hx;rw [setRow_other _ _ _ _ ae];exact h.at_ j x hx
theorem Lay.cell(h:Lay W l w){i:Nat}{c:Array Value}{e:TypeId}{z:Nat×Nat}(hi:l[i]?=some (.cells c e z))(o:Nat):w.cell? ⟨W.heap.size+i,o,none⟩=c[o]?:=by
 unfold World.cell?;simp [h.at_ i _ hi]
end
theorem yl{ops:Array Oper}{T:Array Value}{j d:Nat}{b:Bool}(h:(ops[j]?).bind (·.dst)=some d)(hg:T.getD d undef=.bool b):yielded ops T j=some b:=by
 unfold yielded;rw [h];rw [ahA] at hg;simp only [aiJ]
 cases hT:T[d]? with
 | none=>rw [hT] at hg;cases hg
 | some v=>rw [hT] at hg;simp at hg;subst hg;rfl
end CO
namespace CO
open Go
theorem C4{P:Program}{ρ:Ren}(hG:∀ g,P.globals.findIdx? (·.name == "internal/bytealg.MaxLen")=some g->∃ n,ρ.m ⟨g,0,none⟩ (.int .i64 n)){p p':Array Value}(h:AR ρ p p'):SR P VV ρ (Extern.BytealgIndex.index p) (Extern.BytealgIndex.index p'):=by
 rcases h.two with⟨x,x',y,y',rfl,rfl,hx,hy⟩|⟨h1,h2⟩
 ·refine(fc hx).seq fun db dj a _ e=>?_;subst e;refine(fc (hy.mono dj)).seq fun dX bZ b _ e=>?_;subst e;have hl:=dj.trans bZ;have ml:SR P bM dX Extern.BytealgIndex.maxLen Extern.BytealgIndex.maxLen:=by
   unfold Extern.BytealgIndex.maxLen;refine SR.seq (R:=fun _ (x y:Addr)=>y=x/\∃ n,dX.m x (.int .i64 n)) (s:=globalAddr _) (s':=globalAddr _) ?_ fun tQ fH u u' hu=>?_
   ·refine cP ?_
    cases hg:P.globals.findIdx? (·.name == "internal/bytealg.MaxLen") with
    | none=>exact .halt
    | some g=>exact .pure ⟨rfl,by rw [hl.m];exact hG g hg⟩
   ·obtain⟨rfl,n,hn⟩:=hu;exact .peek (by rw [fH.m];exact hn) (dH (.int _ _))
  refine ml.seq fun tQ fH m _ e=>?_;subst e;refine ar_ite (fun _=>.halt) fun _=>ar_ite (fun _=>.halt) fun _=>?_
  cases (List.range (a.size+1-b.size)).find? fun i=>a.extract i (i+b.size)==b with
  | none=>exact .pure (.int _ _)
  | some i=>exact .pure (.int _ _)
 ·refine .dead ?_;obtain⟨l⟩:=p
  match l with
  | []=>exact .halt trivial
  | [x]=>exact .halt trivial
  | [x,y]=>exact absurd rfl (h1 x y)
  | x::y::z::l=>exact .halt trivial
end CO
namespace Go.Proofs.YtmbbagbhmjaedaaGreatDoor
open Go CO Tryz
def OM:List Nat:=[16,39,40,50,53,57,58,63,68,69,70,71,72,73,74,75,76,87,88,92,93,94,95,96,97,98,99,100,101,102,103,104,105,106,107,108,120,121,122,123,125,126,127,128,129,130,131,132,133,134,135,136,137,138,139,140,141,142,143,145,151,152,153,154,155,158,159,160,161,162,163,164,165,166,167,170,171,172,173,174,175,176,177,178,179,180,181,182,183,185,188,190,191,192,193,194,195,196,197,199]
def Lb:List Nat:=[5,13,14,15,16,17,18,19,20,21,22,23,24,25,46,47,48,49,50,51,52,53,54,55,56,57,58,59,60,61,62,63,78,79,80,82,83,84,85,86,87,88,89,90,91,92,93,109,110,111,112,113,114,115,116,117,118,119,120,121,122,123,124,125,126,127,128,129,144,145,146,147,148,151,152,153,154,155,156,157,158,159,160,167,168,169,170,171,172,173,186,187,188,195]
def lv1:List Nat:=[184,189,198]
def lv2:List Nat:=[81,149,150,189,198]
def C5(ty k:Nat):Option Nat:=if ty==27&&k==1 then some 2 else if ty==22&&k==3 then some 4 else if ty==23&&k==6 then some 7 else if ty==34&&k==10 then some 12 else if ty==35&&k==11 then some 13 else none
def C6(ty i k:Nat):Option Nat:=if ty==46&&i==0&&k==7 then some 8 else if ty==46&&i==1&&k==7 then some 9 else none
def R3(ty k:Nat):Option Nat:=if ty==39&&k==2 then some 0 else if ty==27&&k==4 then some 1 else if ty==34&&k==8 then some 10 else if ty==35&&k==9 then some 11 else if ty==41&&k==12 then some 0 else if ty==24&&k==13 then some 0 else none
def R4(ty k:Nat):Bool:=ty==27&&k==1||ty==22&&k==3||ty==23&&k==6||ty==34&&k==10||ty==35&&k==11
def tu:CC:=⟨fun f t=>if f==10 then(if t==0||t==10 then 1 else if t==14 then 2 else 0) else 0,C5,C6,R3,R4⟩
def K3(t:Nat):Nat:=if [1,19,41,45].elem t then 3 else if t==50 then 4 else if [8,51,53].elem t then 1 else if t==57 then 2 else if [5,32,39,76,85].elem t then 6 else if t==78||t==87 then 7 else if t==79 then 8 else if t==88 then 9 else if t==80 then 10 else if t==89 then 11 else if [17,18,20,21].elem t then 5 else 0
def K6(s q:Nat)(t:Nat):Nat:=if [0,6,11,16].elem t then s else if t==18 then q else 0
def j9:CC:=⟨fun f t=>if f==3 then K3 t else if f==6 then K6 10 12 t else if f==7 then K6 11 13 t else 0,C5,C6,R3,R4⟩
def G1:Nat->Bool:=fun g=>Nat.ble g 9
def G2:Nat->Bool:=fun g=>Nat.ble g 9&&!(Nat.beq g 5)
section
variable (m:Addr->Value->Prop)
def qT:Value->Prop:=Sl m [Pl,Pl]
def qE:Value->Prop:=Sl m [Pl]
def qD:Value->Prop:=Sl m (List.replicate 9 Pl)
def dv:Nat->Value->Prop
 | 1=>qD m
 | 2=>Pt m (List.replicate 9 Pl)
 | 3=>Sl m [qD m]
 | 4=>Pt m [qD m]
 | 5=>fun _=>True
 | 6=>Sl m [qT m,qE m]
 | 7=>Pt m [qT m,qE m]
 | 8=>Pt m [qT m]
 | 9=>Pt m [qE m]
 | 10=>qT m
 | 11=>qE m
 | 12=>Pt m [Pl,Pl]
 | 13=>Pt m [Pl]
 | _=>fun _=>False
theorem V5:I3 Tryz.prog:=zOk ah
def kr:Env Tryz.prog:=⟨fun f=>OM.elem f||lv1.elem f,G1,V5,fun f=>f==10,tu,dv m,m⟩
def lA:Env Tryz.prog:=⟨fun f=>Lb.elem f||lv2.elem f,G2,V5,fun f=>f==6||f==7,j9,dv m,m⟩
end
def Kb(D:CC)(f:Nat)(r:ResultVar):Bool:=match r with
 | .tmp t=>D.K f t==0
 | .cell a _=>D.K f a==0
noncomputable def j1 (Gf F F2:Nat->Bool) (D:CC) (f:Nat):Bool:=match (Tryz.prog).funcs[f]? with
 | some fn=>!(fn.name == "runtime.NumGoroutine")&&fn.results.all (Kb D f)&&(match fn.body with
  | some c=>Bj Tryz.prog F ⟨Gf,f,D,F2⟩ c
  | none=>false)
 | none=>false
theorem EM:(OM.all fun f=>j1 G1 (fun f=>OM.elem f||lv1.elem f) (fun f=>f==10) tu f)=true:=ah
theorem Kc:j1 G1 (fun f=>OM.elem f||lv1.elem f) (fun f=>f==10) tu 10=true:=ah
theorem EN:(Lb.all fun f=>j1 G2 (fun f=>Lb.elem f||lv2.elem f) (fun f=>f==6||f==7) j9 f)=true:=ah
theorem OO:j1 G2 (fun f=>Lb.elem f||lv2.elem f) (fun f=>f==6||f==7) j9 6=true:=ah
theorem OP:j1 G2 (fun f=>Lb.elem f||lv2.elem f) (fun f=>f==6||f==7) j9 7=true:=ah
theorem gF {Gf F F2:Nat->Bool} {D:CC} {f:Nat} (h:j1 Gf F F2 D f=true):∃ fn c,Tryz.prog.funcs[f]?=some fn/\(fn.name == "runtime.NumGoroutine")=false/\fn.body=some c/\Bj Tryz.prog F ⟨Gf,f,D,F2⟩ c=true/\fn.results.all (Kb D f)=true:=by
 unfold j1 at h
 cases hf:Tryz.prog.funcs[f]? with
 | none=>rw [hf] at h;cases h
 | some fn =>
  rw [hf] at h;dsimp only at h
  cases hb:fn.body with
  | none=>rw [hb] at h;simp at h
  | some c =>
   rw [hb] at h;simp only [aht,Bool.not_eq_true'] at h;exact⟨fn,c,rfl,h.1.1,hb,h.2,h.1.2⟩
theorem EO{F:Nat}{fn:Func}(l:List Nat)(hl:(l.all fun f=>((Tryz.prog.funcs[f]?).bind (·.body)).isNone)=true)(hF:l.elem F=true)(hf:Tryz.prog.funcs[F]?=some fn):fn.body=none:=by
 have:=ahM.1 hl F (by simpa using hF);rw [hf] at this;simpa using this
theorem EP{m:Addr->Value->Prop}{Gf F F2:Nat->Bool}{K:FuncId->Nat->Nat}:Jn (P:=Tryz.prog) ⟨F,Gf,V5,F2,⟨K,C5,C6,R3,R4⟩,dv m,m⟩:=by
 have W:∀ {k:Nat} {ρ:Ren} {s s':Sem Value} {Q:Value->Prop},(k==0)=false->dv m k=Q->SR Tryz.prog (fun _ a b=>b=a/\Q a) ρ s s'->SR Tryz.prog (KR (P:=Tryz.prog) ⟨F,Gf,V5,F2,⟨K,C5,C6,R3,R4⟩,dv m,m⟩ k) ρ s s':=fun{k ρ s s' Q} hk e h=>h.Bn fun aQ a b ⟨h1,h2⟩=>by
  unfold KR;rw [if_neg (by simpa using hk)];exact⟨h1,.inr (by show dv m k a;rw [e];exact h2)⟩
 have W0:∀ {ρ:Ren} {s s':Sem Value},SR Tryz.prog VV ρ s s'->SR Tryz.prog (KR (P:=Tryz.prog) ⟨F,Gf,V5,F2,⟨K,C5,C6,R3,R4⟩,dv m,m⟩ 0) ρ s s':=fun h=>h.Bn fun aQ a b h=>by unfold KR;rw [if_pos rfl];exact h
 refine⟨?_,?_,?_,?_⟩
 ·intro ty k k' hk h x hx ρ Bc y y' hy;change C5 ty k=some k' at h;change x=Go.undef∨dv m k x at hx;unfold C5 at h;split at h
  ·rename_i e;simp only [aht,beq_iff_eq] at e;obtain⟨rfl,rfl⟩:=e;cases h;exact W rfl rfl (tc (m:=m) (cps:=List.replicate 9 Pl) (e:=39) ah ah hx hy)
  split at h
  ·rename_i e;simp only [aht,beq_iff_eq] at e;obtain⟨rfl,rfl⟩:=e;cases h;exact W rfl rfl (tc (m:=m) (cps:=[qD m]) (e:=27) ah ah hx hy)
  split at h
  ·rename_i e;simp only [aht,beq_iff_eq] at e;obtain⟨rfl,rfl⟩:=e;cases h;exact W rfl rfl (tc (m:=m) (cps:=[qT m,qE m]) (e:=46) ah ah hx hy)
  split at h
  ·rename_i e;simp only [aht,beq_iff_eq] at e;obtain⟨rfl,rfl⟩:=e;cases h;exact W rfl rfl (tc (m:=m) (cps:=[Pl,Pl]) (e:=41) ah ah hx hy)
  split at h
  ·rename_i e;simp only [aht,beq_iff_eq] at e;obtain⟨rfl,rfl⟩:=e;cases h;exact W rfl rfl (tc (m:=m) (cps:=[Pl]) (e:=24) ah ah hx hy)
  ·cases h
 ·intro ty i k k' hk h x hx ρ Bc;change C6 ty i k=some k' at h;change x=Go.undef∨dv m k x at hx;unfold C6 at h;split at h
  ·rename_i e;simp only [aht,beq_iff_eq] at e;obtain⟨⟨rfl,rfl⟩,rfl⟩:=e;cases h;obtain⟨fs,f,h1,h2,h3,h4⟩:∃ fs f,Tryz.prog.underlying 46=some (.struct fs)/\fs[0]?=some f/\(Tryz.prog.info? f.type).map (·.size)=some 1/\f.offset=0:=⟨_,_,underlying46,rfl,ah,rfl⟩;exact W rfl rfl (JR (m:=m) (cps:=[qT m,qE m]) h1 h2 h3 af (by rw [h4];rfl) hx)
  split at h
  ·rename_i e;simp only [aht,beq_iff_eq] at e;obtain⟨⟨rfl,rfl⟩,rfl⟩:=e;cases h;obtain⟨fs,f,h1,h2,h3,h4⟩:∃ fs f,Tryz.prog.underlying 46=some (.struct fs)/\fs[1]?=some f/\(Tryz.prog.info? f.type).map (·.size)=some 1/\f.offset=1:=⟨_,_,underlying46,rfl,ah,rfl⟩;exact W rfl rfl (JR (m:=m) (cps:=[qT m,qE m]) h1 h2 h3 af (by rw [h4];rfl) hx)
  ·cases h
 ·intro ty k k' hk h x hx ρ Bc;change R3 ty k=some k' at h;change x=Go.undef∨dv m k x at hx;have aar:ρ.m=m:=Bc;subst aar;unfold R3 at h;split at h
  ·rename_i e;simp only [aht,beq_iff_eq] at e;obtain⟨rfl,rfl⟩:=e;cases h;exact W0 (JU underlying39 ah hx)
  split at h
  ·rename_i e;simp only [aht,beq_iff_eq] at e;obtain⟨rfl,rfl⟩:=e;cases h;exact W rfl rfl (xO underlying27 rfl hx)
  split at h
  ·rename_i e;simp only [aht,beq_iff_eq] at e;obtain⟨rfl,rfl⟩:=e;cases h;exact W rfl rfl (xO underlying34 rfl hx)
  split at h
  ·rename_i e;simp only [aht,beq_iff_eq] at e;obtain⟨rfl,rfl⟩:=e;cases h;exact W rfl rfl (xO underlying35 rfl hx)
  split at h
  ·rename_i e;simp only [aht,beq_iff_eq] at e;obtain⟨rfl,rfl⟩:=e;cases h;exact W0 (JU (n:=2) underlying41 ah hx)
  split at h
  ·rename_i e;simp only [aht,beq_iff_eq] at e;obtain⟨rfl,rfl⟩:=e;cases h;exact W0 ((xO (Q:=Pl) underlying24 rfl hx).Bn fun aQ a b ⟨h1,h2⟩=>by subst h1;exact h2.vr aQ)
  ·cases h
 ·intro ty k hk h x hx ρ t cs Bc;change R4 ty k=true at h;change x=Go.undef∨dv m k x at hx;unfold R4 at h;simp only [aiR,aht,beq_iff_eq] at h;rcases h with(((⟨rfl,rfl⟩|⟨rfl,rfl⟩)|⟨rfl,rfl⟩)|⟨rfl,rfl⟩)|⟨rfl,rfl⟩
  ·exact AD (m:=m) (cps:=List.replicate 9 Pl) (e:=39) ah hx t cs
  ·exact AD (m:=m) (cps:=[qD m]) (e:=27) ah hx t cs
  ·exact AD (m:=m) (cps:=[qT m,qE m]) (e:=46) ah hx t cs
  ·exact AD (m:=m) (cps:=[Pl,Pl]) (e:=41) ah hx t cs
  ·exact AD (m:=m) (cps:=[Pl]) (e:=24) ah hx t cs
theorem Nn:(lv1.all fun f=>((Tryz.prog.funcs[f]?).bind (·.body)).isNone)=true:=ah
theorem No:(lv2.all fun f=>((Tryz.prog.funcs[f]?).bind (·.body)).isNone)=true:=ah
theorem jE(m:Addr->Value->Prop):cf (kr m):=by
 have at_:∀ f,(OM.elem f||lv1.elem f)=true∨(f==10)=true->lv1.elem f=true∨j1 G1 (fun f=>OM.elem f||lv1.elem f) (fun f=>f==10) tu f=true:=fun f h=>by
  rcases h with h|h
  ·rcases aiR _ _ |>.mp h with h|h
   ·exact .inr (ahM.1 EM f (by simpa using h))
   ·exact .inl h
  ·rw [beq_iff_eq] at h;subst h;exact .inr Kc
 refine⟨fun f fn c hF hf hb=>?_,fun f fn hF hf=>?_,fun f t hF=>?_,fun f hF=>?_,EP⟩
 ·rcases at_ f hF with h|h
  ·rw [EO lv1 Nn h hf] at hb;cases hb
  ·obtain⟨Kd,c',h1,_,h2,h3,_⟩:=gF h;rw [hf] at h1;cases h1;rw [hb] at h2;cases h2;exact h3
 ·rcases at_ f hF with h|h
  ·have hK:tu.K f=fun _=>0:=by
    funext t;show(if f==10 then _ else 0)=0;rw [if_neg (fun e=>by rw [beq_iff_eq] at e;subst e;revert h;decide)]
   show fn.results.all _=true;rw [aiN];intro i hi;show(match fn.results[i] with|.tmp t=>tu.K f t==0|.cell a _=>tu.K f a==0)=true;rw [hK];cases fn.results[i]<;>rfl
  ·obtain⟨Kd,c',h1,_,_,_,h4⟩:=gF h;rw [hf] at h1;cases h1;rw [aiN] at h4;show fn.results.all _=true;rw [aiN];exact h4
 ·show(if f==10 then _ else 0)=0;rw [if_neg (fun e=>by rw [beq_iff_eq] at e;subst e;revert hF;show(OM.elem 10||lv1.elem 10)=true->False;decide)]
 ·have e:f=10:=by simpa [kr] using hF
  subst e;obtain⟨Kd,c',h1,h2,h3,_⟩:=gF Kc;exact⟨Kd,c',h1,h2,h3⟩
theorem vI(m:Addr->Value->Prop):cf (lA m):=by
 have at_:∀ f,(Lb.elem f||lv2.elem f)=true∨(f==6||f==7)=true->lv2.elem f=true∨j1 G2 (fun f=>Lb.elem f||lv2.elem f) (fun f=>f==6||f==7) j9 f=true:=fun f h=>by
  rcases h with h|h
  ·rcases aiR _ _ |>.mp h with h|h
   ·exact .inr (ahM.1 EN f (by simpa using h))
   ·exact .inl h
  ·simp only [aiR,beq_iff_eq] at h;rcases h with rfl|rfl
   ·exact .inr OO
   ·exact .inr OP
 have hK0:∀ f,(f==3)=false->(f==6)=false->(f==7)=false->j9.K f=fun _=>0:=fun f h1 h2 h3=>by
  funext t;show(if f==3 then _ else if f==6 then _ else if f==7 then _ else 0)=0;rw [h1,h2,h3];rfl
 have hlv:∀ f,lv2.elem f=true->j9.K f=fun _=>0:=fun f h=>by
  refine hK0 f ?_ ?_ ?_<;>(rw [beq_eq_false_iff_ne];rintro rfl;revert h;decide)
 refine⟨fun f fn c hF hf hb=>?_,fun f fn hF hf=>?_,fun f t hF=>?_,fun f hF=>?_,EP⟩
 ·rcases at_ f hF with h|h
  ·rw [EO lv2 No h hf] at hb;cases hb
  ·obtain⟨Kd,c',h1,_,h2,h3,_⟩:=gF h;rw [hf] at h1;cases h1;rw [hb] at h2;cases h2;exact h3
 ·rcases at_ f hF with h|h
  ·show fn.results.all _=true;rw [aiN];intro i hi;show(match fn.results[i] with|.tmp t=>j9.K f t==0|.cell a _=>j9.K f a==0)=true;rw [hlv f h];cases fn.results[i]<;>rfl
  ·obtain⟨Kd,c',h1,_,_,_,h4⟩:=gF h;rw [hf] at h1;cases h1;rw [aiN] at h4;show fn.results.all _=true;rw [aiN];exact h4
 ·show j9.K f t=0;have V6:(Lb.elem f||lv2.elem f)=true:=hF;rw [hK0 f ?_ ?_ ?_];all_goals (rw [beq_eq_false_iff_ne];rintro rfl;revert V6;decide)
 ·have e:f=6∨f=7:=by simpa [lA] using hF
  rcases e with rfl|rfl
  ·obtain⟨Kd,c',h1,h2,h3,_⟩:=gF OO;exact⟨Kd,c',h1,h2,h3⟩
  ·obtain⟨Kd,c',h1,h2,h3,_⟩:=gF OP;exact⟨Kd,c',h1,h2,h3⟩
theorem na(f:Nat)(e:Array Value->Sem Value)(h:(match Tryz.prog.funcs[f]? with|some fn=>!(fn.name == "runtime.NumGoroutine")&&fn.body.isNone&&(Extern.findNext fn).isNone|none=>false)=true)(he:((Tryz.prog.funcs[f]?).bind Extern.find)=some e):
  ∃ fn,Tryz.prog.funcs[f]?=some fn/\(fn.name == "runtime.NumGoroutine")=false/\fn.body=none/\Extern.findNext fn=none/\Extern.find fn=some e:=by
 cases hf:Tryz.prog.funcs[f]? with
 | none=>rw [hf] at h;cases h
 | some fn =>
  rw [hf] at h he;simp only [aht,Bool.not_eq_true',Option.isNone_iff_eq_none] at h;exact⟨fn,rfl,h.1.1,h.1.2,h.2,he⟩
theorem aas{m:Addr->Value->Prop}{E:Env Tryz.prog}{ρ:Ren}(hG:E.G=G1)(hc:Cx E ρ):∀ g,Tryz.prog.globals.findIdx? (·.name == "internal/bytealg.MaxLen")=some g->ρ g g:=fun g hg=>by
 have e:Tryz.prog.globals.findIdx? (·.name == "internal/bytealg.MaxLen")=some 5:=ah;rw [e] at hg;cases hg;exact hc.gl 5 (by rw [hG];rfl)
theorem aat(E:Env Tryz.prog):pW E 184:=by
 obtain⟨fn,h1,h2,h3,h4,h5⟩:=na 184 Extern.BytealgCount.count ah ah;exact⟨fn,_,h1,h2,h3,h4,h5,fun ρ hc p p' h=>Jl h⟩
theorem V7(E:Env Tryz.prog):pW E 198:=by
 obtain⟨fn,h1,h2,h3,h4,h5⟩:=na 198 Extern.BytealgIndexByte.indexByte ah ah;exact⟨fn,_,h1,h2,h3,h4,h5,fun ρ hc p p' h=>xE h⟩
theorem aau(E:Env Tryz.prog)(hG:E.G=G1):pW E 189:=by
 obtain⟨fn,h1,h2,h3,h4,h5⟩:=na 189 Extern.BytealgIndex.index ah ah;exact⟨fn,_,h1,h2,h3,h4,h5,fun ρ hc p p' h=>Gq (aas (m:=E.m) hG hc) h⟩
theorem aav(E:Env Tryz.prog):pW E 149:=by
 obtain⟨fn,h1,h2,h3,h4,h5⟩:=na 149 Extern.AbiNoEscape.same ah ah;exact⟨fn,_,h1,h2,h3,h4,h5,fun ρ hc p p' h=>MX h⟩
theorem aaw(E:Env Tryz.prog):pW E 150:=by
 obtain⟨fn,h1,h2,h3,h4,h5⟩:=na 150 (Extern.BytealgMakeNoZero.makeNoZero #[3] #[144]) ah ah;exact⟨fn,_,h1,h2,h3,h4,h5,fun ρ hc p p' h=>uA _ _ h⟩
theorem x81(E:Env Tryz.prog):pW E 81:=by
 obtain⟨fn,h1,h2,h3,h4,h5⟩:=na 81 (Extern.SlicesOverlaps.overlaps #[28,28] #[4]) ah ah;exact⟨fn,_,h1,h2,h3,h4,h5,fun ρ hc p p' h=>Aj _ _ h⟩
theorem tz(m:Addr->Value->Prop):cQ (kr m):=fun f hF=>by
 have V6:(OM.elem f||lv1.elem f)=true:=hF;rcases aiR _ _ |>.mp V6 with h|h
 ·obtain⟨fn,c,h1,h2,h3,_⟩:=gF (ahM.1 EM f (by simpa using h));exact .inr ⟨fn,c,h1,h2,h3⟩
 ·have:f=184∨f=189∨f=198:=by simpa [lv1] using h
  rcases this with rfl|rfl|rfl
  ·exact .inl (aat _)
  ·exact .inl (aau _ rfl)
  ·exact .inl (V7 _)
theorem V8{m:Addr->Value->Prop}(hm:∃ n,m ⟨5,0,none⟩ (.int .i64 n)):pW (lA m) 189:=by
 obtain⟨fn,h1,h2,h3,h4,h5⟩:=na 189 Extern.BytealgIndex.index ah ah
 exact⟨fn,_,h1,h2,h3,h4,h5,fun ρ hc p p' h=>C4 (fun g hg=>by
  have e:Tryz.prog.globals.findIdx? (·.name == "internal/bytealg.MaxLen")=some 5:=ah
  rw [e] at hg;cases hg
  rw [hc.m];exact hm) h⟩
theorem AJ(m:Addr->Value->Prop)(hm:∃ n,m ⟨5,0,none⟩ (.int .i64 n)):cQ (lA m):=fun f hF=>by
 have V6:(Lb.elem f||lv2.elem f)=true:=hF;rcases aiR _ _ |>.mp V6 with h|h
 ·obtain⟨fn,c,h1,h2,h3,_⟩:=gF (ahM.1 EN f (by simpa using h));exact .inr ⟨fn,c,h1,h2,h3⟩
 ·have:f=81∨f=149∨f=150∨f=189∨f=198:=by simpa [lv2] using h
  rcases this with rfl|rfl|rfl|rfl|rfl
  ·exact .inl (x81 _)
  ·exact .inl (aav _)
  ·exact .inl (aaw _)
  ·exact .inl (V8 hm)
  ·exact .inl (V7 _)
end Go.Proofs.YtmbbagbhmjaedaaGreatDoor
namespace Go.Proofs.YtmbbagbhmjaedaaGreatDoor
open Go Tryz
abbrev link:Go.Conc.Lib.WgLink:={ add:=8,done:=11,wait:=12,relMerge:=26,disable:=27,enable:=28,inBubble:=29,associate:=30,fatal:=31,uOr:=32,uAdd:=33,raceRead:=34,uLoad:=35,uStore:=36,disassociate:=37,semrelease:=38,acquire:=41,isAssociated:=42,uCas:=43,raceWrite:=44,semacquire:=45,orU64:=64,addU64:=65,loadU64:=66,storeU64:=67,casU64:=77,tWgP:=84,tUP:=86,tAssoc:=88,tWg:=59,tAU:=56,tU64:=54,tUint:=92,tU32:=57,tPU32:=93,tPAU:=126,tPU64:=128,tNoCopy:=51,tANoCopy:=52,tAlign64:=53 }
theorem AK:Go.Conc.Lib.WgLib Tryz.prog link :=
 ⟨func8,func11,func12,func26,func27,func28,func29,func30,func31,func32,func33,func34,func35,func36,func37,func38,func41,func42,func43,func44,func45,func64,func65,func66,func67,func77,underlying84,Tryz.runUnderlying84,sizeOf84,isAgg84,zeroValue84,underlying86,Tryz.runUnderlying86,sizeOf86,isAgg86,zeroValue86,underlying88,Tryz.runUnderlying88,sizeOf88,isAgg88,zeroValue88,underlying59,Tryz.runUnderlying59,sizeOf59,isAgg59,zeroValue59,underlying56,Tryz.runUnderlying56,sizeOf56,isAgg56,zeroValue56,underlying54,Tryz.runUnderlying54,sizeOf54,isAgg54,zeroValue54,underlying92,Tryz.runUnderlying92,sizeOf92,isAgg92,zeroValue92,underlying57,Tryz.runUnderlying57,sizeOf57,isAgg57,zeroValue57,underlying93,Tryz.runUnderlying93,sizeOf93,isAgg93,zeroValue93,underlying126,Tryz.runUnderlying126,sizeOf126,isAgg126,zeroValue126,underlying128,Tryz.runUnderlying128,sizeOf128,isAgg128,zeroValue128,underlying0,Tryz.runUnderlying0,sizeOf0,isAgg0,zeroValue0,underlying3,Tryz.runUnderlying3,sizeOf3,isAgg3,zeroValue3,underlying4,Tryz.runUnderlying4,sizeOf4,isAgg4,zeroValue4,underlying9,Tryz.runUnderlying9,sizeOf9,isAgg9,zeroValue9,underlying20,Tryz.runUnderlying20,sizeOf20,isAgg20,zeroValue20,underlying21,Tryz.runUnderlying21,sizeOf21,isAgg21,zeroValue21,ah,ah⟩
end Go.Proofs.YtmbbagbhmjaedaaGreatDoor
