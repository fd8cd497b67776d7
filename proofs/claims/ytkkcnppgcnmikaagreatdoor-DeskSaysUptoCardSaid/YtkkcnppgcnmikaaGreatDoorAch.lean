/- A house: what its records tell, read. -/
import Derived.Test.YtkkcnppgcnmikaaGreatDoorAcf
import Derived.Test.YtkkcnppgcnmikaaGreatDoorAcg
import Derived.Test.YtkkcnppgcnmikaaGreatDoorAce
import Derived.Test.YtkkcnppgcnmikaaGreatDoorAbi
import Derived.Deep.RegionLaw
import Derived.Lib.SliceRun
import Derived.Shelf.SlicesE.Kit
import Derived.Shelf.Spec.SlicesInsert
import Derived.Test.YtkkcnppgcnmikaaGreatDoorAcc
namespace Go.Proofs.YtkkcnppgcnmikaaGreatDoor
open Go FM Go.Proofs
set_option maxRecDepth 10000
set_option maxHeartbeats 3200000
set_option linter.all false
def ifA(e:Int)(l:List Ac):List Ac:=if e=0 then l else []
theorem resA_le{l:List Ac}{e:Int}:AV.le (resA l e) (.tup [.sl true 3 ((ifA e l).map acA),.int e]):=by
 unfold resA ifA
 by_cases c:e=0
 ·rw [if_pos c,if_pos c,c];exact .refl _
 ·rw [if_neg c,if_neg c];exact le_tup2 .nil (.refl _)
inductive Rc where
 | o (s:Str) (m:Int)
 | d (x:Dl) (w:Str)
def Rc.str:Rc→Str
 | .o s m=>recO s m
 | .d x w=>recD x w
def Rc.ok:Rc→Prop
 | .o s m=>nmB s=true∧0≤m∧m≤1000000
 | .d x w=>DlOk x∧nmB w=true
def rcS(A:List Ac):Rc→List Ac
 | .o s m=>ifA (opE A s m) (opM A s m)
 | .d x w=>ifA (tkE A x w) (tkM A x w)
theorem opE_acE{A:List Ac}{s:Str}{m:Int}(h:opE A s m=0):acE A=0:=by
 unfold opE at h
 by_cases c:acE A=0
 ·exact c
 ·rw [if_pos c] at h;exact absurd h c
theorem rcS_L{A:List Ac}{r:Rc}(hA:AcL A)(hr:r.ok):AcL (rcS A r):=by
 cases r with
 | o s m =>
  show AcL (ifA (opE A s m) (opM A s m))
  unfold ifA
  by_cases c:opE A s m=0
  ·rw [if_pos c]
   have hp:=opM_perm (l:=A) (s:=s) (m:=m)
   have h6:=(acE_ok (opE_acE c)).len
   refine⟨?_,fun a ha=>?_⟩
   ·rw [← hp.length_eq,List.length_append];simp;omega
   ·have:=hp.mem_iff.2 ha
    rcases List.mem_append.1 this with h|h
    ·exact hA.str a h
    ·rw [List.mem_singleton] at h;subst h
     have:=nm_len hr.1
     show s.length≤_
     omega
  ·rw [if_neg c];exact⟨by simp,fun a ha=>by cases ha⟩
 | d x w =>
  show AcL (ifA (tkE A x w) (tkM A x w))
  unfold ifA
  by_cases c:tkE A x w=0
  ·rw [if_pos c];exact tkM_L hA
  ·rw [if_neg c];exact⟨by simp,fun a ha=>by cases ha⟩
def wsR:Rc→List Str
 | .o s m=>wsO s m
 | .d x w=>wsD x w
theorem str_jn(r:Rc):r.str=Zp.jn (wsR r):=by
 cases r with
 | o s m=>exact recO_jn s m
 | d x w=>exact recD_jn x w
theorem wsR_wd{r:Rc}(h:r.ok):∀ s∈wsR r,Zp.Wd s∧s.length≤8:=by
 have one:∀ c:UInt8,48≤c.toNat→c.toNat<128→Zp.Wd [c]∧[c].length≤8:=fun c h1 h2=>⟨⟨by simp,fun b hb=>by rw [List.mem_singleton.1 hb];exact Zp.sp_digit h1 h2⟩,by simp⟩
 have num:∀ n:Int,0≤n→n≤1000000→Zp.Wd (Lib.itoa n)∧(Lib.itoa n).length≤8:=fun n h1 h2=>⟨Zp.wd_itoa h1,Nat.le_trans (Zp.itoa_len n h1 h2) (by omega)⟩
 cases r with
 | o s m =>
  intro x hx
  simp only [wsR,wsO,List.mem_cons,List.not_mem_nil,or_false] at hx
  rcases hx with rfl|rfl|rfl
  ·exact one 111 (by decide) (by decide)
  ·exact⟨nm_wd h.1,(nm_len h.1).2⟩
  ·exact num m h.2.1 h.2.2
 | d y w =>
  have n1:=h.1.num;have n2:=h.1.much;have n3:=h.1.fee;have n4:=h.1.size
  intro x hx
  simp only [wsR,wsD,List.mem_cons,List.not_mem_nil,or_false] at hx
  rcases hx with rfl|rfl|rfl|rfl|rfl|rfl|rfl|rfl
  ·exact one 100 (by decide) (by decide)
  ·exact⟨nm_wd h.1.f,(nm_len h.1.f).2⟩
  ·exact⟨nm_wd h.1.t,(nm_len h.1.t).2⟩
  ·exact num _ n1.1 n1.2
  ·exact num _ n2.1 n2.2
  ·exact num _ n3.1 n3.2
  ·exact num _ (by omega) (by omega)
  ·exact⟨nm_wd h.2,(nm_len h.2).2⟩
theorem wsR_ne(r:Rc):wsR r≠[]:=by cases r<;>simp [wsR]
theorem pieces_str{r:Rc}(h:r.ok):pieces r.str [32]=wsR r:=by
 have hn:∀ s∈wsR r,∀ b∈s,b≠32:=fun s hs b hb=>((wsR_wd h s hs).1.ns b hb).1
 unfold pieces
 rw [Lib.splitB_data,str_jn]
 show Lib.splitK [32] 0 (Lib.count (Zp.jn (wsR r)) [32]) (Zp.jn (wsR r))=_
 rw [Zp.count_jn (wsR_ne r) hn,Zp.splitK_jn (wsR_ne r) hn]
theorem fields_str{r:Rc}(h:r.ok):Lib.fields r.str=wsR r:=by
 rw [str_jn];exact Zp.fields_jn fun s hs=>(wsR_wd h s hs).1
theorem numOf_itoa{n:Int}(h:0≤n):numOf (Lib.itoa n)=n:=by unfold numOf;rw [Zp.atoi_itoa n h];rfl
theorem str_len{r:Rc}(h:r.ok):r.str.length≤64:=by
 cases r with
 | o s m =>
  have h1:=nm_len h.1
  have h2:=Zp.itoa_len m h.2.1 h.2.2
  show(recO s m).length≤64
  unfold recO
  simp only [List.length_append,List.length_cons,List.length_nil];omega
 | d x w=>have:=recD_len h.1 (nm_len h.2).2;show(recD x w).length≤64;omega
theorem str_ascii{r:Rc}(h:r.ok):∀ b∈r.str,b.toNat<128:=by
 have key:∀ l:List Str,(∀ s∈l,∀ b∈s,b.toNat<128)→∀ b∈Zp.jn l,b.toNat<128:=fun l=>by
  induction l with
  | nil=>intro _ b hb;cases hb
  | cons x r ih =>
   intro hl b hb
   cases r with
   | nil=>exact hl x (by simp) b hb
   | cons y r =>
    have hb:b∈x++32::Zp.jn (y::r):=hb
    rcases List.mem_append.1 hb with hb|hb
    ·exact hl x (by simp) b hb
    ·rcases List.mem_cons.1 hb with rfl|hb
     ·decide
     ·exact ih (fun s hs=>hl s (List.mem_cons_of_mem _ hs)) b hb
 rw [str_jn]
 exact key _ fun s hs b hb=>((wsR_wd h s hs).1.ns b hb).2.2
def rcs(R:List Rc):List Ac:=R.foldl rcS []
structure Rrd(R:List Rc)(k:Nat)(A:List Ac):Prop where
 le:k≤R.length
 eq:A=rcs (R.take k)
 al:AcL A
theorem rrd_zero(R:List Rc):Rrd R 0 []:=⟨Nat.zero_le _,rfl,⟨by simp,fun a ha=>by cases ha⟩⟩
theorem rrd_succ{R:List Rc}{k:Nat}{A:List Ac}{r:Rc}(h:Rrd R k A)(hr:R[k]?=some r)(hok:r.ok):Rrd R (k+1) (rcS A r) :=
 ⟨(List.getElem?_eq_some_iff.1 hr).1,by rw [rcs,List.take_add_one,hr,List.foldl_append,h.eq];rfl,rcS_L h.al hok⟩
def xk(x:Dl):Nat→List Int
 | 0=>[0,0,0,0]
 | 1=>[x.2.2.1,0,0,0]
 | 2=>[x.2.2.1,x.2.2.2.1,0,0]
 | 3=>[x.2.2.1,x.2.2.2.1,x.2.2.2.2.1,0]
 | _=>[x.2.2.1,x.2.2.2.1,x.2.2.2.2.1,x.2.2.2.2.2.1]
theorem read_spec(A:List Ac)(O:List Dl)(k:Str)(n:Int)(R:List Rc)(hk:k.length≤4000)(hs:(scan k).1=R.map Rc.str)(hR:∀ r∈R,r.ok)(hRl:R.length≤4000) :
  FnSpec Sy.P 32 [hsV A O k n] [hsV (rcs R) [] k n] (.tup []):=by
 have h1:=logAll_spec k n hk
 rw [hs] at h1
 have hz:=rrd_zero R
 have hfin:∀ A,Rrd R R.length A→A=rcs R:=fun A h=>by rw [h.eq,List.take_length]
 have hml:(R.map Rc.str).length=R.length:=List.length_map ..
 have hget:∀ i (h:i<R.length),(R.map Rc.str)[i]?=some R[i].str:=fun i h=>by rw [List.getElem?_map,List.getElem?_eq_getElem h];rfl
 generalize R.map Rc.str=rs at *
 refine FnSpec.enter (S:=Sy) 1 Tryz.func32 rfl rfl rfl Tryz.ntmps32 rfl rfl rfl rfl fun v0=>?_
 repeat' first|((with_reducible apply J.step);rfl;((with_reducible apply s_ldFb)<;>(first|rfl|exact AV.noConfusion)))|refine w9x ?_|refine w9p (h1) ?_|(refine w9c ?_ ?_<;>intro _<;>try exact w9o)|fail
 refine CW.leS (x:=.nil) 2 rfl (AV.le.nil (o:=true) (c:=3)) ?_
 refine CW.loop (fun z:Nat×List Ac=>[(0,.av (hsV A O k n)),(2,.av (.sl true 3 (z.2.map acA))),(14,.av (strs true rs)),(15,.av (.int (R.length))),(16,.av (.int (z.1)))]) (fun z=>Rrd R z.1 z.2) (fun z=>R.length-z.1) ((0,[])) ?_ (by(repeat' (first|exact w9b|refine And.intro ?_ ?_|exact int_congr (by rw [hml])))) ?_
 ·exact hz
 rintro⟨i,B⟩ hS
 dsimp only at hS ⊢
 by_cases hi:i<R.length
 ·have hg:=hget i hi
  have hok:=hR R[i] (List.getElem_mem hi)
  have hS2:=rrd_succ hS (List.getElem?_eq_getElem hi) hok
  have hSp:=split_spec R[i].str [32] (by have:=str_len hok;omega) (by simp)
  rw [pieces_str hok] at hSp
  have hBl:=hS.al
  have hws:=wsR_wd hok
  generalize R[i]=r at *
  cases r with
  | o s m =>
   have hA:=atoi_spec (Lib.itoa m) (by have:=Zp.itoa_len m hok.2.1 hok.2.2;omega)
   rw [numOf_itoa hok.2.1] at hA
   have hO:=(open_spec B s m hBl (by have:=nm_len hok.1;omega)).le resA_le
   have hrc:rcS B (.o s m)=ifA (opE B s m) (opM B s m):=rfl
   rw [hrc] at hS2
   generalize ifA (opE B s m) (opM B s m)=B2 at *
   generalize opE B s m=e at *
   have w0:(wsR (.o s m))[0]?=some [111]:=rfl
   have w1:(wsR (.o s m))[1]?=some s:=rfl
   have w2:(wsR (.o s m))[2]?=some (Lib.itoa m):=rfl
   generalize wsR (.o s m)=ws at *
   generalize Lib.itoa m=z at *
   generalize (Rc.o s m).str=rstr at *
   repeat' first|refine w9x ?_|refine w9p (hSp) ?_|refine w9p (hA) ?_|refine w9p (hO) ?_|(refine w9c ?_ ?_<;>intro _<;>try exact w9o)|fail
   all_goals try exact w9o
   refine⟨(i+1,B2),?_,w9n,w9a⟩
   all_goals first|exact hS2|omega
  | d x w =>
   have hn:=dnums_ok hok.1
   have hT:=(take_spec B x w hBl (by have:=nm_len hok.1.f;omega) (by have:=nm_len hok.1.t;omega)).le resA_le
   have hrc:rcS B (.d x w)=ifA (tkE B x w) (tkM B x w):=rfl
   rw [hrc] at hS2
   generalize ifA (tkE B x w) (tkM B x w)=B2 at *
   generalize tkE B x w=e at *
   have w0:(wsR (.d x w))[0]?=some [100]:=rfl
   have w1:(wsR (.d x w))[1]?=some x.1:=rfl
   have w2:(wsR (.d x w))[2]?=some x.2.1:=rfl
   have w7:(wsR (.d x w))[7]?=some w:=rfl
   have w3:∀ j,j<4→∃ n,0≤n∧n≤1000000∧(wsR (.d x w))[3+j]?=some (Lib.itoa n)∧(xk x j).set j n=xk x (j+1):=fun j hj=>by
    have h1:=hok.1.num;have h2:=hok.1.much;have h3:=hok.1.fee;have h4:=hok.1.size
    match j,hj with
    | 0,_=>exact⟨_,h1.1,h1.2,rfl,rfl⟩
    | 1,_=>exact⟨_,h2.1,h2.2,rfl,rfl⟩
    | 2,_=>exact⟨_,h3.1,h3.2,rfl,rfl⟩
    | 3,_=>exact⟨_,by omega,by omega,rfl,rfl⟩
   have wl:(wsR (.d x w)).length=8:=rfl
   have xl:∀ j,j≤4→(xk x j).length=4:=fun j hj=>by
    match j,hj with
    | 0,_=>rfl
    | 1,_=>rfl
    | 2,_=>rfl
    | 3,_=>rfl
    | 4,_=>rfl
   have x0:(xk x 4)[0]?=some x.2.2.1:=rfl
   have x1:(xk x 4)[1]?=some x.2.2.2.1:=rfl
   have x2:(xk x 4)[2]?=some x.2.2.2.2.1:=rfl
   have x3:(xk x 4)[3]?=some x.2.2.2.2.2.1:=rfl
   have xz:xk x 0=[0,0,0,0]:=rfl
   generalize wsR (.d x w)=ws at *
   generalize (Rc.d x w).str=rstr at *
   repeat' first|refine w9x ?_|refine w9p (hSp) ?_|(refine w9c ?_ ?_<;>intro _<;>try exact w9o)|fail
   all_goals try exact w9o
   refine CW.loop (fun j:Nat=>[(0,.av (hsV A O k n)),(2,.av (.sl true 3 (B.map acA))),(5,.av (strs true ws)),(8,.av (.pt true ((xk x j).map .int))),(14,.av (strs true rs)),(15,.av (.int (R.length))),(16,.av (.int (i))),(42,.av (.int (j)))]) (fun j=>j≤4) (fun j=>4-j) (0) ?_ (w9a) ?_
   ·exact Nat.zero_le _
   intro j hj
   by_cases hj4:j<4
   ·obtain⟨q,q0,q1,q2,q3⟩:=w3 j hj4
    have hA:=atoi_spec (Lib.itoa q) (by have:=Zp.itoa_len q q0 q1;omega)
    rw [numOf_itoa q0] at hA
    have hxl:=xl j hj
    obtain⟨yv,hyv⟩:∃ v,(xk x j)[j]?=some v:=⟨_,List.getElem?_eq_getElem (by omega)⟩
    generalize Lib.itoa q=z at *
    generalize hy2:xk x (j+1)=y2 at *
    generalize xk x j=y at *
    repeat' first|refine w9x ?_|refine w9p (hA) ?_|(refine w9c ?_ ?_<;>intro _<;>try exact w9o)|fail
    all_goals try exact w9o
    refine⟨j+1,?_,w9n,by(repeat' (first|exact w9b|refine And.intro ?_ ?_|exact congrArg (fun l:List Int=>TV.av (.pt true (l.map .int))) (q3.trans hy2.symm)))⟩
    all_goals omega
   ·obtain rfl:j=4:=by omega
    generalize xk x 4=y at *
    repeat' first|((with_reducible refine w9i ?_);first|refine w9J1 4 19 ?_|refine w9Jt 3 20 ?_|refine w9Jw 2 21 ?_|refine w9Jt 1 23 ?_|refine w9Jw 0 22 ?_|refine w9J0 ?_)|refine w9U 19 5 ?_|refine w9x ?_|refine w9p (hT) ?_|(refine w9c ?_ ?_<;>intro _<;>try exact w9o)|fail
    all_goals try exact w9o
    refine⟨(i+1,B2),?_,w9n,w9a⟩
    all_goals first|exact hS2|omega
 ·obtain rfl:i=R.length:=by have:=hS.le;omega
  have hB:=hfin B hS
  subst hB
  refine CW.freeze 2 rfl (sh_map (fun _=>rfl)) rfl ?_
  repeat' first|((with_reducible apply J.eff);rfl;(exact e_stFle (z':=.sl false 6 []) rfl rfl rfl rfl .nil rfl rfl rfl rfl rfl rfl))|refine w9x ?_|(refine w9c ?_ ?_<;>intro _<;>try exact w9o)|fail
  all_goals exact w9e
end Go.Proofs.YtkkcnppgcnmikaaGreatDoor
namespace Go.Proofs.YtkkcnppgcnmikaaGreatDoor
open Go FM Go.Proofs Go.RowKit Go.Lib Go.Shelf
set_option linter.all false
set_option maxHeartbeats 4000000
set_option maxRecDepth 100000
theorem delR(b cap k n:Nat)(cs:List Value)(w:World)(arr:Array Value)(eb:TypeId)(hn:n≤1000)(hk:k<n)(hcap:n≤cap)
  (hcl:cs.length=n*6) (hb:w.heap[b]?=some (.cells arr eb (0,0))) (ha:arr.size=cap*6) (hcs:∀ (j:Nat) v,cs[j]?=some v→arr[j]?=some v) (h1c:∀ v∈cs,v.oneCell'=true) :
  Calls Tryz.prog 76 #[.slice (some ⟨b,0,none⟩) n cap,.int .i64 k,.int .i64 ((k+1:Nat):Int)] w fun e w' =>
   ∃ zs:List Value,zs.length=6∧e=.returned (.slice (some ⟨b,0,none⟩) (n-1) cap)∧w'=(w.drew.setCells b (k*6) (cs.drop ((k+1)*6))).setCells b ((n-1)*6) zs:=by
 obtain⟨f0,zv,hf1,hf2,hf3,hf4,hf5,hf6,hf7⟩:=(Sy.ok 32 ⟨.struct [(0,9),(1,9),(2,3),(3,3),(4,3),(5,3)],6,64,[.str [],.str [],.int 0,.int 0,.int 0,.int 0]⟩ rfl).info
 have hf1':Tryz.prog.info? 32=some f0:=hf1
 have hf2':f0.size=6:=hf2
 have hz6:zv.cells.size=6:=hf7
 obtain⟨zc,rfl⟩:∃ zc,zv=.agg zc:=by
  cases zv<;>first|exact⟨_,rfl⟩|(simp [Value.cells] at hz6)
 obtain⟨zs,hzs⟩:∃ zs,zs=(Builtin.zeroCells zc 1).toList:=⟨_,rfl⟩
 have hzl:zs.length=6:=by rw [hzs,Array.length_toList,size_zeroCells,show zc.size=6 from hz6]
 have hz1:∀ v∈zs,v.oneCell'=true:=fun v hv=>by
  have hz:∀ v∈zc.toList,v.oneCell'=true:=fun v hv=>by
   rw [show zc.toList=_ from hf5] at hv
   exact List.all_eq_true.1 (show((([.str [],.str [],.int 0,.int 0,.int 0,.int 0]:List AV).map AV.toV).all fun v=>v.oneCell')=true from rfl) v hv
  rw [hzs] at hv
  unfold Builtin.zeroCells at hv
  rw [Array.toList_map,List.mem_map] at hv
  obtain⟨i,_,rfl⟩:=hv
  have hz0:zc.size=6:=hz6
  have hlt:i%zc.size<zc.size:=Nat.mod_lt _ (by omega)
  rw [getElem!_pos zc _ hlt]
  exact hz _ (Array.getElem_mem_toList _)
 have hzr:∀ W:World,(zeroValue 32).run Tryz.prog W=.ok (.agg zc) W:=fun W=>by simp [zeroValue,typeInfo,hf1',hf4]
 obtain⟨j,hj⟩:∃ j,j=k+1:=⟨_,rfl⟩
 rw [← hj]
 have hcell:∀ t v,cs[t]?=some v→w.cell? ⟨b,t,none⟩=some v:=fun t v h=>by rw [cell_of_row w b t arr eb (0,0) hb];exact hcs t v h
 have hfb:∀ j,w.frozen? ⟨b,j,none⟩=false:=fun j=>by simp only [World.frozen?,hb];simp
 have hsp:∀ j,j<n*6→(w.cell? ⟨b,j,none⟩).isSome=true:=fun j hj=>by
  rw [cell_of_row w b j arr eb (0,0) hb,Array.getElem?_eq_getElem (by omega)];rfl
 obtain⟨news,hnews⟩:∃ news,news=cs.drop (j*6):=⟨_,rfl⟩
 have hlen:news.length=(n-j)*6:=by rw [hnews,List.length_drop,hcl];omega
 obtain⟨A,hA,hsrc⟩:∃ A:Addr,(if cap=j then some (⟨b,0,none⟩:Addr) else some ⟨b,j*6,none⟩)=some A∧Hid (∀ (t:Nat) u,news[t]?=some u→w.drew.cell? (A.add t)=some u):=by
  by_cases h:cap=j
  ·refine⟨⟨b,0,none⟩,by simp [h],fun t u hu=>?_⟩
   have h0:news.length=0:=by rw [hlen];omega
   rw [List.length_eq_zero_iff.1 h0] at hu
   simp at hu
  ·refine⟨⟨b,j*6,none⟩,by simp [h],fun t u hu=>?_⟩
   rw [FM.addr_add]
   rw [hnews,List.getElem?_drop] at hu
   exact hcell _ _ hu
 have s1:Hid (news.length=(n-j)*6):=hlen
 have s2:Hid (∀ u∈news,u.oneCell'=true):=fun u hu=>by rw [hnews] at hu;exact h1c u (List.mem_of_mem_drop hu)
 have s3:Hid (∀ t,t<news.length→(w.drew.cell? ⟨b,0+k*6+t,none⟩).isSome=true∧w.drew.frozen? ⟨b,0+k*6+t,none⟩=false):=by
  intro t ht
  rw [hlen] at ht
  exact⟨hsp _ (by omega),hfb _⟩
 obtain⟨W1,hW1⟩:∃ W1,W1=w.drew.setCells b (0+k*6) news:=⟨_,rfl⟩
 obtain⟨A1,hA1,hA1s,_⟩:=setCells_row b eb news (0+k*6) w.drew arr hb (by rw [hlen];omega)
 rw [← hW1] at hA1
 have hsp1:Hid (∀ t,t<6→(W1.cell? ⟨b,(k+(n-j))*6+t,none⟩).isSome=true∧W1.frozen? ⟨b,(k+(n-j))*6+t,none⟩=false):=fun t ht=>⟨by rw [cell_of_row W1 b _ A1 eb (0,0) hA1,Array.getElem?_eq_getElem (by omega)];rfl,by simp only [World.frozen?,hA1];simp⟩
 have hcl:∀ ty,(Builtin.clear_ #[26] ty #[.slice (some ⟨b,(k+(n-j))*6,none⟩) (n-(k+(n-j))) (cap-(k+(n-j)))]).run Tryz.prog W1=.ok (.tuple #[]) (W1.setCells b ((k+(n-j))*6) zs):=fun ty=>by
  have hst:=run_storeCells_cells (P:=Tryz.prog) b ((k+(n-j))*6) zs 0 W1 (fun t ht=>by rw [hzl] at ht;exact(hsp1 t ht).1) (fun t ht=>by rw [hzl] at ht;exact(hsp1 t ht).2) hz1
  rw [show n-(k+(n-j))=0+1 by omega]
  simp only [Nat.add_zero] at hst
  simp [Builtin.clear_,run_underlying Tryz.underlying26,hzr,Value.cells,←hzs,hst]
 have hW:Hid (W1=w.drew.setCells b (0+k*6) news):=hW1
 have X:Aside (zs=(Builtin.zeroCells zc 1).toList∧zs.length=6∧k+(n-j)=n-1∧W1=w.drew.setCells b (k*6) (cs.drop (j*6)))   := ⟨hzs,hzl,by omega,by rw [hW1,hnews,Nat.zero_add]⟩
 have hic:k≤cap:=by omega
 have hjc:j≤cap:=by omega
 have hkj:k≤j:=by omega
 have hjn:j≤n:=by omega
 have hne:¬ k=j:=by omega
 have hcn:¬ cap=k+(n-j):=by omega
 clear hW1 hA1 hnews hlen hj hcs hb hcell hzs hzr hf4 hf5
 go_enter Tryz.func76,Tryz.ntmps76
 go_wp2_with fail
 go_region_law (refine step_append_room rfl (.tmp 22) (.tmp 25) 26 rfl 32 f0 6 Tryz.underlying26 hf1' hf2' b 0 k cap (by simp [Act.eval,Act.put]) A (n-j) (cap-j) news (by simp [Act.eval,Act.put]) s1.out hsrc.out s2.out (by omega) s3.out ?_;rw [← hW.out])
 go_wp2
 go_ret
 exact⟨zs,X.out.2.1,by rw [X.out.2.2.1];rfl,by rw [← X.out.2.2.2,X.out.2.2.1,X.out.1]⟩
theorem outD{w:World}{b cap k n:Nat}{cs zs:List Value}{arr:Array Value}{eb:TypeId}(hk:k<n)(hcap:n≤cap)(hcl:cs.length=n*6)(hzl:zs.length=6)(hb:w.heap[b]?=some (.cells arr eb (0,0)))(ha:arr.size=cap*6)
  (hcs:∀ (j:Nat) v,cs[j]?=some v→arr[j]?=some v):RowOut w b (n-1) 6 (cs.take (k*6)++cs.drop ((k+1)*6)) (.slice (some ⟨b,0,none⟩) (n-1) cap) ((w.drew.setCells b (k*6) (cs.drop ((k+1)*6))).setCells b ((n-1)*6) zs):=by
 have hdl:(cs.drop ((k+1)*6)).length=(n-(k+1))*6:=by rw [List.length_drop,hcl];omega
 have htl:(cs.take (k*6)).length=k*6:=by rw [List.length_take,hcl];omega
 obtain⟨A1,hA1,s1,g1⟩:=setCells_row b eb (cs.drop ((k+1)*6)) (k*6) w.drew arr hb (by rw [hdl];omega)
 obtain⟨k1,z1,o1,t1,u1⟩:=setCells_keep b (cs.drop ((k+1)*6)) (k*6) w.drew
 generalize w.drew.setCells b (k*6) (cs.drop ((k+1)*6))=W1 at *
 obtain⟨A2,hA2,s2,g2⟩:=setCells_row b eb zs ((n-1)*6) W1 A1 hA1 (by rw [hzl];omega)
 obtain⟨k2,z2,o2,t2,u2⟩:=setCells_keep b zs ((n-1)*6) W1
 refine⟨b,cap,A2,eb,rfl,.inl rfl,by omega,by rw [s2,s1,ha],hA2,fun j u hj=>?_,by rw [z2,z1];exact Nat.le_refl _,fun k hk _=>(k2 k hk).trans (k1 k hk),o2.trans o1,t2.trans t1,u2.trans u1⟩
 rw [g2,g1,hzl,hdl]
 by_cases c1:j<k*6
 ·rw [List.getElem?_append_left (by omega),List.getElem?_take,if_pos c1] at hj
  rw [if_neg (by omega),if_neg (by omega)]
  exact hcs j u hj
 ·rw [List.getElem?_append_right (by omega),htl] at hj
  have hlt:=(List.getElem?_eq_some_iff.1 hj).1
  rw [hdl] at hlt
  rw [if_neg (by omega),if_pos (by omega)];exact hj
theorem dl_simp{l:List Dl}:∀ y∈flat (l.map dlA),simp1 y=true:=fun y hy=>by
 unfold flat at hy
 rw [List.mem_flatMap] at hy
 obtain⟨x,hx,hy⟩:=hy
 obtain⟨z,_,rfl⟩:=List.mem_map.1 hx
 simp only [AV.cells,List.mem_cons,List.mem_nil_iff,or_false] at hy
 rcases hy with rfl|rfl|rfl|rfl|rfl|rfl<;>rfl
theorem dl6{l:List Dl}:∀ x∈l.map dlA,x.cells.length=6:=fun x hx=>by obtain⟨z,_,rfl⟩:=List.mem_map.1 hx;rfl
theorem noSh_dls{l:List Dl}:NoSh (.sl true 6 (l.map dlA)):=.sl fun y hy=>by obtain⟨z,_,rfl⟩:=List.mem_map.1 hy;exact noSh_aggL rfl
theorem delDJ{m:Nat}{v:Nat→Value}{N:Nat}{σ:St}{l:List Dl}{k:Nat}{t1 t2 t3 s d ty:Nat}{ops:Array Oper}{kk:List Oper}{K:St→Prop}{ts:Array Nat}{pos:String}{aft:Array Edge}{g:Option (Nat×Bool)}(hg:live ops g σ=some true)
  (h1:slotAt σ (.tmp t1)=some s) (h2:FM.get σ s=.av (.sl true 6 (l.map dlA))) (hk:k<l.length) (hl:l.length≤1000) (h3:Nat.beq s d=false) (ht2:FM.get σ t2=.av (.int k)) (ht3:FM.get σ t3=.av (.int ((k:Int)+1)))
  (h:J false (Sy.fixed m v) N ops kk K (putM [(s,0)] [.dead,.dead,.dead] (σ.put d (.av (.sl true 6 ((l.take k++l.drop (k+1)).map dlA)))))) :
  J false (Sy.fixed m v) N ops (⟨some d,.call ⟨.value (.func 76),#[.tmp t1,.tmp t2,.tmp t3],ts⟩,ty,pos,aft,g⟩::kk) K σ:=by
 refine J.callMP (xs:=[.tmp t2,.tmp t3]) (op:=.tmp t1) (⟨_,Tryz.func76,rfl,rfl⟩:FnOk Sy.P 76) rfl hg h1 h2 h3 (fun w0 L0 a w L hR hpre hrep=>?_) noSh_dls ⟨.dead,rfl,.dead⟩ h
 have hne:l.map dlA≠[]:=by intro e;rw [List.map_eq_nil_iff] at e;subst e;simp at hk
 obtain⟨b,cap,arr,eb,hv,hLb,hb,hcap,ha,_,hcs⟩:=own_row hrep hne dl_simp
 rw [List.length_map] at hv hcap
 have hf2:=hR.hold t2 (own_lt hR ht2 (by simp))
 have hf3:=hR.hold t3 (own_lt hR ht3 (by simp))
 rw [ht2] at hf2
 rw [ht3] at hf3
 simp only [Hold] at hf2 hf3
 have he2:a.eval (.tmp t2)=.int .i64 k:=by
  generalize hz:a.tmps.getD t2 undef=z at hf2
  have:a.eval (.tmp t2)=z:=hz
  rw [this];cases hf2;rfl
 have he3:a.eval (.tmp t3)=.int .i64 ((k+1:Nat):Int):=by
  generalize hz:a.tmps.getD t3 undef=z at hf3
  have:a.eval (.tmp t3)=z:=hz
  rw [this,show((k+1:Nat):Int)=(k:Int)+1 by omega];cases hf3;rfl
 have hcl:((flat (l.map dlA)).map AV.toV).length=l.length*6:=by rw [List.length_map,flat_length dl6,List.length_map]
 have hnews:(flat ((l.take k++l.drop (k+1)).map dlA)).map AV.toV=((flat (l.map dlA)).map AV.toV).take (k*6)++((flat (l.map dlA)).map AV.toV).drop ((k+1)*6):=by
  rw [← List.map_take,←List.map_drop,←flat_take dl6,←flat_drop dl6,←List.map_append,←flat_append,←List.map_take,←List.map_drop,←List.map_append]
 simp only [List.map_cons,List.map_nil,hv,he2,he3]
 refine(delR b cap k l.length _ w arr eb hl hk hcap hcl hb ha hcs (flat_cells dl_simp)).mono fun e w' ⟨zs,hzl,he,hw⟩=>?_
 subst hw
 have hro:=outD hk hcap hcl hzl hb ha hcs
 rw [← hnews] at hro
 obtain⟨L',hB⟩:=back_out (N:=3) (xs9':=[.dead,.dead,.dead]) (vs:=[.slice (some ⟨b,0,none⟩) l.length cap,.int .i64 k,.int .i64 ((k+1:Nat):Int)]) hpre hLb (by omega) rfl hro (by rw [List.length_map,List.length_append,List.length_take,List.length_drop];omega) dl6 (flat_news dl_simp) (fun i y hy=>by
  match i,hy with
  | 0,hy=>cases hy;rfl
  | 1,hy=>cases hy;rfl
  | 2,hy=>cases hy;rfl
  | i+3,hy=>simp at hy)
 exact⟨_,L',he,hB⟩
end Go.Proofs.YtkkcnppgcnmikaaGreatDoor
namespace Go.Proofs.YtkkcnppgcnmikaaGreatDoor
open Go FM Go.Proofs
set_option maxRecDepth 10000
set_option maxHeartbeats 3200000
set_option linter.all false
def resD(l:List Dl)(e:Int):AV:=if e=0 then .tup [.sl true 6 (l.map dlA),.int 0] else .tup [.nil,.int e]
structure DlsOk(l:List Dl):Prop where
 len:l.length≤20
 ok:∀ d∈l,DlOk d
 one:∀ (i:Nat) (h:i<l.length),¬ (0≤fD (l.take i) l[i].1 l[i].2.2.1)
theorem ofR_ok{l:List Dl}:∀ (m k:Nat),k+m=l.length→ofR l m k=0→∀ (i:Nat) (h:i<l.length),k≤i→DlOk l[i]∧¬ (0≤fD (l.take i) l[i].1 l[i].2.2.1)
 | 0,k,hk,_,i,h,hi=>absurd h (by omega)
 | m+1,k,hk,h0,i,h,hi=>by
  have hkl:k<l.length:=by omega
  have:=ofR_step hkl
  rw [show l.length-k=m+1 by omega,h0] at this
  by_cases c1:dlE l[k]≠0
  ·rw [if_pos c1] at this;exact absurd this.symm c1
  ·rw [if_neg c1] at this
   by_cases c2:0≤fD (l.take k) l[k].1 l[k].2.2.1
   ·rw [if_pos c2] at this;cases this
   ·rw [if_neg c2] at this
    by_cases e:i=k
    ·subst e;exact⟨dlE_ok (Classical.not_not.1 c1),c2⟩
    ·exact ofR_ok m (k+1) (by omega) (by rw [show m=l.length-(k+1) by omega];exact this.symm) i h (by omega)
theorem ofE_ok{l:List Dl}(h:ofE l=0):DlsOk l:=by
 unfold ofE at h
 by_cases c:20<l.length
 ·rw [if_pos c] at h;cases h
 rw [if_neg c] at h
 have:=ofR_ok l.length 0 (by omega) h
 exact⟨by omega,fun d hd=>by
  obtain⟨i,hi,rfl⟩:=List.mem_iff_getElem.1 hd
  exact(this i hi (Nat.zero_le _)).1,fun i hi=>(this i hi (Nat.zero_le _)).2⟩
theorem ofR_range{l:List Dl}:∀ (m k:Nat),0≤ofR l m k∧ofR l m k≤7
 | 0,k=>by simp [ofR]
 | m+1,k=>by
  have:=ofR_range (l:=l) m (k+1)
  have:=dlE_range (l.getD k d0)
  unfold ofR
  repeat' split
  all_goals omega
theorem ofE_range(l:List Dl):0≤ofE l∧ofE l≤7:=by
 have:=ofR_range (l:=l) l.length 0
 unfold ofE;split<;>omega
theorem fD_range(l:List Dl)(s:Str)(n:Int):-1≤fD l s n∧fD l s n<l.length:=by
 have:=fidx_range (p:=tD s n) (l:=l) (k:=0)
 rw [Nat.zero_add] at this;exact this
def adE(l:List Dl)(d:Dl):Int :=
 if ofE l≠0 then ofE l else if dlE d≠0 then dlE d
 else if 0≤fD l d.1 d.2.2.1 then(if d.2.2.2.2.1≤(l.getD (fD l d.1 d.2.2.1).toNat d0).2.2.2.2.1 then 7 else 0)
 else if 20≤l.length then 8 else 0
def adM(l:List Dl)(d:Dl):List Dl:=if 0≤fD l d.1 d.2.2.1 then l.set (fD l d.1 d.2.2.1).toNat d else l++[d]
theorem getDl_at{l:List Dl}{i:Nat}{a:Dl}(h:l[i]?=some a):l.getD i d0=a:=by rw [List.getD_eq_getElem?_getD,h];rfl
theorem fD_at{l:List Dl}{s:Str}{n:Int}(h:0≤fD l s n):∃ i:Nat,∃ (h:i<l.length),fD l s n=(i:Int)∧tD s n l[i]=true:=by
 obtain⟨i,hi,e1,e2⟩:=fidx_at (p:=tD s n) (k:=0) h
 exact⟨i,hi,by unfold fD;rw [e1,Nat.zero_add],e2⟩
theorem add_spec(l:List Dl)(d:Dl)(hL:DlL l)(h1:d.1.length≤9223372036854775807)(h2:d.2.1.length≤9223372036854775807):FnSpec Sy.P 28 [.sl false 6 (l.map dlA),dlA d] [.sl false 6 (l.map dlA),dlA d] (resD (adM l d) (adE l d)):=by
 have hC:=qcheck_spec l hL
 have hR:=right_spec d h1 h2
 have hCr:=ofE_range l
 have hRr:=dlE_range d
 have hF:=findD_spec l d.1 d.2.2.1 hL.len
 unfold adE resD adM
 by_cases c1:ofE l=0
 ·have hok:=ofE_ok c1
  rw [c1] at hC
  rw [if_neg (not_not_intro c1)]
  by_cases c2:dlE d=0
  ·have hdk:=dlE_ok c2
   rw [c2] at hR
   rw [if_neg (not_not_intro c2)]
   have hl20:=hok.len
   have hCl:=cloneDl_spec l (by omega)
   by_cases c3:0≤fD l d.1 d.2.2.1
   ·rw [if_pos c3,if_pos c3]
    obtain⟨i,hi,e1,n1⟩:=fD_at c3
    have ga:l[i]?=some l[i]:=List.getElem?_eq_getElem hi
    rw [e1] at hF ⊢
    rw [Int.toNat_natCast,getDl_at ga]
    generalize l[i]=a at *
    by_cases c4:d.2.2.2.2.1≤a.2.2.2.2.1
    ·rw [if_pos c4,if_neg (by decide)]
     refine enT Tryz.func28 Tryz.ntmps28 fun v0=>?_
     repeat' first|refine w9x ?_|refine w9p (hC) ?_|refine w9p (hR) ?_|refine w9p (hF) ?_|(refine w9c ?_ ?_<;>intro _<;>try exact w9o)|fail
     all_goals exact w9e
    ·rw [if_neg c4,if_pos rfl]
     refine enT Tryz.func28 Tryz.ntmps28 fun v0=>?_
     repeat' first|((with_reducible apply J.eff);rfl;(exact e_stM (x:=d) rfl rfl rfl rfl rfl rfl))|refine w9x ?_|refine w9p (hC) ?_|refine w9p (hR) ?_|refine w9p (hF) ?_|refine w9p (hCl) ?_|(refine w9c ?_ ?_<;>intro _<;>try exact w9o)|fail
     all_goals exact w9e
   ·rw [if_neg c3,if_neg c3]
    have hfr:=fD_range l d.1 d.2.2.1
    by_cases c5:20≤l.length
    ·rw [if_pos c5,if_neg (by decide)]
     refine enT Tryz.func28 Tryz.ntmps28 fun v0=>?_
     repeat' first|refine w9x ?_|refine w9p (hC) ?_|refine w9p (hR) ?_|refine w9p (hF) ?_|(refine w9c ?_ ?_<;>intro _<;>try exact w9o)|fail
     all_goals exact w9e
    ·rw [if_neg c5,if_pos rfl]
     have hmap0:TV.av (AV.sl true 6 (l.map dlA++[dlA d]))=TV.av (AV.sl true 6 ((l++[d]).map dlA)):=by rw [List.map_append];rfl
     refine enT Tryz.func28 Tryz.ntmps28 fun v0=>?_
     repeat' first|refine w9z ?_|refine w9p (hC) ?_|refine w9p (hR) ?_|refine w9p (hF) ?_|(refine w9c ?_ ?_<;>intro _<;>try exact w9o)|fail
     all_goals try exact w9o
     refine CW.cut [(4,.av (.sl true 6 ((l++[d]).map dlA))),(5,.av (.int (0)))] ?_ ?_
     ·refine CW.reg0 7 rfl [false,false,false,false,false,false,false] (by kernel_rfl) rfl ?_
      refine w9jt 0 ?_
      refine w9j2 1 2 ?_ ?_
      ·repeat' first|((with_reducible apply J.step);rfl;exact FM.st)|((with_reducible apply J.eff);rfl;exact FM.ef)|((with_reducible apply J.callP (hCl));rfl;rfl;exact w9A;(first|exact(fun _=>NoSh.int)|exact(fun h=>Bool.noConfusion h)))|with_reducible refine J.nil ?_
       refine w9j1 2 ?_
       repeat' first|((with_reducible apply J.step);rfl;exact FM.st)|((with_reducible apply J.eff);rfl;exact FM.ef)|((with_reducible apply J.callP (hCl));rfl;rfl;exact w9A;(first|exact(fun _=>NoSh.int)|exact(fun h=>Bool.noConfusion h)))|with_reducible refine J.nil ?_
       refine w9j1 3 ?_
       repeat' first|((with_reducible apply J.step);rfl;exact FM.st)|((with_reducible apply J.eff);rfl;exact FM.ef)|((with_reducible apply J.callP (hCl));rfl;rfl;exact w9A;(first|exact(fun _=>NoSh.int)|exact(fun h=>Bool.noConfusion h)))|with_reducible refine J.nil ?_
       refine w9j1 4 ?_
       repeat' first|((with_reducible apply J.step);rfl;exact FM.st)|((with_reducible apply J.eff);rfl;exact FM.ef)|((with_reducible apply J.callP (hCl));rfl;rfl;exact w9A;(first|exact(fun _=>NoSh.int)|exact(fun h=>Bool.noConfusion h)))|with_reducible refine J.nil ?_
       refine w9jt 5 ?_
       refine w9jt 6 ?_
       refine JA.done (by kernel_rfl) ?_
       exact⟨rfl,by(repeat' (first|exact w9b|refine And.intro ?_ ?_|exact hmap0))⟩
      ·repeat' first|((with_reducible apply J.step);rfl;exact FM.st)|((with_reducible apply J.eff);rfl;exact FM.ef)|((with_reducible apply J.callP (hCl));rfl;rfl;exact w9A;(first|exact(fun _=>NoSh.int)|exact(fun h=>Bool.noConfusion h)))|with_reducible refine J.nil ?_
       refine w9j2 1 3 ?_ ?_
       ·repeat' first|((with_reducible apply J.step);rfl;exact FM.st)|((with_reducible apply J.eff);rfl;exact FM.ef)|((with_reducible apply J.callP (hCl));rfl;rfl;exact w9A;(first|exact(fun _=>NoSh.int)|exact(fun h=>Bool.noConfusion h)))|with_reducible refine J.nil ?_
        refine w9j1 3 ?_
        repeat' first|((with_reducible apply J.step);rfl;exact FM.st)|((with_reducible apply J.eff);rfl;exact FM.ef)|((with_reducible apply J.callP (hCl));rfl;rfl;exact w9A;(first|exact(fun _=>NoSh.int)|exact(fun h=>Bool.noConfusion h)))|with_reducible refine J.nil ?_
        refine w9j1 4 ?_
        repeat' first|((with_reducible apply J.step);rfl;exact FM.st)|((with_reducible apply J.eff);rfl;exact FM.ef)|((with_reducible apply J.callP (hCl));rfl;rfl;exact w9A;(first|exact(fun _=>NoSh.int)|exact(fun h=>Bool.noConfusion h)))|with_reducible refine J.nil ?_
        refine w9jt 5 ?_
        refine w9jt 6 ?_
        refine JA.done (by kernel_rfl) ?_
        exact⟨rfl,by(repeat' (first|exact w9b|refine And.intro ?_ ?_|exact hmap0))⟩
       ·repeat' first|((with_reducible apply J.step);rfl;exact FM.st)|((with_reducible apply J.eff);rfl;exact FM.ef)|((with_reducible apply J.callP (hCl));rfl;rfl;exact w9A;(first|exact(fun _=>NoSh.int)|exact(fun h=>Bool.noConfusion h)))|with_reducible refine J.nil ?_
        refine w9j1 1 ?_
        repeat' first|((with_reducible apply J.step);rfl;exact FM.st)|((with_reducible apply J.eff);rfl;exact FM.ef)|((with_reducible apply J.callP (hCl));rfl;rfl;exact w9A;(first|exact(fun _=>NoSh.int)|exact(fun h=>Bool.noConfusion h)))|with_reducible refine J.nil ?_
        refine w9j1 4 ?_
        repeat' first|((with_reducible apply J.step);rfl;exact FM.st)|((with_reducible apply J.eff);rfl;exact FM.ef)|((with_reducible apply J.callP (hCl));rfl;rfl;exact w9A;(first|exact(fun _=>NoSh.int)|exact(fun h=>Bool.noConfusion h)))|with_reducible refine J.nil ?_
        refine w9jt 5 ?_
        refine w9jt 6 ?_
        refine JA.done (by kernel_rfl) ?_
        exact⟨rfl,by(repeat' (first|exact w9b|refine And.intro ?_ ?_|exact hmap0))⟩
     repeat' first|refine w9x ?_|(refine w9c ?_ ?_<;>intro _<;>try exact w9o)|fail
     all_goals exact w9e
  ·rw [if_pos c2,if_neg c2]
   generalize dlE d=e at *
   refine enT Tryz.func28 Tryz.ntmps28 fun v0=>?_
   repeat' first|refine w9x ?_|refine w9p (hC) ?_|refine w9p (hR) ?_|(refine w9c ?_ ?_<;>intro _<;>try exact w9o)|fail
   all_goals exact w9e
 ·rw [if_pos c1,if_neg c1]
  generalize ofE l=e at *
  refine enT Tryz.func28 Tryz.ntmps28 fun v0=>?_
  repeat' first|refine w9x ?_|refine w9p (hC) ?_|refine w9p (hR) ?_|(refine w9c ?_ ?_<;>intro _<;>try exact w9o)|fail
  all_goals exact w9e
end Go.Proofs.YtkkcnppgcnmikaaGreatDoor
