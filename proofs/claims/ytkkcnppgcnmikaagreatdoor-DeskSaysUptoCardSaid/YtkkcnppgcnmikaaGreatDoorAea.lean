/- A stable sort of parts, walked: the insertion sort. -/
import Derived.Test.YtkkcnppgcnmikaaGreatDoorAdj
namespace Go.Proofs.YtkkcnppgcnmikaaGreatDoor
open Go FM Go.Proofs
set_option maxRecDepth 10000
set_option maxHeartbeats 3200000
set_option linter.all false
theorem seg_at{P A R:List Pt}{i:Nat}{x:Pt}(h:A[i]?=some x):(P++(A++R))[P.length+i]?=some x:=by
 have hi:=(List.getElem?_eq_some_iff.1 h).1
 rw [List.getElem?_append_right (by omega),Nat.add_sub_cancel_left,List.getElem?_append_left hi];exact h
theorem mid_at{A B:List Pt}{x:Pt}:(A++x::B)[A.length]?=some x:=by rw [List.getElem?_append_right (Nat.le_refl _),Nat.sub_self];rfl
theorem swp_at{A B:List Pt}{x y:Pt}:((A++y::x::B).set (A.length+1) y).set A.length x=A++x::y::B:=by
 rw [List.set_append_right _ _ (by omega),Nat.add_sub_cancel_left,List.set_append_right _ _ (Nat.le_refl _),Nat.sub_self];rfl
theorem swp_at'{A B:List Pt}{x y:Pt}:((A++y::x::B).set A.length x).set (A.length+1) y=A++x::y::B:=by
 rw [List.set_append_right _ _ (Nat.le_refl _),Nat.sub_self,List.set_append_right _ _ (by omega),Nat.add_sub_cancel_left];rfl
theorem ins_spec(P l R:List Pt)(hl:OkP l)(hx:l.Pairwise lx)(hn:P.length+l.length+R.length≤1000000):FnSpec Sy.P 259 [ptO (P++(l++R)),.int P.length,.int ((P.length+l.length:Nat):Int),fnP] [ptO (P++(srtP l++R)),.int P.length,.int ((P.length+l.length:Nat):Int),fnP] (.tup []):=by
 have e0:P++(l++R)=P++(srtP (l.take 1)++(l.drop 1++R)):=by
  cases l with
  | nil=>rfl
  | cons x l=>rfl
 refine FnSpec.enter (S:=Sy) 1 Tryz.func259 rfl rfl rfl Tryz.ntmps259 rfl rfl rfl rfl fun v0=>?_
 repeat' first|refine w9x ?_|(refine w9c ?_ ?_<;>intro _<;>try exact w9o)|fail
 refine CW.loop (fun k:Nat=>[(0,.av (ptO (P++(srtP (l.take k)++(l.drop k++R))))),(1,.av (.int (P.length))),(2,.av (.int (((P.length+l.length:Nat):Int)))),(3,.av fnP),(8,.av (.int ((P.length:Int)+k)))]) (fun k=>1≤k∧(k≤l.length∨k=1)) (fun k=>l.length+1-k) (1) ?_ (w9a) ?_
 ·exact⟨Nat.le_refl _,.inr rfl⟩
 intro k ⟨hk1,hk2⟩
 by_cases hlt:k<l.length
 ·have hxk:l[k]?=some l[k]:=List.getElem?_eq_getElem hlt
  have htk:l.take (k+1)=l.take k++[l[k]]:=(List.take_append_getElem hlt).symm
  have hdk:l.drop k=l[k]::l.drop (k+1):=List.drop_eq_getElem_cons hlt
  have hsub:(l.take (k+1)).Sublist l:=List.take_sublist ..
  have hok:OkP (l.take k++[l[k]]):=htk▸hl.sub hsub
  have hlx:∀ y∈l.take k,lx y l[k]:=fun y hy=>by
   have:=hx.sublist hsub
   rw [htk] at this
   exact(List.pairwise_append.1 this).2.2 y hy _ (List.mem_singleton.2 rfl)
  have hS:=srt_sorted (hok.sub (List.sublist_append_left ..))
  have hSm:∀ y,y∈srtP (l.take k)↔y∈l.take k:=fun y=>(srt_perm _).mem_iff
  have hSl:(srtP (l.take k)).length=k:=by rw [srt_len,List.length_take];omega
  have hgx:Gd l[k]:=hok.g _ (List.mem_append_right _ (List.mem_singleton.2 rfl))
  have hnx:l[k] ∉ l.take k:=fun h=>by have:=hlx _ h;unfold lx at this;omega
  have hput:=fun A B h1 h2 h3=>srt_put (A:=A) (B:=B) hok h1 h2 h3
  rw [← htk] at hput
  rw [hdk]
  have hdl:(l.drop (k+1)).length=l.length-(k+1):=List.length_drop
  generalize l[k]=x at *
  have hgl:∀ y∈l.take k,Gd y:=fun y hy=>hok.g y (List.mem_append_left _ hy)
  generalize l.take k=lk at *
  generalize hs0:srtP lk=S at *
  have e1:P++(S++(x::l.drop (k+1)++R))=P++(S++(x::([]++(l.drop (k+1)++R)))):=rfl
  repeat' first|refine w9x ?_|(refine w9c ?_ ?_<;>intro _<;>try exact w9o)|fail
  refine CW.loop (fun z:List Pt×List Pt=>[(0,.av (ptO (P++(z.1++(x::(z.2++(l.drop (k+1)++R))))))),(1,.av (.int (P.length))),(2,.av (.int (((P.length+l.length:Nat):Int)))),(3,.av fnP),(8,.av (.int ((P.length:Int)+k))),(9,.av (.int ((P.length:Int)+(z.1.length:Nat))))]) (fun z=>S=z.1++z.2∧∀ y∈z.2,tl x y) (fun z=>z.1.length) ((S,[])) ?_ (w9a) ?_
  ·exact⟨(List.append_nil _).symm,fun y hy=>by cases hy⟩
  rintro⟨A,B⟩ ⟨hAB,hB⟩
  dsimp only at hAB hB ⊢
  have hAl:A.length+B.length=k:=by rw [← hSl,hAB,List.length_append]
  have hmem:∀ y∈A,y∈lk:=fun y hy=>(hSm y).1 (by rw [hAB];exact List.mem_append_left _ hy)
  rw [hAB] at hS
  have hSA:=(List.pairwise_append.1 hS).1
  by_cases hA:A=[]
  ·subst hA
   have hE:=hput [] B hAB (fun y hy=>by cases hy) hB
   rw [List.length_nil]
   have hE':P++([]++(x::(B++(l.drop (k+1)++R))))=P++(srtP (l.take (k+1))++(l.drop (k+1)++R)):=by rw [hE];rfl
   rw [hE']
   repeat' first|refine w9x ?_|(refine w9c ?_ ?_<;>intro _<;>try exact w9o)|fail
   all_goals try exact w9o
   refine⟨k+1,?_,w9n,w9a⟩
   exact⟨by omega,by omega⟩
  ·obtain⟨A',y,rfl⟩:∃ A' y,A=A'++[y]:=⟨A.dropLast,A.getLast hA,(List.dropLast_concat_getLast hA).symm⟩
   have hym:=hmem y (by simp)
   have hyx:=hlx y hym
   have hgy:=hgl y hym
   have hkt:=kb_tl hyx
   rw [List.length_append,List.length_singleton] at *
   have eD:P++((A'++[y])++(x::(B++(l.drop (k+1)++R))))=(P++A')++y::x::(B++(l.drop (k+1)++R)):=by simp only [List.append_assoc,List.cons_append,List.nil_append]
   have hPA:(P++A').length=P.length+A'.length:=List.length_append
   have g1:((P++A')++y::x::(B++(l.drop (k+1)++R)))[((P.length:Int)+((A'.length+1:Nat):Int)).toNat]?=some x:=by
    rw [show((P.length:Int)+((A'.length+1:Nat):Int)).toNat=(P++A').length+1 by omega,List.getElem?_append_right (by omega),Nat.add_sub_cancel_left];rfl
   have g2:((P++A')++y::x::(B++(l.drop (k+1)++R)))[((P.length:Int)+((A'.length+1:Nat):Int)-1).toNat]?=some y:=by
    rw [show((P.length:Int)+((A'.length+1:Nat):Int)-1).toNat=(P++A').length by omega];exact mid_at
   by_cases c:kb x y
   ·have c':=cfP_lt.2 c
    have hset:(((P++A')++y::x::(B++(l.drop (k+1)++R))).set ((P.length:Int)+((A'.length+1:Nat):Int)).toNat y).set ((P.length:Int)+((A'.length+1:Nat):Int)-1).toNat x=P++(A'++(x::((y::B)++(l.drop (k+1)++R)))):=by
     rw [show((P.length:Int)+((A'.length+1:Nat):Int)).toNat=(P++A').length+1 by omega,show((P.length:Int)+((A'.length+1:Nat):Int)-1).toNat=(P++A').length by omega,swp_at]
     simp only [List.append_assoc,List.cons_append]
    have hDl:((P++A')++y::x::(B++(l.drop (k+1)++R))).length≤1000000:=by simp only [List.length_append,List.length_cons];omega
    rw [eD]
    generalize (P++A')++y::x::(B++(l.drop (k+1)++R))=D at *
    generalize hD':P++(A'++(x::((y::B)++(l.drop (k+1)++R))))=D' at *
    have hi1:=(List.getElem?_eq_some_iff.1 g1).1
    have g3:(D.set ((P.length:Int)+((A'.length+1:Nat):Int)).toNat y)[((P.length:Int)+((A'.length+1:Nat):Int)-1).toNat]?=some y:=by rw [List.getElem?_set_ne (by omega)];exact g2
    repeat' first|refine w9y ?_|(refine J.callF [ptA x,ptA y] rfl rfl rfl ⟨x,y,rfl,hgx,hgy⟩ (by exact w9A) (by first|assumption|rfl|simp) rfl ?_)|(refine J.callFQ [ptA x,ptA y] rfl rfl rfl ⟨x,y,rfl,hgx,hgy⟩ (by exact w9A) (by first|assumption|rfl|simp) rfl ?_)|(refine w9c ?_ ?_<;>intro _<;>try exact w9o)|fail
    all_goals try exact w9o
    refine CW.cutB [(0,.av (ptO D')),(1,.av (.int (P.length))),(2,.av (.int (((P.length+l.length:Nat):Int)))),(3,.av fnP),(8,.av (.int ((P.length:Int)+k))),(9,.av (.int ((P.length:Int)+((A'.length+1:Nat):Int))))] ?_ ?_
    ·refine CW.reg0 18 rfl [false,false,false,false,false,false,false,false,false,false,false,false,false,false,false,false,false,false] (by kernel_rfl) rfl ?_
     refine w9jt 0 ?_
     refine w9jt 1 ?_
     refine w9jt 2 ?_
     refine w9jt 3 ?_
     refine w9jt 5 ?_
     refine w9jt 6 ?_
     refine w9jt 10 ?_
     refine w9jt 11 ?_
     apply JA.takeW (i:=4);rfl;rfl;kernel_rfl;(first|((with_reducible apply w_add)<;>exact w9l)|((with_reducible apply w_sub)<;>exact w9l)|((with_reducible apply w_ixaO)<;>exact w9l))
     apply JA.takeW (i:=7);rfl;rfl;kernel_rfl;(first|((with_reducible apply w_add)<;>exact w9l)|((with_reducible apply w_sub)<;>exact w9l)|((with_reducible apply w_ixaO)<;>exact w9l))
     apply JA.takeW (i:=8);rfl;rfl;kernel_rfl;(first|((with_reducible apply w_add)<;>exact w9l)|((with_reducible apply w_sub)<;>exact w9l)|((with_reducible apply w_ixaO)<;>exact w9l))
     apply JA.takeW (i:=12);rfl;rfl;kernel_rfl;(first|((with_reducible apply w_add)<;>exact w9l)|((with_reducible apply w_sub)<;>exact w9l)|((with_reducible apply w_ixaO)<;>exact w9l))
     refine w9j2 9 13 ?_ ?_
     ·repeat' first|refine w9j ?_|fail
      refine w9j1 13 ?_
      repeat' first|refine w9j ?_|fail
      refine w9j1 14 ?_
      repeat' first|refine w9j ?_|fail
      refine w9j1 15 ?_
      repeat' first|refine w9j ?_|fail
      refine w9j1 16 ?_
      repeat' first|refine w9j ?_|fail
      refine w9j1 17 ?_
      repeat' first|refine w9j ?_|fail
      refine JA.done (by kernel_rfl) ?_
      exact⟨rfl,w9a⟩
     ·repeat' first|refine w9j ?_|fail
      refine w9j1 9 ?_
      repeat' first|refine w9j ?_|fail
      refine w9j1 14 ?_
      repeat' first|refine w9j ?_|fail
      refine w9j1 15 ?_
      repeat' first|refine w9j ?_|fail
      refine w9j1 16 ?_
      repeat' first|refine w9j ?_|fail
      refine w9j1 17 ?_
      repeat' first|refine w9j ?_|fail
      refine JA.done (by kernel_rfl) ?_
      exact⟨rfl,w9a⟩
    repeat' first|refine w9x ?_|(refine w9c ?_ ?_<;>intro _<;>try exact w9o)|fail
    refine⟨(A',y::B),?_,w9n,w9a⟩
    refine⟨by rw [hAB];simp,fun z hz=>?_⟩
    rcases List.mem_cons.1 hz with rfl|hz
    ·exact hkt.1 c
    ·exact hB z hz
   ·have c':=mt cfP_lt.1 c
    have hyx':tl y x:=(tl_total hgy hgx (fun e=>hnx (e▸hym))).resolve_right fun h=>c (hkt.2 h)
    have hall:∀ z∈A'++[y],tl z x:=last_all hSA (fun z hz=>hgl z (hmem z hz)) hgx fun hne=>by simpa using hyx'
    have hE:=hput (A'++[y]) B hAB hall hB
    have hE':P++((A'++[y])++(x::(B++(l.drop (k+1)++R))))=P++(srtP (l.take (k+1))++(l.drop (k+1)++R)):=by rw [hE];simp only [List.append_assoc,List.cons_append]
    rw [eD] at hE' ⊢
    generalize (P++A')++y::x::(B++(l.drop (k+1)++R))=D at *
    repeat' first|refine w9x ?_|(refine J.callF [ptA x,ptA y] rfl rfl rfl ⟨x,y,rfl,hgx,hgy⟩ (by exact w9A) (by first|assumption|rfl|simp) rfl ?_)|(refine J.callFQ [ptA x,ptA y] rfl rfl rfl ⟨x,y,rfl,hgx,hgy⟩ (by exact w9A) (by first|assumption|rfl|simp) rfl ?_)|(refine w9c ?_ ?_<;>intro _<;>try exact w9o)|fail
    all_goals try exact w9o
    refine⟨k+1,?_,w9n,w9a⟩
    exact⟨by omega,by omega⟩
 ·have hE:P++(srtP (l.take k)++(l.drop k++R))=P++(srtP l++R):=by rw [List.take_of_length_le (by omega),List.drop_of_length_le (by omega)];rfl
  rw [hE]
  repeat' first|refine w9x ?_|(refine w9c ?_ ?_<;>intro _<;>try exact w9o)|fail
  all_goals exact w9e
end Go.Proofs.YtkkcnppgcnmikaaGreatDoor
namespace FM
open Go Go.RowKit
section
variable {S:Sys} {σ:St} {d ty:Nat} {pos:String} {aft:Array Edge} {g:Option (Nat×Bool)}
abbrev u64(n:Int):AV:=.val (.int .u64 n)
theorem s_cvIu{src dst sz by_ sz2 by2:Nat}{z z2:List AV}{x:Operand}{n:Int}(hS:S.T src=some ⟨.int .i64,sz,by_,z⟩)(hD:S.T dst=some ⟨.int .u64,sz2,by2,z2⟩)(hx:ov σ x=.av (.int n))(h:0≤n∧n≤9223372036854775807):Step S ⟨some d,.convert src dst x,ty,pos,aft,g⟩ σ (σ.put d (.av (u64 n))) :=
 s_cvI hS hD hx rfl fun L w=>by rw [IntWalk.u64_in _ (by omega)];exact .val
theorem s_cvuI{src dst sz by_ sz2 by2:Nat}{z z2:List AV}{x:Operand}{n:Int}(hS:S.T src=some ⟨.int .u64,sz,by_,z⟩)(hD:S.T dst=some ⟨.int .i64,sz2,by2,z2⟩)(hx:ov σ x=.av (u64 n))(h:0≤n∧n≤9223372036854775807):Step S ⟨some d,.convert src dst x,ty,pos,aft,g⟩ σ (σ.put d (.av (.int n))) :=
 s_cvV hS hD hx rfl fun L w=>by rw [IntWalk.i64_in _ (by omega)];exact .int
theorem s_shru1{t t2:Nat}{n:Int}{x y:Operand}(hx:ov σ x=.av (u64 n))(hy:ov σ y=.av (.val (.int .u64 1))):Step S ⟨some d,.binOp .shr t x y t2,ty,pos,aft,g⟩ σ (σ.put d (.av (u64 (n / 2)))) :=
 s_binV hx hy rfl ⟨_,fun _ _=>.val,fun w=>by
  have h0:¬ ((1:Int)<0):=by omega
  have e:Int.fdiv n (2 ^ 1)=n / 2:=by rw [Int.fdiv_eq_ediv_of_nonneg _ (by decide)];rfl
  have e1:min (1:Int).toNat IntKind.u64.bits=1:=by decide
  simp only [eqGuard,binOp,Op.shift,h0,if_false,e1,e]
  rfl⟩
end
end FM
namespace Go.Proofs.YtkkcnppgcnmikaaGreatDoor
open Go FM Go.Proofs
set_option maxRecDepth 10000
set_option maxHeartbeats 6400000
set_option linter.all false
theorem seg_get{P A R:List Pt}{n:Int}{i:Nat}(h:n=(P.length:Int)+(i:Nat))(hi:i<A.length):(P++(A++R))[n.toNat]?=some A[i]:=by
 rw [show n.toNat=P.length+i by omega];exact seg_at (List.getElem?_eq_getElem hi)
/-! ### one ahead of a row -/
theorem sym_one(P:List Pt)(x:Pt)(Y R:List Pt)(hy:0<Y.length)(hok:OkP ([x]++Y))(hY:Y.Pairwise tl)(hlx:∀ y∈Y,lx x y)(hn:P.length+1+Y.length+R.length≤1000000) :
  FnSpec Sy.P 260 [ptO (P++([x]++(Y++R))),.int P.length,.int ((P.length+1:Nat):Int),.int ((P.length+1+Y.length:Nat):Int),fnP] [ptO (P++(srtP ([x]++Y)++R)),.int P.length,.int ((P.length+1:Nat):Int),.int ((P.length+1+Y.length:Nat):Int),fnP] (.tup []):=by
 have gx:Gd x:=hok.g x (by simp)
 have gY:∀ y∈Y,Gd y:=fun y h=>hok.g y (by simp [h])
 have hxY:x ∉ Y:=by have:=hok.nd;simp only [List.singleton_append,List.nodup_cons] at this;exact this.1
 have hYi:=List.pairwise_iff_getElem.1 hY
 have D0x:∀ n:Int,n=(P.length:Int)→(P++([x]++(Y++R)))[n.toNat]?=some x:=fun n hn=>seg_get (A:=[x]) (i:=0) (by omega) (by simp)
 have D0y:∀ (n:Int) (i:Nat) (hi:i<Y.length),n=((P.length+1:Nat):Int)+(i:Nat)→(P++([x]++(Y++R)))[n.toNat]?=some Y[i]:=fun n i hi hn=>by
  have:=seg_get (P:=P++[x]) (A:=Y) (R:=R) (n:=n) (i:=i) (by rw [List.length_append,List.length_singleton];omega) hi
  rw [List.append_assoc] at this;exact this
 have eD:P++([x]++(Y++R))=P++(Y.take 0++(x::(Y.drop 0++R))):=rfl
 have hD0:(P++([x]++(Y++R))).length=P.length+1+Y.length+R.length:=by simp only [List.length_append,List.length_singleton];omega
 refine FnSpec.enter (S:=Sy) 1 Tryz.func260 rfl rfl rfl Tryz.ntmps260 rfl rfl rfl rfl fun v0=>?_
 repeat' first|refine w9x ?_|(refine w9c ?_ ?_<;>intro _<;>try exact w9o)|fail
 all_goals try exact w9o
 refine CW.loop (fun z:Nat×Nat=>[(0,.av (ptO (P++([x]++(Y++R))))),(1,.av (.int (P.length))),(2,.av (.int (((P.length+1:Nat):Int)))),(3,.av (.int (((P.length+1+Y.length:Nat):Int)))),(4,.av fnP),(10,.av (.int (((P.length+1:Nat):Int)+(z.1:Nat)))),(11,.av (.int (((P.length+1:Nat):Int)+(z.2:Nat))))]) (fun z=>z.1≤z.2∧z.2≤Y.length∧(∀ i (h:i<Y.length),i<z.1→tl Y[i] x)∧(∀ i (h:i<Y.length),z.2≤i→tl x Y[i])) (fun z=>z.2-z.1) ((0,Y.length)) ?_ (w9a) ?_
 ·exact⟨Nat.zero_le _,Nat.le_refl _,fun i _ h=>absurd h (Nat.not_lt_zero _),fun i h1 h2=>absurd h1 (Nat.not_lt.2 h2)⟩
 rintro⟨u,v⟩ ⟨h1,h2,h3,h4⟩
 dsimp only at h1 h2 h3 h4 ⊢
 by_cases huv:u<v
 ·have hw:(u+v) / 2<Y.length:=by omega
  have ew:(((P.length+1:Nat):Int)+(u:Nat)+(((P.length+1:Nat):Int)+(v:Nat))) / 2=((P.length+1:Nat):Int)+((u+v) / 2:Nat):=by omega
  have q1:=D0y _ _ hw ew
  have q2:=D0x (P.length:Int) rfl
  have hlxw:=hlx _ (List.getElem_mem hw)
  have hgw:=gY _ (List.getElem_mem hw)
  have hkt:=kb_tl hlxw
  have hne:x≠Y[(u+v) / 2]:=fun e=>hxY (e▸List.getElem_mem hw)
  by_cases c:kb Y[(u+v) / 2] x
  ·have c':=cfP_lt.2 c
   have h3':∀ i (h:i<Y.length),i<(u+v) / 2+1→tl Y[i] x:=fun i h hi=>by
    by_cases e:i=(u+v) / 2
    ·subst e;exact hkt.1 c
    ·exact tl_trans (gY _ (List.getElem_mem h)) hgw gx (hYi i _ h hw (by omega)) (hkt.1 c)
   generalize P++([x]++(Y++R))=D at *
   generalize Y[(u+v) / 2]=y at *
   repeat' first|((with_reducible apply J.step);rfl;((with_reducible apply s_cvIu)<;>(first|rfl|omega)))|((with_reducible apply J.step);rfl;((with_reducible apply s_cvuI)<;>(first|rfl|omega)))|refine w9S @s_shru1 ?_|refine w9x ?_|(refine J.callF [ptA y,ptA x] rfl rfl rfl ⟨y,x,rfl,hgw,gx⟩ (by exact w9A) (by first|assumption|rfl|simp) rfl ?_)|(refine J.callFQ [ptA y,ptA x] rfl rfl rfl ⟨y,x,rfl,hgw,gx⟩ (by exact w9A) (by first|assumption|rfl|simp) rfl ?_)|(refine w9c ?_ ?_<;>intro _<;>try exact w9o)|fail
   all_goals try exact w9o
   refine⟨((u+v) / 2+1,v),?_,w9n,w9a⟩
   exact⟨by dsimp only;omega,h2,h3',h4⟩
  ·have c':=mt cfP_lt.1 c
   have hxw:tl x Y[(u+v) / 2]:=(tl_total gx hgw hne).resolve_right fun h=>c (hkt.2 h)
   have h4':∀ i (h:i<Y.length),(u+v) / 2≤i→tl x Y[i]:=fun i h hi=>by
    by_cases e:i=(u+v) / 2
    ·subst e;exact hxw
    ·exact tl_trans gx hgw (gY _ (List.getElem_mem h)) hxw (hYi _ i hw h (by omega))
   generalize P++([x]++(Y++R))=D at *
   generalize Y[(u+v) / 2]=y at *
   repeat' first|((with_reducible apply J.step);rfl;((with_reducible apply s_cvIu)<;>(first|rfl|omega)))|((with_reducible apply J.step);rfl;((with_reducible apply s_cvuI)<;>(first|rfl|omega)))|refine w9S @s_shru1 ?_|refine w9x ?_|(refine J.callF [ptA y,ptA x] rfl rfl rfl ⟨y,x,rfl,hgw,gx⟩ (by exact w9A) (by first|assumption|rfl|simp) rfl ?_)|(refine J.callFQ [ptA y,ptA x] rfl rfl rfl ⟨y,x,rfl,hgw,gx⟩ (by exact w9A) (by first|assumption|rfl|simp) rfl ?_)|(refine w9c ?_ ?_<;>intro _<;>try exact w9o)|fail
   all_goals try exact w9o
   refine⟨(u,(u+v) / 2),?_,w9n,w9a⟩
   exact⟨by dsimp only;omega,by dsimp only;omega,h3,h4'⟩
 ·obtain rfl:u=v:=by omega
  have hres:srtP ([x]++Y)=Y.take u++x::Y.drop u:=by
   refine srt_of hok ?_ ?_
   ·have:(Y.take u++x::Y.drop u).Perm (x::(Y.take u++Y.drop u)):=List.perm_middle
    rwa [List.take_append_drop] at this
   ·have hp:(Y.take u++Y.drop u).Pairwise tl:=by rw [List.take_append_drop];exact hY
    have hp:=List.pairwise_append.1 hp
    refine List.pairwise_append.2 ⟨hp.1,.cons (fun y hy=>?_) hp.2.1,fun y hy z hz=>?_⟩
    ·obtain⟨i,hi,rfl⟩:=List.getElem_of_mem hy
     rw [List.getElem_drop]
     exact h4 _ _ (by omega)
    ·rcases List.mem_cons.1 hz with rfl|hz
     ·obtain⟨i,hi,rfl⟩:=List.getElem_of_mem hy
      rw [List.getElem_take]
      rw [List.length_take] at hi
      exact h3 _ _ (by omega)
     ·exact hp.2.2 y hy z hz
  rw [hres]
  have hst:∀ t,t<u→∃ y,(P++(Y.take t++(x::(Y.drop t++R))))[P.length+t]?=some x∧(P++(Y.take t++(x::(Y.drop t++R))))[P.length+t+1]?=some y∧((P++(Y.take t++(x::(Y.drop t++R)))).set (P.length+t) y).set (P.length+t+1) x=P++(Y.take (t+1)++(x::(Y.drop (t+1)++R)))∧(P++(Y.take t++(x::(Y.drop t++R)))).length≤1000000:=fun t ht=>by
   have htl:t<Y.length:=by omega
   have e1:=List.drop_eq_getElem_cons htl
   have e2:Y.take (t+1)=Y.take t++[Y[t]]:=(List.take_append_getElem htl).symm
   have e3:(P++Y.take t).length=P.length+t:=by rw [List.length_append,List.length_take];omega
   refine⟨Y[t],?_,?_,?_,?_⟩
   ·rw [← List.append_assoc,←e3];exact mid_at
   ·rw [← List.append_assoc,←e3,e1,List.getElem?_append_right (by omega),Nat.add_sub_cancel_left];rfl
   ·rw [← List.append_assoc,←e3,e1,e2]
    have:=swp_at' (A:=P++Y.take t) (B:=Y.drop (t+1)++R) (x:=Y[t]) (y:=x)
    rw [List.cons_append,this]
    simp only [List.append_assoc,List.cons_append,List.nil_append]
   ·simp only [List.length_append,List.length_cons,List.length_take,List.length_drop];omega
  repeat' first|refine w9x ?_|(refine w9c ?_ ?_<;>intro _<;>try exact w9o)|fail
  all_goals try exact w9o
  refine CW.loop (fun t:Nat=>[(0,.av (ptO (P++(Y.take t++(x::(Y.drop t++R)))))),(1,.av (.int (P.length))),(10,.av (.int (((P.length+1:Nat):Int)+(u:Nat)))),(13,.av (.int ((P.length:Int)+(t:Nat))))]) (fun t=>t≤u) (fun t=>u-t) (0) ?_ (w9a) ?_
  ·exact Nat.zero_le _
  intro t ht
  by_cases hlt:t<u
  ·obtain⟨y,p1,p2,p3,p4⟩:=hst t hlt
   generalize P++(Y.take t++(x::(Y.drop t++R)))=D at *
   generalize hD':P++(Y.take (t+1)++(x::(Y.drop (t+1)++R)))=D' at *
   have i1:((P.length:Int)+(t:Nat)).toNat=P.length+t:=by omega
   have i2:((P.length:Int)+(t:Nat)+1).toNat=P.length+t+1:=by omega
   rw [← i2] at p2 p3
   rw [← i1] at p1 p3
   have hi1:=(List.getElem?_eq_some_iff.1 p1).1
   have hi2:=(List.getElem?_eq_some_iff.1 p2).1
   have g3:(D.set ((P.length:Int)+(t:Nat)).toNat y)[((P.length:Int)+(t:Nat)+1).toNat]?=some y:=by rw [List.getElem?_set_ne (by omega)];exact p2
   repeat' first|refine w9z ?_|(refine w9c ?_ ?_<;>intro _<;>try exact w9o)|fail
   all_goals try exact w9o
   refine CW.cutB [(0,.av (ptO D')),(1,.av (.int (P.length))),(10,.av (.int (((P.length+1:Nat):Int)+(u:Nat)))),(13,.av (.int ((P.length:Int)+(t:Nat))))] ?_ ?_
   ·refine CW.reg0 18 rfl [false,false,false,false,false,false,false,false,false,false,false,false,false,false,false,false,false,false] (by kernel_rfl) rfl ?_
    refine w9jt 0 ?_
    refine w9jt 1 ?_
    refine w9jt 2 ?_
    refine w9jt 3 ?_
    refine w9jt 5 ?_
    refine w9jt 6 ?_
    refine w9jt 10 ?_
    refine w9jt 11 ?_
    apply JA.takeW (i:=4);rfl;rfl;kernel_rfl;(first|((with_reducible apply w_add)<;>exact w9l)|((with_reducible apply w_sub)<;>exact w9l)|((with_reducible apply w_ixaO)<;>exact w9l))
    apply JA.takeW (i:=7);rfl;rfl;kernel_rfl;(first|((with_reducible apply w_add)<;>exact w9l)|((with_reducible apply w_sub)<;>exact w9l)|((with_reducible apply w_ixaO)<;>exact w9l))
    apply JA.takeW (i:=8);rfl;rfl;kernel_rfl;(first|((with_reducible apply w_add)<;>exact w9l)|((with_reducible apply w_sub)<;>exact w9l)|((with_reducible apply w_ixaO)<;>exact w9l))
    apply JA.takeW (i:=12);rfl;rfl;kernel_rfl;(first|((with_reducible apply w_add)<;>exact w9l)|((with_reducible apply w_sub)<;>exact w9l)|((with_reducible apply w_ixaO)<;>exact w9l))
    refine w9j2 9 13 ?_ ?_
    ·repeat' first|refine w9j ?_|fail
     refine w9j1 13 ?_
     repeat' first|refine w9j ?_|fail
     refine w9j1 14 ?_
     repeat' first|refine w9j ?_|fail
     refine w9j1 15 ?_
     repeat' first|refine w9j ?_|fail
     refine w9j1 16 ?_
     repeat' first|refine w9j ?_|fail
     refine w9j1 17 ?_
     repeat' first|refine w9j ?_|fail
     refine JA.done (by kernel_rfl) ?_
     exact⟨rfl,w9a⟩
    ·repeat' first|refine w9j ?_|fail
     refine w9j1 9 ?_
     repeat' first|refine w9j ?_|fail
     refine w9j1 14 ?_
     repeat' first|refine w9j ?_|fail
     refine w9j1 15 ?_
     repeat' first|refine w9j ?_|fail
     refine w9j1 16 ?_
     repeat' first|refine w9j ?_|fail
     refine w9j1 17 ?_
     repeat' first|refine w9j ?_|fail
     refine JA.done (by kernel_rfl) ?_
     exact⟨rfl,w9a⟩
   repeat' first|refine w9x ?_|(refine w9c ?_ ?_<;>intro _<;>try exact w9o)|fail
   refine⟨t+1,?_,w9n,w9a⟩
   omega
  ·obtain rfl:t=u:=by omega
   have e:P++(Y.take t++(x::(Y.drop t++R)))=P++((Y.take t++x::Y.drop t)++R):=by simp only [List.append_assoc,List.cons_append]
   rw [e]
   repeat' first|refine w9x ?_|(refine w9c ?_ ?_<;>intro _<;>try exact w9o)|fail
   all_goals exact w9e
/-! ### one behind a row -/
theorem sym_last(P X:List Pt)(y:Pt)(R:List Pt)(hx:1<X.length)(hok:OkP (X++[y]))(hX:X.Pairwise tl)(hlx:∀ x∈X,lx x y)(hn:P.length+X.length+1+R.length≤1000000) :
  FnSpec Sy.P 260 [ptO (P++(X++([y]++R))),.int P.length,.int ((P.length+X.length:Nat):Int),.int ((P.length+X.length+1:Nat):Int),fnP] [ptO (P++(srtP (X++[y])++R)),.int P.length,.int ((P.length+X.length:Nat):Int),.int ((P.length+X.length+1:Nat):Int),fnP] (.tup []):=by
 have gy:Gd y:=hok.g y (by simp)
 have gX:∀ x∈X,Gd x:=fun x h=>hok.g x (by simp [h])
 have hyX:y ∉ X:=fun h=>by have:=hlx y h;unfold lx at this;omega
 have hXi:=List.pairwise_iff_getElem.1 hX
 have D0y:∀ n:Int,n=((P.length+X.length:Nat):Int)→(P++(X++([y]++R)))[n.toNat]?=some y:=fun n hn=>by
  have:=seg_get (P:=P++X) (A:=[y]) (R:=R) (n:=n) (i:=0) (by rw [List.length_append];omega) (by simp)
  rw [List.append_assoc] at this;exact this
 have D0x:∀ (n:Int) (i:Nat) (hi:i<X.length),n=(P.length:Int)+(i:Nat)→(P++(X++([y]++R)))[n.toNat]?=some X[i]:=fun n i hi hn=>seg_get hn hi
 have eD:P++(X++([y]++R))=P++(X.take X.length++(y::(X.drop X.length++R))):=by rw [List.take_length,List.drop_length];rfl
 have hD0:(P++(X++([y]++R))).length=P.length+X.length+1+R.length:=by simp only [List.length_append,List.length_singleton];omega
 refine FnSpec.enter (S:=Sy) 1 Tryz.func260 rfl rfl rfl Tryz.ntmps260 rfl rfl rfl rfl fun v0=>?_
 repeat' first|refine w9x ?_|(refine w9c ?_ ?_<;>intro _<;>try exact w9o)|fail
 all_goals try exact w9o
 refine CW.loop (fun z:Nat×Nat=>[(0,.av (ptO (P++(X++([y]++R))))),(1,.av (.int (P.length))),(2,.av (.int (((P.length+X.length:Nat):Int)))),(3,.av (.int (((P.length+X.length+1:Nat):Int)))),(4,.av fnP),(14,.av (.int ((P.length:Int)+(z.1:Nat)))),(15,.av (.int ((P.length:Int)+(z.2:Nat))))]) (fun z=>z.1≤z.2∧z.2≤X.length∧(∀ i (h:i<X.length),i<z.1→tl X[i] y)∧(∀ i (h:i<X.length),z.2≤i→tl y X[i])) (fun z=>z.2-z.1) ((0,X.length)) ?_ (w9a) ?_
 ·exact⟨Nat.zero_le _,Nat.le_refl _,fun i _ h=>absurd h (Nat.not_lt_zero _),fun i h1 h2=>absurd h1 (Nat.not_lt.2 h2)⟩
 rintro⟨u,v⟩ ⟨h1,h2,h3,h4⟩
 dsimp only at h1 h2 h3 h4 ⊢
 by_cases huv:u<v
 ·have hw:(u+v) / 2<X.length:=by omega
  have ew:((P.length:Int)+(u:Nat)+((P.length:Int)+(v:Nat))) / 2=(P.length:Int)+((u+v) / 2:Nat):=by omega
  have q1:=D0x _ _ hw ew
  have q2:=D0y ((P.length+X.length:Nat):Int) rfl
  have hlxw:=hlx _ (List.getElem_mem hw)
  have hgw:=gX _ (List.getElem_mem hw)
  have hkt:=kb_tl hlxw
  have hne:y≠X[(u+v) / 2]:=fun e=>hyX (e▸List.getElem_mem hw)
  by_cases c:kb y X[(u+v) / 2]
  ·have c':=cfP_lt.2 c
   have h4':∀ i (h:i<X.length),(u+v) / 2≤i→tl y X[i]:=fun i h hi=>by
    by_cases e:i=(u+v) / 2
    ·subst e;exact hkt.1 c
    ·exact tl_trans gy hgw (gX _ (List.getElem_mem h)) (hkt.1 c) (hXi _ i hw h (by omega))
   generalize P++(X++([y]++R))=D at *
   generalize X[(u+v) / 2]=x at *
   repeat' first|((with_reducible apply J.step);rfl;((with_reducible apply s_cvIu)<;>(first|rfl|omega)))|((with_reducible apply J.step);rfl;((with_reducible apply s_cvuI)<;>(first|rfl|omega)))|refine w9S @s_shru1 ?_|refine w9x ?_|(refine J.callF [ptA y,ptA x] rfl rfl rfl ⟨y,x,rfl,gy,hgw⟩ (by exact w9A) (by first|assumption|rfl|simp) rfl ?_)|(refine J.callFQ [ptA y,ptA x] rfl rfl rfl ⟨y,x,rfl,gy,hgw⟩ (by exact w9A) (by first|assumption|rfl|simp) rfl ?_)|(refine w9c ?_ ?_<;>intro _<;>try exact w9o)|fail
   all_goals try exact w9o
   refine⟨(u,(u+v) / 2),?_,w9n,w9a⟩
   exact⟨by dsimp only;omega,by dsimp only;omega,h3,h4'⟩
  ·have c':=mt cfP_lt.1 c
   have hxw:tl X[(u+v) / 2] y:=(tl_total gy hgw hne).resolve_left fun h=>c (hkt.2 h)
   have h3':∀ i (h:i<X.length),i<(u+v) / 2+1→tl X[i] y:=fun i h hi=>by
    by_cases e:i=(u+v) / 2
    ·subst e;exact hxw
    ·exact tl_trans (gX _ (List.getElem_mem h)) hgw gy (hXi i _ h hw (by omega)) hxw
   generalize P++(X++([y]++R))=D at *
   generalize X[(u+v) / 2]=x at *
   repeat' first|((with_reducible apply J.step);rfl;((with_reducible apply s_cvIu)<;>(first|rfl|omega)))|((with_reducible apply J.step);rfl;((with_reducible apply s_cvuI)<;>(first|rfl|omega)))|refine w9S @s_shru1 ?_|refine w9x ?_|(refine J.callF [ptA y,ptA x] rfl rfl rfl ⟨y,x,rfl,gy,hgw⟩ (by exact w9A) (by first|assumption|rfl|simp) rfl ?_)|(refine J.callFQ [ptA y,ptA x] rfl rfl rfl ⟨y,x,rfl,gy,hgw⟩ (by exact w9A) (by first|assumption|rfl|simp) rfl ?_)|(refine w9c ?_ ?_<;>intro _<;>try exact w9o)|fail
   all_goals try exact w9o
   refine⟨((u+v) / 2+1,v),?_,w9n,w9a⟩
   exact⟨by dsimp only;omega,h2,h3',h4⟩
 ·obtain rfl:u=v:=by omega
  have hXu:srtP X=X.take u++X.drop u:=by rw [List.take_append_drop];exact srt_self (hok.sub (List.sublist_append_left ..)) hX
  have hres:srtP (X++[y])=X.take u++y::X.drop u:=by
   refine srt_put hok hXu (fun x hx=>?_) (fun x hx=>?_)
   ·obtain⟨i,hi,rfl⟩:=List.getElem_of_mem hx
    rw [List.getElem_take]
    rw [List.length_take] at hi
    exact h3 _ _ (by omega)
   ·obtain⟨i,hi,rfl⟩:=List.getElem_of_mem hx
    rw [List.getElem_drop]
    exact h4 _ _ (by omega)
  rw [hres]
  have hst:∀ t,t<X.length→∃ x,(P++(X.take (t+1)++(y::(X.drop (t+1)++R))))[P.length+(t+1)]?=some y∧(P++(X.take (t+1)++(y::(X.drop (t+1)++R))))[P.length+t]?=some x∧((P++(X.take (t+1)++(y::(X.drop (t+1)++R)))).set (P.length+(t+1)) x).set (P.length+t) y=P++(X.take t++(y::(X.drop t++R)))∧(P++(X.take (t+1)++(y::(X.drop (t+1)++R)))).length≤1000000:=fun t ht=>by
   have e1:=List.drop_eq_getElem_cons ht
   have e2:X.take (t+1)=X.take t++[X[t]]:=(List.take_append_getElem ht).symm
   have e3:(P++X.take t).length=P.length+t:=by rw [List.length_append,List.length_take];omega
   have e4:P++(X.take (t+1)++(y::(X.drop (t+1)++R)))=(P++X.take t)++X[t]::y::(X.drop (t+1)++R):=by rw [e2];simp only [List.append_assoc,List.cons_append,List.nil_append]
   rw [e4,←Nat.add_assoc,←e3]
   refine⟨X[t],?_,?_,?_,?_⟩
   ·rw [List.getElem?_append_right (by omega),Nat.add_sub_cancel_left];rfl
   ·exact mid_at
   ·rw [swp_at,e1]
    simp only [List.append_assoc,List.cons_append]
   ·simp only [List.length_append,List.length_cons,List.length_take,List.length_drop];omega
  repeat' first|refine w9x ?_|(refine w9c ?_ ?_<;>intro _<;>try exact w9o)|fail
  all_goals try exact w9o
  refine CW.loop (fun t:Nat=>[(0,.av (ptO (P++(X.take t++(y::(X.drop t++R)))))),(14,.av (.int ((P.length:Int)+(u:Nat)))),(17,.av (.int ((P.length:Int)+(t:Nat))))]) (fun t=>u≤t∧t≤X.length) (fun t=>t) (X.length) ?_ (w9a) ?_
  ·exact⟨h2,Nat.le_refl _⟩
  intro t ⟨ht,htl⟩
  by_cases hlt:u<t
  ·obtain⟨t,rfl⟩:∃ t',t=t'+1:=⟨t-1,by omega⟩
   obtain⟨x,p1,p2,p3,p4⟩:=hst t (by omega)
   generalize P++(X.take (t+1)++(y::(X.drop (t+1)++R)))=D at *
   generalize hD':P++(X.take t++(y::(X.drop t++R)))=D' at *
   have i1:((P.length:Int)+((t+1:Nat):Int)).toNat=P.length+(t+1):=by omega
   have i2:((P.length:Int)+((t+1:Nat):Int)-1).toNat=P.length+t:=by omega
   rw [← i2] at p2 p3
   rw [← i1] at p1 p3
   have hi1:=(List.getElem?_eq_some_iff.1 p1).1
   have hi2:=(List.getElem?_eq_some_iff.1 p2).1
   have g3:(D.set ((P.length:Int)+((t+1:Nat):Int)).toNat x)[((P.length:Int)+((t+1:Nat):Int)-1).toNat]?=some x:=by rw [List.getElem?_set_ne (by omega)];exact p2
   repeat' first|refine w9z ?_|(refine w9c ?_ ?_<;>intro _<;>try exact w9o)|fail
   all_goals try exact w9o
   refine CW.cutB [(0,.av (ptO D')),(14,.av (.int ((P.length:Int)+(u:Nat)))),(17,.av (.int ((P.length:Int)+((t+1:Nat):Int))))] ?_ ?_
   ·refine CW.reg0 18 rfl [false,false,false,false,false,false,false,false,false,false,false,false,false,false,false,false,false,false] (by kernel_rfl) rfl ?_
    refine w9jt 0 ?_
    refine w9jt 1 ?_
    refine w9jt 2 ?_
    refine w9jt 3 ?_
    refine w9jt 5 ?_
    refine w9jt 6 ?_
    refine w9jt 10 ?_
    refine w9jt 11 ?_
    apply JA.takeW (i:=4);rfl;rfl;kernel_rfl;(first|((with_reducible apply w_add)<;>exact w9l)|((with_reducible apply w_sub)<;>exact w9l)|((with_reducible apply w_ixaO)<;>exact w9l))
    apply JA.takeW (i:=7);rfl;rfl;kernel_rfl;(first|((with_reducible apply w_add)<;>exact w9l)|((with_reducible apply w_sub)<;>exact w9l)|((with_reducible apply w_ixaO)<;>exact w9l))
    apply JA.takeW (i:=8);rfl;rfl;kernel_rfl;(first|((with_reducible apply w_add)<;>exact w9l)|((with_reducible apply w_sub)<;>exact w9l)|((with_reducible apply w_ixaO)<;>exact w9l))
    apply JA.takeW (i:=12);rfl;rfl;kernel_rfl;(first|((with_reducible apply w_add)<;>exact w9l)|((with_reducible apply w_sub)<;>exact w9l)|((with_reducible apply w_ixaO)<;>exact w9l))
    refine w9j2 9 13 ?_ ?_
    ·repeat' first|refine w9j ?_|fail
     refine w9j1 13 ?_
     repeat' first|refine w9j ?_|fail
     refine w9j1 14 ?_
     repeat' first|refine w9j ?_|fail
     refine w9j1 15 ?_
     repeat' first|refine w9j ?_|fail
     refine w9j1 16 ?_
     repeat' first|refine w9j ?_|fail
     refine w9j1 17 ?_
     repeat' first|refine w9j ?_|fail
     refine JA.done (by kernel_rfl) ?_
     exact⟨rfl,w9a⟩
    ·repeat' first|refine w9j ?_|fail
     refine w9j1 9 ?_
     repeat' first|refine w9j ?_|fail
     refine w9j1 14 ?_
     repeat' first|refine w9j ?_|fail
     refine w9j1 15 ?_
     repeat' first|refine w9j ?_|fail
     refine w9j1 16 ?_
     repeat' first|refine w9j ?_|fail
     refine w9j1 17 ?_
     repeat' first|refine w9j ?_|fail
     refine JA.done (by kernel_rfl) ?_
     exact⟨rfl,w9a⟩
   repeat' first|refine w9x ?_|(refine w9c ?_ ?_<;>intro _<;>try exact w9o)|fail
   refine⟨t,?_,w9n,w9a⟩
   exact⟨by omega,by omega⟩
  ·obtain rfl:t=u:=by omega
   have e:P++(X.take t++(y::(X.drop t++R)))=P++((X.take t++y::X.drop t)++R):=by simp only [List.append_assoc,List.cons_append]
   rw [e]
   repeat' first|refine w9x ?_|(refine w9c ?_ ?_<;>intro _<;>try exact w9o)|fail
   all_goals exact w9e
end Go.Proofs.YtkkcnppgcnmikaaGreatDoor
