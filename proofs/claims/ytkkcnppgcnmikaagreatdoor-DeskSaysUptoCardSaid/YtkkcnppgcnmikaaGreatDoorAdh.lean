/- Auctions: what is right; the one who bids most, walked. -/
import Derived.Test.YtkkcnppgcnmikaaGreatDoorAdg
import Derived.Test.YtkkcnppgcnmikaaGreatDoorAbe
import Derived.Test.YtkkcnppgcnmikaaGreatDoorChecked
import Derived.Shelf.SortM.Plain
import Derived.Shelf.SortM.SortNone
import Derived.Shelf.SlicesE.DeleteFunc
import Derived.Shelf.SlSortCmp.Whole1
import Derived.Shelf.SlSortCmp.NoneTotal
namespace Go.Proofs.YtkkcnppgcnmikaaGreatDoor
open Go FM
set_option maxRecDepth 10000
set_option maxHeartbeats 1600000
set_option linter.all false
theorem anyS_take{α:Type}(p:α→Bool)(l:List α)(k:Nat)(h:k<l.length):(l.take (k+1)).any p=((l.take k).any p||p l[k]):=by
 rw [List.take_succ_eq_append_getElem h,List.any_append];simp
theorem anyS_get{α:Type}{p:α→Bool}{l:List α}{k:Nat}(h:k<l.length)(hp:p l[k]=true):l.any p=true:=List.any_eq_true.2 ⟨l[k],List.getElem_mem h,hp⟩
theorem bidCheck_spec(l:List Int)(r:Int)(hl:l.length≤9223372036854775807):FnSpec Sy.P 198 [.sl false 1 ((l).map .int),.int r] [.sl false 1 ((l).map .int),.int r] (.int (bidE l r)):=by
 unfold bidE
 refine enT Tryz.func198 Tryz.ntmps198 fun v0=>?_
 by_cases h1:10<l.length
 ·rw [if_pos h1]
  repeat' first|refine w9x ?_|(refine w9c ?_ ?_<;>intro _<;>try exact w9o)|fail
  all_goals exact w9e
 rw [if_neg h1]
 repeat' first|refine w9x ?_|(refine w9c ?_ ?_<;>intro _<;>try exact w9o)|fail
 refine CW.loop (fun k:Nat=>[(1,.av (.int (r))),(10,.av (.sl false 1 ((l).map .int))),(11,.av (.int (l.length))),(12,.av (.int (k)))]) (fun k=>k≤l.length∧(l.take k).any badBid=false) (fun k=>l.length-k) (0) ?_ (w9a) ?_
 ·exact⟨Nat.zero_le _,rfl⟩
 intro k ⟨hk,hp⟩
 by_cases hlt:k<l.length
 ·have hx:l[k]?=some l[k]:=List.getElem?_eq_getElem hlt
  have ht:=anyS_take badBid l k hlt
  have hgt:=anyS_get (p:=badBid) hlt
  rw [hp,Bool.false_or] at ht
  generalize l[k]=x at *
  have hbd:badBid x=decide (x<0∨1000000<x):=rfl
  rw [hbd] at ht hgt
  by_cases c:x<0∨1000000<x
  ·rw [if_pos (Or.inl (hgt (decide_eq_true c)))]
   repeat' first|refine w9x ?_|(refine w9c ?_ ?_<;>intro _<;>try exact w9o)|fail
   all_goals exact w9e
  ·rw [decide_eq_false c] at ht
   repeat' first|refine w9x ?_|(refine w9c ?_ ?_<;>intro _<;>try exact w9o)|fail
   all_goals try exact w9o
   refine⟨k+1,?_,w9n,w9a⟩
   exact⟨by omega,ht⟩
 ·obtain rfl:k=l.length:=by omega
  rw [List.take_length] at hp
  by_cases c:r<0∨1000000<r
  ·rw [if_pos (Or.inr c)]
   repeat' first|refine w9x ?_|(refine w9c ?_ ?_<;>intro _<;>try exact w9o)|fail
   all_goals exact w9e
  ·rw [if_neg (by rw [hp];rintro(h|h);cases h;exact c h)]
   repeat' first|refine w9x ?_|(refine w9c ?_ ?_<;>intro _<;>try exact w9o)|fail
   all_goals exact w9e
theorem bidErr1_spec(x:Int):FnSpec Sy.P 206 [.int x] [.int x] (.bool (badBid x)):=by
 unfold badBid
 refine enT Tryz.func206 Tryz.ntmps206 fun v0=>?_
 by_cases c:x<0∨1000000<x
 ·rw [decide_eq_true c]
  repeat' first|refine w9x ?_|(refine w9c ?_ ?_<;>intro _<;>try exact w9o)|fail
  all_goals first|exact .mk rfl rfl rfl|exact .mk rfl (congrArg AV.bool (by simp;omega)) rfl
 ·rw [decide_eq_false c]
  repeat' first|refine w9x ?_|(refine w9c ?_ ?_<;>intro _<;>try exact w9o)|fail
  all_goals first|exact .mk rfl rfl rfl|exact .mk rfl (congrArg AV.bool (by simp;omega)) rfl
theorem bidErr1_arg{m:Nat}{v:Nat→Value}{N:Nat}{σ:St}:ArgOk (Sy.fixed m v) N σ (.func 206) true (fnI Sy.P (fun _=>True) badBid) :=
 .funI (bidErr1_spec 0).ok fun x _=>bidErr1_spec x
theorem bidErr_spec(l:List Int)(r:Int)(hl:l.length≤9223372036854775807):FnSpec Sy.P 158 [.sl false 1 ((l).map .int),.int r] [.sl false 1 ((l).map .int),.int r] (.int (bidE l r)):=by
 unfold bidE
 have hA:=containsI_spec l (fun _=>True) badBid hl (fun _ _=>trivial)
 refine enT Tryz.func158 Tryz.ntmps158 fun v0=>?_
 by_cases h1:10<l.length
 ·rw [if_pos h1]
  repeat' first|refine w9x ?_|(refine w9c ?_ ?_<;>intro _<;>try exact w9o)|fail
  all_goals exact w9e
 rw [if_neg h1]
 cases hb:l.any badBid with
 | true =>
  rw [hb] at hA
  rw [if_pos (Or.inl rfl)]
  repeat' first|refine w9x ?_|((with_reducible first|apply J.callP (hA)|apply J.callPQ (hA));rfl;rfl;(repeat' (first|exact ArgsOk.nil|exact bidErr1_arg|apply ArgsOk.cons|exact ArgOk.pl rfl rfl|exact ArgOk.br rfl AV.noConfusion (by first|rfl|exact sh_int|exact sh_rows|exact sh_rowsO|exact sh_box|exact sh_map (fun _=>rfl))));(first|rfl|exact gn0|exact gnI))|(refine w9c ?_ ?_<;>intro _<;>try exact w9o)|fail
  all_goals exact w9e
 | false =>
  rw [hb] at hA
  by_cases c:r<0∨1000000<r
  ·rw [if_pos (Or.inr c)]
   repeat' first|refine w9x ?_|((with_reducible first|apply J.callP (hA)|apply J.callPQ (hA));rfl;rfl;(repeat' (first|exact ArgsOk.nil|exact bidErr1_arg|apply ArgsOk.cons|exact ArgOk.pl rfl rfl|exact ArgOk.br rfl AV.noConfusion (by first|rfl|exact sh_int|exact sh_rows|exact sh_rowsO|exact sh_box|exact sh_map (fun _=>rfl))));(first|rfl|exact gn0|exact gnI))|(refine w9c ?_ ?_<;>intro _<;>try exact w9o)|fail
   all_goals exact w9e
  ·rw [if_neg (by rintro(h|h);cases h;exact c h)]
   repeat' first|refine w9x ?_|((with_reducible first|apply J.callP (hA)|apply J.callPQ (hA));rfl;rfl;(repeat' (first|exact ArgsOk.nil|exact bidErr1_arg|apply ArgsOk.cons|exact ArgOk.pl rfl rfl|exact ArgOk.br rfl AV.noConfusion (by first|rfl|exact sh_int|exact sh_rows|exact sh_rowsO|exact sh_box|exact sh_map (fun _=>rfl))));(first|rfl|exact gn0|exact gnI))|(refine w9c ?_ ?_<;>intro _<;>try exact w9o)|fail
   all_goals exact w9e
theorem two_spec(l:List Int)(r:Int)(h:BOk l r):FnSpec Sy.P 199 [.sl false 1 ((l).map .int),.int r] [.sl false 1 ((l).map .int),.int r] (.tup [.int (bst l r l.length),.int (oth l r (bst l r l.length) l.length)]):=by
 have hlen:=h.len
 refine enT Tryz.func199 Tryz.ntmps199 fun v0=>?_
 repeat' first|refine w9x ?_|(refine w9c ?_ ?_<;>intro _<;>try exact w9o)|fail
 refine CW.loop (fun k:Nat=>[(0,.av (.sl false 1 ((l).map .int))),(1,.av (.int (r))),(6,.av (.int (bst l r k))),(12,.av (.sl false 1 ((l).map .int))),(13,.av (.int (l.length))),(14,.av (.int (k)))]) (fun k=>k≤l.length) (fun k=>l.length-k) (0) ?_ (w9a) ?_
 ·exact Nat.zero_le _
 intro k hk
 have hrg:=bst_range l r k
 by_cases hlt:k<l.length
 ·have hx:l[k]?=some l[k]:=List.getElem?_eq_getElem hlt
  have hs:=bst_succ (r:=r) hlt
  generalize l[k]=x at *
  generalize bst l r k=st at *
  by_cases hxr:r≤x
  ·by_cases hst:st<0
   ·rw [if_pos ⟨hxr,.inl hst⟩] at hs
    repeat' first|refine w9x ?_|(refine w9c ?_ ?_<;>intro _<;>try exact w9o)|fail
    all_goals try exact w9o
    refine⟨k+1,?_,w9n,by(repeat' (first|exact w9b|refine And.intro ?_ ?_|(rw [hs])))⟩
    omega
   ·have hj:l[st.toNat]?=some (atZ l st.toNat):=by rw [atZ_get (by omega)];exact List.getElem?_eq_getElem (by omega)
    generalize atZ l st.toNat=y at *
    by_cases hc:y<x
    ·rw [if_pos ⟨hxr,.inr hc⟩] at hs
     repeat' first|refine w9x ?_|(refine w9c ?_ ?_<;>intro _<;>try exact w9o)|fail
     all_goals try exact w9o
     refine⟨k+1,?_,w9n,by(repeat' (first|exact w9b|refine And.intro ?_ ?_|(rw [hs])))⟩
     omega
    ·rw [if_neg (fun e=>by rcases e.2 with e|e;exact hst e;exact hc e)] at hs
     repeat' first|refine w9x ?_|(refine w9c ?_ ?_<;>intro _<;>try exact w9o)|fail
     all_goals try exact w9o
     refine⟨k+1,?_,w9n,by(repeat' (first|exact w9b|refine And.intro ?_ ?_|(rw [hs])))⟩
     omega
  ·rw [if_neg (fun e=>hxr e.1)] at hs
   repeat' first|refine w9x ?_|(refine w9c ?_ ?_<;>intro _<;>try exact w9o)|fail
   all_goals try exact w9o
   refine⟨k+1,?_,w9n,by(repeat' (first|exact w9b|refine And.intro ?_ ?_|(rw [hs])))⟩
   omega
 ·obtain rfl:k=l.length:=by omega
  generalize bst l r l.length=b at *
  repeat' first|refine w9x ?_|(refine w9c ?_ ?_<;>intro _<;>try exact w9o)|fail
  all_goals try exact w9o
  refine CW.loop (fun k:Nat=>[(6,.av (.int (b))),(9,.av (.int (oth l r b k))),(37,.av (.sl false 1 ((l).map .int))),(38,.av (.int (l.length))),(39,.av (.int (k)))]) (fun k=>k≤l.length) (fun k=>l.length-k) (0) ?_ (w9a) ?_
  ·exact Nat.zero_le _
  intro k hk
  by_cases hlt:k<l.length
  ·have hx:l[k]?=some l[k]:=List.getElem?_eq_getElem hlt
   have hs:oth l r b (k+1)=if (k:Int)=b then oth l r b k else max (oth l r b k) (atZ l k):=rfl
   rw [atZ_get hlt] at hs
   generalize l[k]=x at *
   by_cases hc:(k:Int)=b
   ·rw [if_pos hc] at hs
    repeat' first|refine w9x ?_|(refine w9c ?_ ?_<;>intro _<;>try exact w9o)|fail
    all_goals try exact w9o
    refine⟨k+1,?_,w9n,by(repeat' (first|exact w9b|refine And.intro ?_ ?_|(rw [hs])))⟩
    omega
   ·rw [if_neg hc] at hs
    repeat' first|refine w9x ?_|(refine w9c ?_ ?_<;>intro _<;>try exact w9o)|fail
    all_goals try exact w9o
    refine⟨k+1,?_,w9n,by(repeat' (first|exact w9b|refine And.intro ?_ ?_|(rw [hs])))⟩
    omega
  ·obtain rfl:k=l.length:=by omega
   repeat' first|refine w9x ?_|(refine w9c ?_ ?_<;>intro _<;>try exact w9o)|fail
   all_goals exact w9e
end Go.Proofs.YtkkcnppgcnmikaaGreatDoor
namespace FM
open Go Go.RowKit
set_option linter.all false
theorem back_row{L:Nat→Lab}{w:World}{v:Value}{l l':List Int}{n:Nat}{rest:List AV}{vrest:List Value}(hpre:FM.Pre n L w)(hrep:Rep L w (some [0]) (.sl true 1 (l.map .int)) v)(hlen:l'.length=l.length)(hne:l≠[])(hn:n=rest.length+1)(hl:vrest.length=rest.length)
  (hsh:∀ (i:Nat) x u,rest[i]?=some x→vrest[i]?=some u→Rep L w (some [i+1]) x u∧x.isOwn=false) :
  ∃ blk cap,v=.slice (some ⟨blk,0,none⟩) l.length cap∧Go.Sort.Holds (Value.int .i64) w blk 0 l.toArray∧blk<w.heap.size∧L blk=.my [0] ∧
   ∀ k os,∃ L',FM.Back n (.sl true 1 (l'.map .int)::rest) (.tup []) L w (v::vrest) (.tuple #[]) (Go.Sort.grow (Go.Sort.putRow (Value.int .i64) (Go.Sort.ahead w k) blk 0 l'.toArray) os) L':=by
 cases hl0:l with
 | nil=>exact absurd hl0 hne
 | cons x0 l0 =>
 rw [← hl0]
 generalize hxs:l.map AV.int=xs at hrep
 cases hrep with
 | slE h=>rw [hl0] at hxs;cases hxs
 | @slO p c xs b cap arr e u hL hb hcap hsz hc hcell hr =>
  subst hxs
  have hbl:b<w.heap.size:=(Array.getElem?_eq_some_iff.1 hb).1
  have hval:∀ j,(hj:j<l.length)→arr[j]?=some (.int .i64 l[j]):=fun j hj=>by
   have h1:=hcell j (by rw [List.length_map];omega)
   have h2:=hr j (.int l[j]) (by rw [flat_single (fun x hx=>by obtain⟨y,_,rfl⟩:=List.mem_map.1 hx;rfl),List.getElem?_map,List.getElem?_eq_getElem hj];rfl)
   rw [h1]
   generalize u j=z at h2
   cases h2;rfl
  rw [List.length_map] at hcap ⊢
  rw [Nat.mul_one] at hsz
  refine⟨b,cap,rfl,fun j hj=>?_,hbl,hL,fun k os=>?_⟩
  ·have hj':j<l.length:=by simpa using hj
   refine⟨?_,?_⟩
   ·rw [cell_of_row w b (0+j) arr e (0,0) hb,Nat.zero_add,hval j hj']
    simp [hj']
   ·simp only [World.frozen?,hb];simp
  ·obtain⟨W,hW⟩:∃ W,W=Go.Sort.grow (Go.Sort.putRow (Value.int .i64) (Go.Sort.ahead w k) b 0 l'.toArray) os:=⟨_,rfl⟩
   rw [← hW]
   have hWs:W.heap.size=w.heap.size+os.size:=by rw [hW];simp [Go.Sort.grow,Go.Sort.putRow,Go.Sort.mapBlock,Go.Sort.ahead]
   have hWo:W.os=w.os:=by rw [hW];rfl
   have hWt:W.tape=w.tape:=by rw [hW];rfl
   have hWu:W.output=w.output:=by rw [hW];rfl
   have hWb:W.heap[b]?=some (.cells (Go.Sort.putCells (Value.int .i64) 0 l'.toArray arr) e (0,0)):=by
    rw [hW]
    simp only [Go.Sort.grow,Go.Sort.putRow,Go.Sort.mapBlock,Go.Sort.ahead]
    rw [Array.getElem?_append_left (by simpa using hbl),Array.getElem?_modify,if_pos rfl,hb];rfl
   have hWk:∀ b',b'<w.heap.size→b'≠b→W.heap[b']?=w.heap[b']?:=fun b' h1 h2=>by
    rw [hW]
    simp only [Go.Sort.grow,Go.Sort.putRow,Go.Sort.mapBlock,Go.Sort.ahead]
    rw [Array.getElem?_append_left (by simpa using h1),Array.getElem?_modify,if_neg (fun e=>h2 e.symm)]
   clear hW
   have hLn:∀ b',w.heap.size≤b'→∀ p,L b'≠.my p:=fun b' h p hp=>by have:=hpre.lt b' p hp;omega
   refine⟨L,⟨hWo,hWt,hWu,by omega,fun b' h1 h2=>hWk b' h1 (fun e=>by subst e;exact h2 _ hL)⟩,⟨fun b' p hp=>by have:=hpre.lt b' p hp;omega,hpre.inj,fun b' p hp e=>?_,fun b' p _ hp=>⟨p,hp⟩,fun b' _=>Iff.rfl,hpre.new⟩,fun b' p hp=>?_,fun i x u' hx hu=>?_,.tup rfl fun i x v h=>by simp at h⟩
   ·subst e;obtain⟨i,q,h,_⟩:=hpre.head b' [] hp;cases h
   ·obtain⟨i,q,h,h2⟩:=hpre.head b' p hp;exact⟨i,q,h,by omega⟩
   ·cases i with
    | zero =>
     simp only [List.getElem?_cons_zero,Option.some.injEq] at hx hu
     subst hx;subst hu
     have hsl:(l'.map AV.int).length=l.length:=by rw [List.length_map,hlen]
     rw [← hsl]
     refine .slO (fun o=>.int .i64 (l'.getD o 0)) hL hWb (by rw [hsl];exact hcap) (by simp [Go.Sort.putCells,hsz]) (fun y hy=>by obtain⟨z,_,rfl⟩:=List.mem_map.1 hy;rfl) (fun o ho=>?_) fun o y hy=>?_
     ·rw [hsl,Nat.mul_one] at ho
      have ho2:o<l'.length:=by omega
      have hoa:o<arr.size:=by omega
      simp only [Go.Sort.putCells,Array.getElem?_mapIdx,Array.getElem?_eq_getElem hoa,Option.map_some]
      rw [if_pos ⟨Nat.zero_le _,by simpa using ho2⟩]
      simp [ho2]
     ·rw [flat_single (fun x hx=>by obtain⟨y,_,rfl⟩:=List.mem_map.1 hx;rfl),List.getElem?_map,Option.map_eq_some_iff] at hy
      obtain⟨z,hz,rfl⟩:=hy
      rw [List.getD_eq_getElem?_getD,hz];exact .int
    | succ i =>
     simp only [List.getElem?_cons_succ] at hx hu
     obtain⟨h1,h2⟩:=hsh i x u' hx hu
     refine(Rep.frame (by omega) hWo hWt hWu (fun b' hb' hlt=>⟨hb',hWk b' hlt (fun e=>by subst e;rw [hL] at hb';cases hb')⟩) (h1.replace (π':=none) h2) none (fun p hp=>by cases hp)).any _
end FM
namespace Go.Proofs.YtkkcnppgcnmikaaGreatDoor
open Go FM
set_option linter.all false
end Go.Proofs.YtkkcnppgcnmikaaGreatDoor
namespace FM
open Go Go.RowKit
set_option linter.all false
theorem J.callML{S:Sys}{N:Nat}{σ:St}{P:Program}{f:Nat}{as':List AV}{r:AV}{x0:AV}{op:Operand}{xs:List Operand}{ops:Array Oper}{l:List Oper}{K:St→Prop}{d s ty:Nat}{ts:Array Nat}{pos:String}{aft:Array Edge}{g:Option (Nat×Bool)}(hok:FnOk P f)(hP:P=S.P)(hg:live ops g σ=some true)
  (h1:slotAt σ op=some s) (h2:FM.get σ s=.av x0) (h3:Nat.beq s d=false)
  (hs:∀ (w0:World) (L0:Nat→Lab) (a:Act) (w:World) (L:Nat→Lab),RelL S w0 L0 N σ a w L→FM.Pre (xs.length+1) (inM [(s,0)] L) w→Rep (inM [(s,0)] L) w (some [0]) x0 (a.eval op) →
   Calls P f ((op::xs).map a.eval).toArray w fun e w'=>∃ v L',e=.returned v∧FM.Back (xs.length+1) as' r (inM [(s,0)] L) w ((op::xs).map a.eval) v w' L')
  (hr:NoSh r) (hx:∃ y,as'[0]?=some y∧NoSh y) (h:J false S N ops l K (putM [(s,0)] as' (σ.put d (.av r)))) :
  J false S N ops (⟨some d,.call ⟨.value (.func f),(op::xs).toArray,ts⟩,ty,pos,aft,g⟩::l) K σ:=by
 subst hP
 unfold J at *
 intro hdo w0 L0 Q a w hQ hR
 obtain⟨hd1,hd2⟩:=dstOk_cons hdo
 have hd:=hd1 d rfl
 have hw:=live_wanted (o:=⟨some d,.call ⟨.value (.func f),(op::xs).toArray,ts⟩,ty,pos,aft,g⟩) hg hR
 simp only [wpList,hw,if_true]
 refine .inl ?_
 unfold Oper.wp
 rw [run_call hok rfl rfl w,Oper.upon_enter]
 obtain⟨L,hR⟩:=hR
 have hms:MOk d (xs.length+1) [(s,0)]:=.one h3 (by simp [Nat.blt])
 have hA:ArgM S N σ [(s,0)] 0 op x0:=.mu h1 h2 (by simp [idxM,Nat.beq_refl])
 refine(hs w0 L0 a w L hR ⟨fun b p hb=>?_,fun b p hb=>?_,fun b b' p hb hb'=>?_,fun b hge hf=>?_,hR.globNow.move (Nat.le_refl _) fun b _ h=>⟨inM_sh h,rfl⟩⟩ (hA.rep hR)).mono fun e w' ⟨v,L',he,hB⟩=>?_
 ·obtain⟨t,i,q,h3,_,_⟩:=inM_my hb;exact hR.lok.lt b _ h3
 ·obtain⟨t,i,q,_,h3,h4⟩:=inM_my hb;exact⟨i,q,h4,hms.lt _ _ h3⟩
 ·obtain⟨t,i,q,h3,h4,h5⟩:=inM_my hb
  obtain⟨t',i',q',h3',h4',h5'⟩:=inM_my hb'
  rw [h5] at h5';cases h5'
  have e1:=hms.inv _ _ h4
  have e2:=hms.inv _ _ h4'
  rw [e1] at e2;cases e2
  exact hR.lok.inj _ _ _ h3 h3'
 ·have:=inM_fo.1 hf
  exact hR.lok.new b (Nat.le_trans hR.keep.size hge) this
 ·subst he
  refine h hd2 w0 L0 Q _ w' hQ (after_callM hR hd hms hB hr fun s' i hi=>?_)
  simp only [idxM] at hi
  cases hb:Nat.beq s s' with
  | false=>rw [hb,cond_false] at hi;cases hi
  | true =>
   rw [hb,cond_true] at hi
   have:=Nat.eq_of_beq_eq_true hb
   subst this
   cases hi
   obtain⟨e1,e2,_⟩:=slotAt_ev h1 h2 hR
   exact⟨e1,by simp [e2],hx⟩
end FM
namespace Go.Proofs.YtkkcnppgcnmikaaGreatDoor
open Go Go.Proofs
set_option linter.all false
def lsf_ren:Go.Shelf.Ren:=⟨fun|6=>244|15=>63|14=>258|28=>119|29=>120|20=>264|21=>265|22=>266|23=>267|24=>268|25=>269|26=>270|27=>271|46=>273|47=>166|48=>167|49=>274|50=>275|57=>277|n=>n,fun|22=>63|24=>3|25=>57|3=>3|39=>120|0=>0|53=>172|55=>174|4=>4|46=>164|45=>163|50=>169|5=>5|9=>9|66=>218|70=>222|76=>261|77=>42|n=>n,fun|n=>n⟩
theorem lsf:SlLaysF.n6 Tryz.prog lsf_ren:={
 mixed:=by kernel_rfl,
 f6:=⟨Tryz.f244.name,by decide,Tryz.func244.trans (congrArg some (by kernel_rfl))⟩,
 f14:=⟨Tryz.f258.name,by decide,Tryz.func258.trans (congrArg some (by kernel_rfl))⟩,
 f15:=Tryz.func63.trans (congrArg some (by kernel_rfl)),
 f20:=⟨Tryz.f264.name,by decide,Tryz.func264.trans (congrArg some (by kernel_rfl))⟩,
 f21:=⟨Tryz.f265.name,by decide,Tryz.func265.trans (congrArg some (by kernel_rfl))⟩,
 f22:=⟨Tryz.f266.name,by decide,Tryz.func266.trans (congrArg some (by kernel_rfl))⟩,
 f23:=⟨Tryz.f267.name,by decide,Tryz.func267.trans (congrArg some (by kernel_rfl))⟩,
 f24:=⟨Tryz.f268.name,by decide,Tryz.func268.trans (congrArg some (by kernel_rfl))⟩,
 f25:=⟨Tryz.f269.name,by decide,Tryz.func269.trans (congrArg some (by kernel_rfl))⟩,
 f26:=⟨Tryz.f270.name,by decide,Tryz.func270.trans (congrArg some (by kernel_rfl))⟩,
 f27:=⟨Tryz.f271.name,by decide,Tryz.func271.trans (congrArg some (by kernel_rfl))⟩,
 f28:=Tryz.func119.trans (congrArg some (by kernel_rfl)),
 f29:=Tryz.func120.trans (congrArg some (by kernel_rfl)),
 f46:=⟨Tryz.f273.name,by decide,Tryz.func273.trans (congrArg some (by kernel_rfl))⟩,
 f47:=Tryz.func166.trans (congrArg some (by kernel_rfl)),
 f48:=Tryz.func167.trans (congrArg some (by kernel_rfl)),
 f49:=⟨Tryz.f274.name,by decide,Tryz.func274.trans (congrArg some (by kernel_rfl))⟩,
 f50:=⟨Tryz.f275.name,by decide,Tryz.func275.trans (congrArg some (by kernel_rfl))⟩,
 f57:=⟨Tryz.f277.name,by decide,Tryz.func277.trans (congrArg some (by kernel_rfl))⟩,
 t0:=Tryz.underlying0,
 a0:=Tryz.isAgg0,
 z0:=Tryz.sizeOf0,
 v0:=Tryz.zeroValue0,
 t3:=Tryz.underlying3,
 a3:=Tryz.isAgg3,
 z3:=Tryz.sizeOf3,
 v3:=Tryz.zeroValue3,
 t4:=Tryz.underlying4,
 a4:=Tryz.isAgg4,
 z4:=Tryz.sizeOf4,
 v4:=Tryz.zeroValue4,
 t5:=Tryz.underlying5,
 a5:=Tryz.isAgg5,
 z5:=Tryz.sizeOf5,
 v5:=Tryz.zeroValue5,
 t9:=Tryz.underlying9,
 a9:=Tryz.isAgg9,
 z9:=Tryz.sizeOf9,
 v9:=Tryz.zeroValue9,
 t22:=Tryz.underlying63,
 a22:=Tryz.isAgg63,
 z22:=Tryz.sizeOf63,
 v22:=Tryz.zeroValue63,
 a24:=Tryz.isAgg3,
 z24:=Tryz.sizeOf3,
 t25:=Tryz.underlying57,
 a25:=Tryz.isAgg57,
 z25:=Tryz.sizeOf57,
 v25:=Tryz.zeroValue57,
 t39:=Tryz.underlying120,
 a39:=Tryz.isAgg120,
 z39:=Tryz.sizeOf120,
 v39:=Tryz.zeroValue120,
 t45:=Tryz.underlying163,
 a45:=Tryz.isAgg163,
 z45:=Tryz.sizeOf163,
 v45:=Tryz.zeroValue163,
 t46:=Tryz.underlying164,
 a46:=Tryz.isAgg164,
 z46:=Tryz.sizeOf164,
 v46:=Tryz.zeroValue164,
 t50:=Tryz.underlying169,
 a50:=Tryz.isAgg169,
 z50:=Tryz.sizeOf169,
 v50:=Tryz.zeroValue169,
 t53:=Tryz.underlying172,
 a53:=Tryz.isAgg172,
 z53:=Tryz.sizeOf172,
 v53:=Tryz.zeroValue172,
 t55:=Tryz.underlying174,
 a55:=Tryz.isAgg174,
 z55:=Tryz.sizeOf174,
 v55:=Tryz.zeroValue174,
 t66:=Tryz.underlying218,
 a66:=Tryz.isAgg218,
 z66:=Tryz.sizeOf218,
 v66:=Tryz.zeroValue218,
 t70:=Tryz.underlying222,
 a70:=Tryz.isAgg222,
 z70:=Tryz.sizeOf222,
 v70:=Tryz.zeroValue222,
 t76:=Tryz.underlying261,
 a76:=Tryz.isAgg261,
 z76:=Tryz.sizeOf261,
 v76:=Tryz.zeroValue261,
 t77:=Tryz.underlying42,
 a77:=Tryz.isAgg42,
 z77:=Tryz.sizeOf42,
 v77:=Tryz.zeroValue42 }
end Go.Proofs.YtkkcnppgcnmikaaGreatDoor
namespace Go.Proofs.YtkkcnppgcnmikaaGreatDoor
open Go FM
set_option maxRecDepth 10000
set_option linter.all false
def iota(n:Nat):List Int:=(List.range n).map fun(k:Nat)=>(k:Int)
theorem iota_succ(n:Nat):iota n++[(n:Int)]=iota (n+1):=by simp [iota,List.range_succ]
theorem iota_length(n:Nat):(iota n).length=n:=by simp [iota]
theorem Sides_spec(n:Nat)(hn:n≤1000000):FnSpec Sy.P 214 [.int n] [.int n] (.sl true 1 ((iota n).map .int)):=by
 refine enT Tryz.func214 Tryz.ntmps214 fun v0=>?_
 repeat' first|refine w9x ?_|(refine w9c ?_ ?_<;>intro _<;>try exact w9o)|fail
 refine CW.own 3 1 rfl ?_
 refine CW.loop (fun k:Nat=>[(3,.av (.sl true 1 ((iota k).map .int))),(5,.av (.int (n))),(6,.av (.int (k)))]) (fun k=>k≤n) (fun k=>n-k) (0) ?_ (w9a) ?_
 ·exact Nat.zero_le _
 intro k hk
 have hlen:=iota_length k
 have hs:=iota_succ k
 by_cases hlt:k<n
 ·repeat' first|refine w9x ?_|(refine w9c ?_ ?_<;>intro _<;>try exact w9o)|fail
  refine⟨k+1,?_,w9n,w9a⟩
  omega
 ·obtain rfl:k=n:=by omega
  repeat' first|refine w9x ?_|(refine w9c ?_ ?_<;>intro _<;>try exact w9o)|fail
  exact .mk rfl rfl rfl
end Go.Proofs.YtkkcnppgcnmikaaGreatDoor
namespace Go.Proofs.YtkkcnppgcnmikaaGreatDoor
open Go FM Go.Proofs
set_option maxRecDepth 10000
set_option maxHeartbeats 1600000
set_option linter.all false
theorem putRow_val{α:Type}[Inhabited α]{enc:α→Value}{f:α→Int}(he:∀ x,enc x=.int .i64 (f x))(w:World)(blk:Nat)(d:List α):Go.Sort.putRow enc w blk 0 d.toArray=Go.Sort.putRow (Value.int .i64) w blk 0 (d.map f).toArray:=by
 unfold Go.Sort.putRow
 congr 1
 funext c
 unfold Go.Sort.putCells
 congr 1
 funext k x
 have hs:(d.map f).toArray.size=d.toArray.size:=by simp
 rw [hs]
 by_cases h:0≤k∧k<0+d.toArray.size
 ·rw [if_pos h,if_pos h]
  have hk:k<d.length:=by have:=h.2;simpa using this
  rw [he,getElem!_pos _ _ (by simpa using hk),getElem!_pos _ _ (by simpa using hk)]
  simp
 ·rw [if_neg h,if_neg h]
theorem sh_row{L:Nat→Lab}{w:World}{π:Option (List Nat)}{l:List Int}{u:Value}(h:Rep L w π (.sl false 1 (l.map .int)) u)(hne:l≠[]) :
  ∃ b off cap,u=.slice (some ⟨b,off,none⟩) l.length cap∧L b=.sh∧b<w.heap.size∧∀ j,(hj:j<l.length)→w.cell? ⟨b,off+j,none⟩=some (.int .i64 l[j]):=by
 generalize hxs:l.map AV.int=xs at h
 cases h with
 | slE h=>exfalso;apply hne;cases l with
  | nil=>rfl
  | cons a r=>cases hxs
 | @slS _ c xs b off cap uu hcap hL hb hc hcell hr =>
  subst hxs
  rw [List.length_map]
  refine⟨b,off,cap,rfl,hL,hb,fun j hj=>?_⟩
  have h1:=hcell j (by rw [List.length_map];omega)
  have h2:=hr j (.int l[j]) (by rw [flat_single (fun x hx=>by obtain⟨y,_,rfl⟩:=List.mem_map.1 hx;rfl),List.getElem?_map,List.getElem?_eq_getElem hj];rfl)
  rw [h1]
  generalize uu j=z at h2
  cases h2;rfl
theorem srtF_ok:FnOk Sy.P 244:=⟨_,Tryz.func244,rfl,rfl⟩
theorem inM_one{s:Nat}{L:Nat→Lab}{blk:Nat}(h:inM [(s,0)] L blk=.my [0]):L blk=.my [s]:=by
 obtain⟨t,i,q,e1,e2,e3⟩:=inM_my h
 cases e3
 simp only [idxM] at e2
 cases hb':Nat.beq s t with
 | false=>rw [hb',cond_false] at e2;cases e2
 | true=>have:=Nat.eq_of_beq_eq_true hb';subst this;exact e1
theorem rankJ{m:Nat}{v:Nat→Value}{N:Nat}{σ:FM.St}{bids:List Int}{t1 t2 s c d ty:Nat}{ops:Array Oper}{k:List Oper}{K:FM.St→Prop}{ts:Array Nat}{pos:String}{aft:Array Edge}{g:Option (Nat×Bool)}(hg:live ops g σ=some true)
  (h1:slotAt σ (.tmp t1)=some s) (h2:FM.get σ s=.av (.sl true 1 ((iota bids.length).map .int))) (hB:BOk bids 0) (h3:Nat.beq s d=false) (ht2:FM.get σ t2=.clo 245 [c]) (hbx:FM.get σ c=.av (.pt true [.sl false 1 (bids.map .int)])) (hsc:Nat.beq s c=false)
  (h:J false (Sy.fixed m v) N ops k K (putM [(s,0)] [.sl true 1 ((rkd bids).map .int),.dead] (σ.put d (.av (.tup []))))) :
  J false (Sy.fixed m v) N ops (⟨some d,.call ⟨.value (.func 244),#[.tmp t1,.tmp t2],ts⟩,ty,pos,aft,g⟩::k) K σ:=by
 refine J.callML (xs:=[.tmp t2]) (op:=.tmp t1) srtF_ok rfl hg h1 h2 h3 (fun w0 L0 a w L hR hpre hrep=>?_) noSh_unit ⟨_,rfl,noSh_ints⟩ h
 have hlen:=hB.len
 have hfe:=clo_eval ht2 hR
 by_cases hne:bids=[]
 ·subst hne
  have:∃ x cap,a.eval (.tmp t1)=.slice x 0 cap:=sl_inv hrep
  obtain⟨x,cap,hv⟩:=this
  simp only [List.map_cons,List.map_nil,hv]
  refine(AnyF.slices_SortFunc_none { lsf with } x cap (a.eval (.tmp t2)) w).mono fun e w' ⟨he,hw⟩=>?_
  subst hw
  refine⟨_,inM [(s,0)] L,he,⟨rfl,rfl,rfl,Nat.le_refl _,fun _ _ _=>rfl⟩,⟨hpre.lt,hpre.inj,fun b' p hp e=>?_,fun b' p _ hp=>⟨p,hp⟩,fun b' _=>Iff.rfl,hpre.new⟩,fun b' p hp=>?_,fun i x u hx hu=>?_,.tup rfl fun i x v h=>by simp at h⟩
  ·subst e;obtain⟨i,q,h,_⟩:=hpre.head b' [] hp;cases h
  ·obtain⟨i,q,h,h2⟩:=hpre.head b' p hp;exact⟨i,q,h,Nat.le_of_lt h2⟩
  ·match i with
   | 0 =>
    simp only [List.getElem?_cons_zero,Option.some.injEq] at hx hu
    subst hx;subst hu
    have e0:rkd ([]:List Int)=iota ([]:List Int).length:=by
     have a1:rkd ([]:List Int)=[]:=List.eq_nil_of_length_eq_zero (by simpa using (rk_ok ([]:List Int)).length)
     have a2:iota ([]:List Int).length=[]:=List.eq_nil_of_length_eq_zero (iota_length _)
     rw [a1,a2]
    rw [← hv,e0];exact hrep
   | 1=>simp only [List.getElem?_cons_succ,List.getElem?_cons_zero,Option.some.injEq] at hx;subst hx;exact .dead
   | i+2=>simp at hx
 obtain⟨n,hn⟩:∃ n,bids.length=n+1:=⟨bids.length-1,by have:=List.length_pos_iff.2 hne;omega⟩
 have hil:(iota bids.length).length=bids.length:=iota_length _
 have hrl:(rkd bids).length=bids.length:=(rk_ok bids).length
 obtain⟨blk,cap,hv,hH,hb,hL,hBk⟩:=back_row (l:=iota bids.length) (l':=rkd bids) (n:=2) (rest:=[.dead]) (vrest:=[a.eval (.tmp t2)]) hpre hrep (by rw [hrl,hil]) (fun e=>by rw [e] at hil;simp at hil;omega) rfl rfl (fun i x u hx hu=>by
  match i with
  | 0=>simp only [List.getElem?_cons_zero,Option.some.injEq] at hx;subst hx;exact⟨.dead,rfl⟩
  | i+1=>simp at hx)
 have hLs:=inM_one hL
 have hh:=hR.hold c (own_lt hR hbx (by simp))
 rw [hbx] at hh
 simp only [Hold] at hh
 obtain⟨B,hLB,hpv,hlt,hcc⟩:=pt_at hh
 obtain⟨u,hu,hru⟩:=hcc 0 _ rfl
 obtain⟨b,off,cap2,hub,hLb,hbl,hcells⟩:=sh_row hru hne
 subst hub
 have e1:B≠blk:=fun e=>by subst e;rw [hLB] at hLs;cases hLs;rw [Nat.beq_refl] at hsc;cases hsc
 have e2:b≠blk:=fun e=>by subst e;rw [hLb] at hLs;cases hLs
 have hcb:((List.map Operand.tmp [c]).map a.eval).toArray=#[.pointer (some ⟨B,0,none⟩)]:=by
  show #[a.tmps.getD c undef]=_
  rw [hpv]
 rw [hcb] at hfe
 have hcmp:=rank_cmp bids n hn (fun i=>BOk.at hB i) (by omega) w blk B b off cap2 e1 e2 hlt hbl hu hcells (List.finRange (n+1)).toArray.size
 have hHF:Go.Sort.Holds (fun x:Fin (n+1)=>.int .i64 (x.val:Int)) w blk 0 (List.finRange (n+1)).toArray:=fun j hj=>by
  have hj':j<n+1:=by simpa using hj
  have:=hH j (by simp [hil];omega)
  have e3:(List.finRange (n+1)).toArray[j]! = ⟨j,hj'⟩:=by
   rw [getElem!_pos (List.finRange (n+1)).toArray j hj];simp
  have e4:(iota bids.length).toArray[j]! = (j:Int):=by
   rw [getElem!_pos (iota bids.length).toArray j (by simp [hil];omega)];simp [iota]
  rw [e4] at this
  rw [e3]
  exact this
 have eg:∀ args w,(callFunc 245 args).run Tryz.prog w=.ok (.enter 245 args) w:=enters_of Tryz.func245 (by kernel_rfl) rfl
 have hcon:=Any.slices_SortFunc_total lsf (fun x:Fin (n+1)=>.int .i64 (x.val:Int)) (fun _=>rfl) (fun x y=>rkF bids x.val y.val) (rank_swo bids n) 245 _ blk 0 cap (List.finRange (n+1)).toArray w eg hcmp hHF hb (by simp;omega) (fun x y h1 h2=>by
  unfold ltOf rkF at h1 h2
  simp only [decide_eq_false_iff_not] at h1 h2
  apply Fin.ext
  split at h1<;>split at h2<;>omega)
 have hsz:(List.finRange (n+1)).toArray.size=(iota bids.length).length:=by rw [hil,hn];simp
 rw [hsz] at hcon
 simp only [List.map_cons,List.map_nil,hv,hfe]
 rw [hv,hfe] at hBk
 refine Calls.mono hcon fun e w' ⟨he,q,os,hw⟩=>?_
 have hpr:w'=Go.Sort.grow (Go.Sort.putRow (Value.int .i64) (Go.Sort.ahead w q) blk 0 (rkd bids).toArray) os:=by
  rw [hw,rk_fin bids n hn]
  unfold Go.Proofs.sortWorld
  rw [putRow_val (f:=fun x:Fin (n+1)=>(x.val:Int)) (fun _=>rfl)]
  rfl
 obtain⟨L',hB'⟩:=hBk q os
 rw [← hpr] at hB'
 exact⟨_,L',he,hB'⟩
theorem ranked_spec(bids:List Int)(hB:BOk bids 0):FnSpec Sy.P 207 [.sl false 1 ((bids).map .int)] [.sl false 1 ((bids).map .int)] (.sl true 1 ((rkd bids).map .int)):=by
 have hlen:=hB.len
 have hS:=Sides_spec bids.length (by omega)
 refine enT Tryz.func207 Tryz.ntmps207 fun v0=>?_
 repeat' first|(refine rankJ (bids:=bids) rfl rfl rfl hB rfl rfl rfl rfl ?_)|((with_reducible apply J.step);rfl;(exact s_mkf (caps:=[1]) rfl rfl))|refine w9x ?_|refine w9p (hS) ?_|fail
 exact .mk rfl rfl rfl
end Go.Proofs.YtkkcnppgcnmikaaGreatDoor
namespace Go.Proofs.YtkkcnppgcnmikaaGreatDoor
open Go FM
set_option maxRecDepth 10000
set_option maxHeartbeats 3200000
set_option linter.all false
def secR(l:List Int)(r:Int):AV:=if bst l r l.length<0 then .tup [.int 0,.int 0,.bool false] else .tup [.int (bst l r l.length),.int (oth l r (bst l r l.length) l.length),.bool true]
theorem secondOf_spec(l:List Int)(r:Int)(hB:BOk l r):FnSpec Sy.P 159 [.sl false 1 ((l).map .int),.int r] [.sl false 1 ((l).map .int),.int r] (secR l r):=by
 have hlen:=hB.len
 have hr0:=hB.r0
 have hB0:BOk l 0:=⟨hB.len,hB.ok,Int.le_refl _,by decide⟩
 have hK:=ranked_spec l hB0
 have hR:=rk_ok l
 have hRl:=hR.length
 unfold secR
 refine enT Tryz.func159 Tryz.ntmps159 fun v0=>?_
 generalize rkd l=R at *
 match R,hR,hRl,hK with
 | [],hR,hRl,hK =>
  have:l=[]:=List.eq_nil_of_length_eq_zero (by simpa using hRl.symm)
  subst this
  rw [if_pos (show bst [] r ([]:List Int).length<0 from(by decide:(-1:Int)<0))]
  repeat' first|refine w9x ?_|refine w9p (hK) ?_|(refine w9c ?_ ?_<;>intro _<;>try exact w9o)|fail
  all_goals exact w9e
 | b::R',hR,hRl,hK =>
  obtain⟨k,hbk,hkl,_⟩:=hR.head
  have hbs:=hR.bst (r:=r)
  subst hbk
  rw [Int.toNat_natCast] at hbs
  have hxk:l[k]?=some (atZ l k):=by rw [atZ_get hkl];exact List.getElem?_eq_getElem hkl
  generalize hat:atZ l k=x at *
  by_cases hrx:r≤x
  ·rw [if_pos hrx] at hbs
   rw [hbs,if_neg (by omega)]
   cases R' with
   | nil =>
    have ho:=hR.oth1 (r:=r)
    rw [ho]
    repeat' first|refine w9x ?_|refine w9p (hK) ?_|(refine w9c ?_ ?_<;>intro _<;>try exact w9o)|fail
    all_goals exact w9e
   | cons c R'' =>
    have ho:=hR.oth2 (r:=r)
    obtain⟨j,hcj,hjl⟩:=hR.mem.1 (List.mem_cons_of_mem _ (List.mem_cons_self ..))
    subst hcj
    rw [Int.toNat_natCast] at ho
    have hyj:l[j]?=some (atZ l j):=by rw [atZ_get hjl];exact List.getElem?_eq_getElem hjl
    rw [ho]
    generalize atZ l j=y at *
    simp only [List.length_cons] at hRl
    repeat' first|refine w9x ?_|refine w9p (hK) ?_|(refine w9c ?_ ?_<;>intro _<;>try exact w9o)|fail
    all_goals exact w9e
  ·rw [if_neg hrx] at hbs
   rw [hbs,if_pos (by decide)]
   repeat' first|refine w9x ?_|refine w9p (hK) ?_|(refine w9c ?_ ?_<;>intro _<;>try exact w9o)|fail
   all_goals exact w9e
end Go.Proofs.YtkkcnppgcnmikaaGreatDoor
