/- Part of the proof. -/
import Derived.Test.YtmbbagbhmjaedaaGreatDoorCbe
set_option linter.all false
set_option maxRecDepth 10000
set_option maxHeartbeats 3200000
namespace FM
open Go Go.RowKit
theorem J.BL{S:Sys}{N:Nat}{σ:St}{P:Program}{f:Nat}{xs9':List AV}{r:AV}{x0:AV}{op:Operand}{xs:List Operand}{ops:Array Oper}{l:List Oper}{K:St->Prop}{d s ty:Nat}{ts:Array Nat}{pos:String}{aft:Array Edge}{g:Option (Nat×Bool)}(hok:jd P f)(hP:P=S.P)(hg:live ops g σ=some true)
  (h1:fN σ op=some s) (h2:FM.get σ s=.av x0) (h3:Nat.beq s d=false)
  (hs:∀ (w0:World) (L0:Nat->aO) (a:Act) (w:World) (L:Nat->aO),RelL S w0 L0 N σ a w L->FM.NO (xs.length+1) (qF [(s,0)] L) w->Rep (qF [(s,0)] L) w (some [0]) x0 (a.eval op) ->
   Calls P f ((op::xs).map a.eval).toArray w fun e w'=>∃ v L',e=.returned v/\FM.tW (xs.length+1) xs9' r (qF [(s,0)] L) w ((op::xs).map a.eval) v w' L')
  (hr:NoSh r) (hx:∃ y,xs9'[0]?=some y/\NoSh y) (h:J false S N ops l K (lS [(s,0)] xs9' (σ.put d (.av r)))) :
  J false S N ops (⟨some d,.call ⟨.value (.func f),(op::xs).toArray,ts⟩,ty,pos,aft,g⟩::l) K σ:=by
 subst hP;unfold J at *;intro dI w0 L0 Q a w hQ hR;obtain⟨yc,NN⟩:=aU dI;have hd:=yc d rfl;have hw:=ba (o:=⟨some d,.call ⟨.value (.func f),(op::xs).toArray,ts⟩,ty,pos,aft,g⟩) hg hR;simp only [wpList,hw,if_true];refine .inl ?_;unfold Oper.wp;rw [jf hok rfl rfl w,Oper.upon_enter];obtain⟨L,hR⟩:=hR;have iM:N6 d (xs.length+1) [(s,0)]:=.one h3 (by simp [Nat.blt]);have hA:ArgM S N σ [(s,0)] 0 op x0:=.mu h1 h2 (by simp [idxM,ahy]);refine(hs w0 L0 a w L hR ⟨fun b p hb=>?_,fun b p hb=>?_,fun b b' p hb bI=>?_,fun b hge hf=>?_,hR.gh.move (ahr _) fun b _ h=>⟨kO h,rfl⟩⟩ (hA.rep hR)).mono fun e w' ⟨v,L',he,hB⟩=>?_
 ·obtain⟨t,i,q,h3,_,_⟩:=dM hb;exact hR.lok.lt b _ h3
 ·obtain⟨t,i,q,_,h3,h4⟩:=dM hb;exact⟨i,q,h4,iM.lt _ _ h3⟩
 ·obtain⟨t,i,q,h3,h4,h5⟩:=dM hb;obtain⟨t',i',q',mA,qc,BG⟩:=dM bI;rw [h5] at BG;cases BG;have e1:=iM.inv _ _ h4;have e2:=iM.inv _ _ qc;rw [e1] at e2;cases e2;exact hR.lok.inj _ _ _ h3 mA
 ·have:=wI.1 hf;exact hR.lok.new b (ahZ hR.keep.size hge) this
 ·subst he;refine h NN w0 L0 Q _ w' hQ (kP hR hd iM hB hr fun s' i hi=>?_);simp only [idxM] at hi
  cases hb:Nat.beq s s' with
  | false=>rw [hb,cond_false] at hi;cases hi
  | true =>
   rw [hb,cond_true] at hi;have:=ahz hb;subst this;cases hi;obtain⟨e1,e2,_⟩:=jm h1 h2 hR;exact⟨e1,by simp [e2],hx⟩
theorem FnSpec.le{P:Program}{f:Nat}{xs9 xs9':List AV}{r r':AV}(h:FnSpec P f xs9 xs9' r)(hl:AV.le r r'):FnSpec P f xs9 xs9' r' :=
 ⟨h.ok,fun w L vs h1 h2 h3=>(h.calls w L vs h1 h2 h3).mono fun e w' ⟨v,L',he,hB⟩=>⟨v,L',he,hB.keep,hB.lok,hB.head,hB.args,Rep.le hl hB.res⟩⟩
end FM
namespace Go.Proofs.YtmbbagbhmjaedaaGreatDoor
open Go FM Go.Proofs Go.Shelf Go.RowKit Go.Lib Go.Sort Tryz
instance : Inhabited Ac := ⟨([], 0, 0, ())⟩
def oP(x:Ac):List Value:=[.string ⟨x.1.toArray⟩,.int .i64 x.2.1,.int .i64 x.2.2.1]
def Oa(x y:Ac):Int:=if x.1<y.1 then -1 else 1
theorem ltA{x y:Ac}:ltOf Oa x y=decide (x.1<y.1):=by
 unfold ltOf Oa;by_cases c:x.1<y.1
 ·rw [if_pos c,decide_eq_true c];rfl
 ·rw [if_neg c,decide_eq_false c];rfl
theorem Ur:SWO (ltOf Oa):=by
 refine⟨fun x=>?_,fun x y z h1 h2=>?_,fun x y z h1 h2=>?_⟩<;>rw [ltA] at *<;>simp only [decide_eq_true_eq,decide_eq_false_iff_not] at *
 ·exact List.lt_irrefl _
 ·exact List.lt_trans h1 h2
 ·exact List.not_lt.2 (List.le_trans (List.not_lt.1 h2) (List.not_lt.1 h1))
def nG(l:List Ac):List Ac:=(pdq (ltOf Oa) l.toArray 0 l.length (Lib.bitLen l.length) true true).toList
theorem rS(l:List Ac):(nG l).Perm l/\(nG l).Pairwise (fun x y=>¬ y.1<x.1):=by
 obtain⟨⟨h1,_,h2⟩,h3⟩:=pdq_sorts (ltOf Oa) Ur l.toArray 0 l.length (Lib.bitLen l.length) true true (ahQ _) ag (Or.inl rfl);unfold nG;generalize pdq (ltOf Oa) l.toArray 0 l.length (Lib.bitLen l.length) true true=d at *;have hs:d.size=l.length:=by simpa using h1
 refine⟨?_,?_⟩
 ·have e1:d.extract 0 l.length=d:=by rw [<- hs];exact Array.extract_size
  have e2:l.toArray.extract 0 l.length=l.toArray:=by have:=Array.extract_size (xs:=l.toArray);simpa using this
  rw [e1,e2] at h2;simpa using h2
 ·rw [ain];intro i j hi hj SJ;have ez:i<d.size:=by simpa using hi
  have SL:j<d.size:=by simpa using hj
  have:=h3 i j (ahQ _) SJ ae;rw [getElem!_pos d i ez,getElem!_pos d j SL,ltA] at this;simpa using this
theorem wO(l:List Ac):(nG l).length=l.length:=(rS l).1.length_eq
theorem YE(x y:Ac)(W:World):Calls Tryz.prog 134 #[.agg (oP x).toArray,.agg (oP y).toArray] W fun e w'=>e=.returned (.int .i64 (Oa x y))/\∃ q os,w'=grow (W.drewN q) os:=by
 obtain⟨s,b,c,u⟩:=x;obtain⟨s',b',c',u'⟩:=y;show Calls Tryz.prog _ #[.agg #[.string ⟨s.toArray⟩,.int .i64 b,.int .i64 c],.agg #[.string ⟨s'.toArray⟩,.int .i64 b',.int .i64 c']] W fun e w'=>e=.returned (.int .i64 (if s<s' then -1 else 1))/\_
 go_enter func134,ntmps134
 by_cases c:s<s'
 ·rw [if_pos c];have hb:Op.bytesLess s s'=true:=by rw [ny];exact decide_eq_true c
  go_wp2
  go_ret
  refine⟨rfl,0,?_⟩;rw [alloc_eq_grow,alloc_eq_grow,grow_grow];exact⟨_,rfl⟩
 ·rw [if_neg c];have hb:Op.bytesLess s s'=false:=by rw [ny];exact decide_eq_false c
  go_wp2
  go_ret
  refine⟨rfl,0,?_⟩;rw [alloc_eq_grow,alloc_eq_grow,grow_grow];exact⟨_,rfl⟩
theorem rT(x:Ac):(bz x).cells=[.str x.1,.int x.2.1,.int x.2.2.1]:=rfl
theorem y7{l:List Ac}:∀ x∈l.map bz,x.cells.length=3:=fun x hx=>by obtain⟨z,_,rfl⟩:=ahY.1 hx;rfl
theorem Mf{L:Nat->aO}{w:World}{π:Option (List Nat)}{x:Ac}{j:Nat}{y:AV}(h:(bz x).cells[j]?=some y):Rep L w π y (oP x)[j]! := by
 match j,h with
 | 0,h=>cases h;exact .str
 | 1,h=>cases h;exact .int
 | 2,h=>cases h;exact .int
 | j+3,h=>simp [rT] at h
theorem Mg{L:Nat->aO}{w:World}{π:Option (List Nat)}{x:Ac}{j:Nat}{y:AV}{v:Value}(h:(bz x).cells[j]?=some y)(hr:Rep L w π y v):v=(oP x)[j]! := by
 match j,h with
 | 0,h=>cases h;cases hr;rfl
 | 1,h=>cases h;cases hr;rfl
 | 2,h=>cases h;cases hr;rfl
 | j+3,h=>simp [rT] at h
theorem FK{L:Nat->aO}{w:World}{v:Value}{l l':List Ac}{n:Nat}{rest:List AV}{vrest:List Value}(b7:FM.NO n L w)(bE:Rep L w (some [0]) (.sl true 3 (l.map bz)) v)(hlen:l'.length=l.length)(cr:l≠[])(hn:n=rest.length+1)(hl:vrest.length=rest.length)
  (kx:∀ (i:Nat) x u,rest[i]?=some x->vrest[i]?=some u->Rep L w (some [i+1]) x u/\x.aW=false) :
  ∃ blk cap,v=.slice (some ⟨blk,0,none⟩) l.length cap/\HoldsK oP 3 w blk 0 l.toArray/\blk<w.heap.size/\L blk=.my [0] /\
   ∀ k os,∃ L',FM.tW n (.sl true 3 (l'.map bz)::rest) (.tup []) L w (v::vrest) (.tuple #[]) (sortWorldK oP 3 w blk 0 k l'.toArray os) L':=by
 cases nf:l with
 | nil=>exact absurd nf cr
 | cons x0 l0 =>
 rw [<- nf];generalize ua:l.map bz=xs at bE
 cases bE with
 | slE h=>rw [nf] at ua;cases ua
 | @slO p c xs b cap arr e u hL hb bK bc hc aH hr =>
  subst ua;have Fc:b<w.heap.size:=(ahx.1 hb).1;rw [ahu] at bK aH ⊢;have kR:∀ o,o<l.length*3->arr[o]?=some ((oP l.toArray[o / 3]!)[o%3]!):=fun o ho=>by
   have hi:o / 3<l.length:=ae;have h1:=aH o ho;have hx:(l.map bz)[o / 3]?=some (bz l[o / 3]):=by rw [ahE,ahn hi];rfl
   have e1:l.toArray[o / 3]! = l[o / 3]:=by rw [getElem!_pos l.toArray (o / 3) (by simpa using hi)];simp
   rw [e1];have e2:o / 3*3+o%3=o:=ae;have hm:o%3<(bz l[o / 3]).cells.length:=by rw [rT];exact Nat.mod_lt _ af
   have hy:(bz l[o / 3]).cells[o%3]?=some ((bz l[o / 3]).cells[o%3]):=ahn hm;have h2:=flat_get hc hx hy;rw [e2] at h2;rw [h1,Mg hy (hr o _ h2)]
  refine⟨b,cap,rfl,fun j hj=>?_,Fc,hL,fun k os=>?_⟩
  ·have SL:j<l.length*3:=by simpa using hj
   refine⟨?_,?_⟩
   ·rw [cell_of_row w b (0+j) arr e (0,0) hb,ahR,kR j SL,get_flatK _ _ _ _ (by simpa using SL)];rfl
   ·simp only [World.frozen?,hb];simp
  ·obtain⟨W,hW⟩:∃ W,W=sortWorldK oP 3 w b 0 k l'.toArray os:=⟨_,rfl⟩;rw [<- hW];have hWs:W.heap.size=w.heap.size+os.size:=by rw [hW];simp [sortWorldK,putRowK,Go.Sort.grow,Go.Sort.putRow,Go.Sort.mapBlock,Go.Sort.ahead]
   have Us:W.os=w.os:=by rw [hW];rfl
   have Ut:W.tape=w.tape:=by rw [hW];rfl
   have Uu:W.output=w.output:=by rw [hW];rfl
   have hWb:W.heap[b]?=some (.cells (Go.Sort.putCells id 0 (flatK oP 3 l'.toArray) arr) e (0,0)):=by
    rw [hW];simp only [sortWorldK,putRowK,Go.Sort.grow,Go.Sort.putRow,Go.Sort.mapBlock,Go.Sort.ahead];rw [Array.getElem?_append_left (by simpa using Fc),aiC,if_pos rfl,hb];rfl
   have SX:∀ b',b'<w.heap.size->b'≠b->W.heap[b']?=w.heap[b']?:=fun b' h1 h2=>by
    rw [hW];simp only [sortWorldK,putRowK,Go.Sort.grow,Go.Sort.putRow,Go.Sort.mapBlock,Go.Sort.ahead];rw [Array.getElem?_append_left (by simpa using h1),aiC,if_neg (fun e=>h2 e.symm)]
   clear hW;refine⟨L,⟨Us,Ut,Uu,ae,fun b' h1 h2=>SX b' h1 (fun e=>by subst e;exact h2 _ hL)⟩,⟨fun b' p hp=>by have:=b7.lt b' p hp;omega,b7.inj,fun b' p hp e=>?_,fun b' p _ hp=>⟨p,hp⟩,fun b' _=>Iff.rfl,fun b' h1 h2=>b7.new b' ae h2⟩,fun b' p hp=>?_,fun i x u' hx hu=>?_,.tup rfl fun i x v h=>by simp at h⟩
   ·subst e;obtain⟨i,q,h,_⟩:=b7.head b' [] hp;cases h
   ·obtain⟨i,q,h,h2⟩:=b7.head b' p hp;exact⟨i,q,h,ae⟩
   ·cases i with
    | zero =>
     simp only [ahq,ahp] at hx hu;subst hx;subst hu;have tO:(l'.map bz).length=l.length:=by rw [ahu,hlen]
     rw [<- tO];refine .slO (fun o=>(flatK oP 3 l'.toArray)[o]!) hL hWb (by rw [tO];exact bK) (by simp [Go.Sort.putCells,bc]) y7 (fun o ho=>?_) fun o y hy=>?_
     ·rw [tO] at ho;have hoa:o<arr.size:=by rw [bc];exact ahv ho (ahT _ bK)
      simp only [Go.Sort.putCells,Array.getElem?_mapIdx,ahO hoa,ah2];rw [if_pos ⟨ahQ _,by simp;omega⟩];rfl
     ·obtain⟨i,j,x,h1,h2,h3,h4⟩:=gL y7 hy;rw [ahE,ahs] at h1;obtain⟨z,hz,rfl⟩:=h1;have y8:i<l'.length:=(aho.1 hz).1;have e1:l'.toArray[o / 3]! = z:=by
       rw [show o / 3=i by omega,getElem!_pos l'.toArray i (by simpa using y8)];simp only [List.getElem_toArray];rw [ahn y8] at hz;exact ah6 hz
      show Rep L W _ y (flatK oP 3 l'.toArray)[o]!;rw [get_flatK _ _ _ _ (by simp;omega),e1,show o%3=j by omega];exact Mf h2
    | succ i =>
     simp only [ahP] at hx hu;obtain⟨h1,h2⟩:=kx i x u' hx hu;refine(Rep.frame ae Us Ut Uu (fun b' bI aA=>⟨bI,SX b' aA (fun e=>by subst e;rw [hL] at bI;cases bI)⟩) (h1.replace (mv:=none) h2) none (fun p hp=>by cases hp)).any _
theorem Mh:jd Sy.P 133:=⟨_,func133,rfl,rfl⟩
theorem acJ{S:FM.Sys}{N:Nat}{σ:FM.St}{l:List Ac}{t1 s d ty:Nat}{ops:Array Oper}{k:List Oper}{K:FM.St->Prop}{ts:Array Nat}{pos:String}{aft:Array Edge}{g:Option (Nat×Bool)}(hP:Sy.P=S.P)(hg:live ops g σ=some true)
  (h1:fN σ (.tmp t1)=some s) (h2:FM.get σ s=.av (.sl true 3 (l.map bz))) (cr:l≠[]) (hlb:l.length<=1000000) (h3:Nat.beq s d=false)
  (h:J false S N ops k K (lS [(s,0)] [.sl true 3 ((nG l).map bz),.dead] (σ.put d (.av (.tup []))))) :
  J false S N ops (⟨some d,.call ⟨.value (.func 133),#[.tmp t1,.func 134],ts⟩,ty,pos,aft,g⟩::k) K σ:=by
 refine J.BL (xs:=[.func 134]) (op:=.tmp t1) Mh hP hg h1 h2 h3 (fun w0 L0 a w L hR b7 bE=>?_) FE ⟨_,rfl,.sl fun x hx=>?_⟩ h
 ·obtain⟨blk,cap,hv,hH,hb,hL,hBk⟩:=FK (l':=nG l) (n:=2) (rest:=[.dead]) (vrest:=[a.eval (.func 134)]) b7 bE (wO l) cr rfl rfl (fun i x u hx hu=>by
   match i with
   | 0=>simp only [ahq,ahp] at hx;subst hx;exact⟨.dead,rfl⟩
   | i+1=>simp at hx)
  have eg:∀ args w,(callFunc 134 args).run Tryz.prog w=.ok (.enter 134 args) w:=enters_of func134 ah rfl;have Uv:=AnyQ.slices_SortFunc_eq lsa 3 isAgg82 sizeOf82 oP (fun _=>rfl) (fun x v hv=>by simp [oP] at hv;rcases hv with rfl|rfl|rfl<;>rfl) Oa Ur 134 #[] blk 0 cap l.toArray w eg (fun m os dk _ x y=>YE x y _) hH hb (by simp;omega);simp only [aiw,List.map_nil,hv];rw [hv] at hBk;have bc:l.toArray.size=l.length:=ag;rw [bc] at Uv;refine Calls.mono Uv fun e w' ⟨he,q,os,hw⟩=>?_;obtain⟨L',SK⟩:=hBk q os;subst hw;refine⟨_,L',he,?_⟩;unfold nG at SK ⊢;exact SK
 ·obtain⟨z,_,rfl⟩:=ahY.1 hx;exact jk rfl
end Go.Proofs.YtmbbagbhmjaedaaGreatDoor
namespace Go.Proofs.YtmbbagbhmjaedaaGreatDoor
open Go FM
variable {s:bd}{m:Int}
def oy(l:List Ac)(s:bd)(m:Int):Int :=
 if eh l≠0 then eh l else if gV s=false then 3 else if jo m=false then 1 else if 0<=fA l s then 7 else if 6<=l.length then 8 else 0
def nH(l:List Ac)(s:bd):Nat:=(l.takeWhile fun a=>decide (a.1<s)).length
def nI(l:List Ac)(s:bd)(m:Int):List Ac:=l.take (nH l s)++(s,m,0,())::l.drop (nH l s)
theorem QD{l:List Ac}:nH l s<=l.length:=List.Sublist.length_le (List.takeWhile_sublist _)
theorem BM:∀ {l:List Ac} {s:bd} {k:Nat} (_:k<nH l s) (hl:k<l.length),l[k].1<s
 | [],s,k,h,hl=>absurd hl (ait _)
 | a::r,s,k,h,hl=>by
  unfold nH at h;rw [List.takeWhile_cons] at h;by_cases c:a.1<s
  ·rw [if_pos (decide_eq_true c)] at h
   cases k with
   | zero=>exact c
   | succ k=>exact BM (l:=r) (k:=k) (by unfold nH;simpa using h) (by simpa using hl)
  ·rw [if_neg (by simpa using c)] at h;simp at h
theorem BN:∀ {l:List Ac} {s:bd} (h:nH l s<l.length),¬ l[nH l s].1<s
 | [],s,h=>absurd h (ait _)
 | a::r,s,h=>by
  have e:nH (a::r) s=if a.1<s then nH r s+1 else 0:=by
   unfold nH;rw [List.takeWhile_cons];by_cases c:a.1<s
   ·rw [if_pos (decide_eq_true c),if_pos c];rfl
   ·rw [if_neg (by simpa using c),if_neg c];rfl
  by_cases c:a.1<s
  ·rw [if_pos c] at e;have h':nH r s<r.length:=by rw [e] at h;simpa using h
   have:=BN (l:=r) h';intro hh;apply this;have e2:(a::r)[nH (a::r) s]=r[nH r s]:=by
    have:∀ (j:Nat) (hj:j<(a::r).length),j=nH r s+1->(a::r)[j]=r[nH r s]:=fun j hj YF=>by subst YF;rfl
    exact this _ _ e
   rw [e2] at hh;exact hh
  ·rw [if_neg c] at e;intro hh;apply c;have:∀ (j:Nat) (hj:j<(a::r).length),j=0->(a::r)[j]=a:=fun j hj YF=>by subst YF;rfl
   rw [this _ _ e] at hh;exact hh
theorem lI{α:Type}{p:α->Bool}:∀ {l:List α} {k:Nat},cp p l k<0->∀ x∈l,p x=false
 | [],k,_,x,h=>by cases h
 | y::r,k,h,x,hx=>by
  unfold cp at h
  cases hp:p y with
  | true=>rw [hp,cond_true] at h;omega
  | false =>
   rw [hp,cond_false] at h;rcases ah1.1 hx with rfl|hx
   ·exact hp
   ·exact lI h x hx
theorem FL{l l':List Ac}(hp:l.Perm l')(h:l.Pairwise fun a b=>¬ b.1<a.1)(h':l'.Pairwise fun a b=>¬ b.1<a.1)(hn:∀ a∈l,∀ b∈l,a.1=b.1->a=b):l=l' :=
 List.Perm.eq_of_pairwise (le:=fun a b=>¬ b.1<a.1) (fun a b ha hb h1 h2=>hn a ha b (hp.mem_iff.2 hb) (List.le_antisymm (List.not_lt.1 h1) (List.not_lt.1 h2))) h h' hp
theorem Mi{l:List Ac}(h:l.Pairwise fun a b=>a.1<b.1):(nI l s m).Pairwise fun a b=>¬ b.1<a.1:=by
 have Xb:∀ {a b:bd},a<b->¬ b<a:=fun h1 h2=>List.lt_irrefl _ (List.lt_trans h1 h2);unfold nI;rw [List.pairwise_append,List.pairwise_cons];refine⟨(h.sublist (List.take_sublist _ _)).imp fun h=>Xb h,⟨fun b hb=>?_,(h.sublist (List.drop_sublist _ _)).imp fun h=>Xb h⟩,fun a ha b hb=>?_⟩
 ·obtain⟨j,hj,rfl⟩:=aip.1 hb;rw [ahV] at hj;rw [List.getElem_drop];have h0:=BN (l:=l) (s:=s) ae;by_cases e:j=0
  ·subst e;have:l[nH l s+0]=l[nH l s]' ae:=rfl;rw [this];exact h0
  ·have h1:=ain.1 h (nH l s) (nH l s+j) ae ae ae;intro h2;exact h0 (List.lt_trans h1 h2)
 ·obtain⟨j,hj,rfl⟩:=aip.1 ha;rw [ahF] at hj;rw [List.getElem_take];have h0:=BM (l:=l) (s:=s) (k:=j) ae ae;rcases ah1.1 hb with rfl|hb
  ·exact Xb h0
  ·obtain⟨i,hi,rfl⟩:=aip.1 hb;rw [ahV] at hi;rw [List.getElem_drop];exact Xb (ain.1 h j (nH l s+i) ae ae ae)
theorem rU{l:List Ac}:(l++[(s,m,0,())]).Perm (nI l s m):=by
 unfold nI;refine List.Perm.trans ?_ (List.perm_middle.symm);rw [List.take_append_drop];exact List.perm_append_singleton _ _
theorem QE{l:List Ac}(h:l.Pairwise fun a b=>a.1<b.1)(hf:fA l s<0):∀ a∈l++[(s,m,0,())],∀ b∈l++[(s,m,0,())],a.1=b.1->a=b:=by
 have dJ:∀ a∈l,a.1≠s:=fun a ha e=>by
  have:=lI (p:=fun a:Ac=>decide (a.1=s)) hf a ha;rw [decide_eq_false_iff_not] at this;exact this e
 have px:∀ a∈l,∀ b∈l,a.1=b.1->a=b:=fun a ha b hb e=>by
  obtain⟨i,hi,rfl⟩:=aip.1 ha;obtain⟨j,hj,rfl⟩:=aip.1 hb;rcases Nat.lt_trichotomy i j with c|c|c
  ·have:=ain.1 h i j hi hj c;rw [e] at this;exact absurd this (List.lt_irrefl _)
  ·subst c;rfl
  ·have:=ain.1 h j i hj hi c;rw [e] at this;exact absurd this (List.lt_irrefl _)
 intro a ha b hb e;rcases aie.1 ha with ha|ha<;>rcases aie.1 hb with hb|hb
 ·exact px a ha b hb e
 ·rw [ahL] at hb;subst hb;exact absurd e (dJ a ha)
 ·rw [ahL] at ha;subst ha;exact absurd e.symm (dJ b hb)
 ·rw [ahL] at ha hb;rw [ha,hb]
theorem D7{l:List Ac}:(nI l s m).length=l.length+1:=by rw [<- rU.length_eq,ahC];rfl
end Go.Proofs.YtmbbagbhmjaedaaGreatDoor
namespace Go.Proofs.YtmbbagbhmjaedaaGreatDoor
open Go FM Go.Proofs Tryz
theorem BO{l:List Ac}{s:bd}{m:Int}(h:l.Pairwise fun a b=>a.1<b.1)(hf:fA l s<0):nG (l++[(s,m,0,())])=nI l s m:=by
 obtain⟨h1,h2⟩:=rS (l++[(s,m,0,())]);have hp:(nG (l++[(s,m,0,())])).Perm (nI l s m):=h1.trans rU;refine FL hp h2 (Mi h) fun a ha b hb e=>?_;exact QE h hf a (h1.mem_iff.1 ha) b (h1.mem_iff.1 hb) e
theorem uX(l:List Ac)(s:bd)(m:Int)(hL:kz l)(h1:s.length<=9223372036854775807):FnSpec Sy.P 94 [.sl false 3 (l.map bz),.str s,.int m] [.sl false 3 (l.map bz),.str s,.int m] (nF (nI l s m) (oy l s m)):=by
 have hC:=gX l hL;have hN:=jN s h1;have hF:=find_spec l s hL.len;have KO:=de l;have iY:=eF l s;unfold oy nF;by_cases c1:eh l=0
 ·have hok:=iN c1;rw [c1] at hC;rw [if_neg (not_not_intro c1)]
  cases c2:gV s with
  | false =>
   rw [c2] at hN;rw [if_pos rfl,if_neg af];refine bQ func94 ntmps94 fun v0=>?_;repeat' first|refine aG ?_|refine aF (hC) ?_|refine aF (hN) ?_|refine aF (hF) ?_|(refine aK ?_ ?_<;>intro _<;>try exact aE)|fail
   all_goals exact bw
  | true =>
  rw [c2] at hN;rw [if_neg (show ¬ (true=false) from by simp)];by_cases c3:jo m=false
  ·have hm:=wL.1 c3;rw [if_pos c3,if_neg af];refine bQ func94 ntmps94 fun v0=>?_;repeat' first|refine aG ?_|refine aF (hC) ?_|refine aF (hN) ?_|refine aF (hF) ?_|(refine aK ?_ ?_<;>intro _<;>try exact aE)|fail
   all_goals exact bw
  rw [if_neg c3];have hm:=lH.1 (by simpa using c3);by_cases c4:0<=fA l s
  ·rw [if_pos c4,if_neg af];refine bQ func94 ntmps94 fun v0=>?_;repeat' first|refine aG ?_|refine aF (hC) ?_|refine aF (hN) ?_|refine aF (hF) ?_|(refine aK ?_ ?_<;>intro _<;>try exact aE)|fail
   all_goals exact bw
  rw [if_neg c4];have YC:=hok.len;by_cases c5:6<=l.length
  ·rw [if_pos c5,if_neg af];refine bQ func94 ntmps94 fun v0=>?_;repeat' first|refine aG ?_|refine aF (hC) ?_|refine aF (hN) ?_|refine aF (hF) ?_|(refine aK ?_ ?_<;>intro _<;>try exact aE)|fail
   all_goals exact bw
  rw [if_neg c5,if_pos rfl];have eP:=gw l ae;rw [<- BO hok.srt ae];have nJ:TV.av (AV.sl true 3 (l.map bz++[bz (s,m,0,())]))=TV.av (AV.sl true 3 ((l++[(s,m,0,())]).map bz)):=by rw [ah0];rfl
  have YG:l++[(s,m,0,())]≠[]:=ag;have YH:(l++[(s,m,0,())]).length<=1000000:=by rw [ahC,List.length_singleton];omega
  refine bQ func94 ntmps94 fun v0=>?_;repeat' first|(refine acJ (l:=l++[(s,m,0,())]) rfl rfl rfl nJ YG YH rfl ?_)|refine aG ?_|refine aF (hC) ?_|refine aF (hN) ?_|refine aF (hF) ?_|refine aF (eP) ?_|(refine aK ?_ ?_<;>intro _<;>try exact aE)|fail
  all_goals exact bw
 ·rw [if_pos c1,if_neg c1];generalize eh l=e at *;refine bQ func94 ntmps94 fun v0=>?_;repeat' first|refine aG ?_|refine aF (hC) ?_|(refine aK ?_ ?_<;>intro _<;>try exact aE)|fail
  all_goals exact bw
variable {v:Nat->Value}
noncomputable def ug (D:Dl->Prop) (p:Dl->Bool):AV:=.fn (wv Sy.P (fun ws=>∃ a,ws=[bL a]/\D a) (fun ws=>match ws with|[.agg [.str s,.str t,.int m,.int n,.int f,.int z]]=>.bool (p (s,t,m,n,f,z,()))|_=>.bool false))
theorem cloDl{m:Nat}{N:Nat}{σ:St}{f t:Nat}{caps:List Nat}{zs:List AV}{D:Dl->Prop}{p:Dl->Bool}(ht:FM.get σ t=.clo f caps)(hc:iK σ caps zs)(hf:jd Sy.P f)(hs:∀ x,D x->FnSpec Sy.P f (bL x::zs) (bL x::zs) (.bool (p x))):aX (Sy.fixed m v) N σ (.tmp t) true (ug D p) :=
 .clo rfl ht hc hf (fun ws hd=>by obtain⟨x,rfl,hx⟩:=hd;exact hs x hx) (fun ws hd=>by obtain⟨x,rfl,hx⟩:=hd;rfl)
theorem jQ(l:List Dl)(D:Dl->Prop)(p:Dl->Bool)(hl:l.length<=9223372036854775807)(hD:∀ x∈l,D x):FnSpec Sy.P 88 [.sl false 6 (l.map bL),ug D p] [.sl false 6 (l.map bL),ug D p] (.int (cp p l 0)):=by
 refine bQ func88 ntmps88 fun v0=>?_;repeat' first|refine aG ?_|(refine aK ?_ ?_<;>intro _<;>try exact aE)|(refine l7 ?_ ?_<;>intro _<;>try exact l6)|fail
 refine CW.loop (fun k:Nat=>[(0,.av (.sl false 6 (l.map bL))),(1,.av (ug D p)),(7,.av (.int (l.length))),(8,.av (.int (k)))]) (fun k=>k<=l.length/\cp p l 0=cp p (l.drop k) k) (fun k=>l.length-k) (0) ?_ (ck) ?_
 ·exact⟨ahQ _,rfl⟩
 intro k ⟨hk,hp⟩;by_cases aA:k<l.length
 ·have hx:l[k]?=some l[k]:=ahn aA;have hd:D l[k]:=hD _ (ahB aA);rw [oL aA] at hp;have mC:(AV.bool (p (l[k].1,l[k].2.1,l[k].2.2.1,l[k].2.2.2.1,l[k].2.2.2.2.1,l[k].2.2.2.2.2.1,())))=.bool (p l[k]):=rfl
  cases hb:p l[k] with
  | true =>
   rw [hb,cond_true] at hp;rw [hb] at mC;rw [hp];repeat' first|refine aG ?_|(refine J.pB [bL l[k]] rfl rfl rfl ⟨_,rfl,hd⟩ (by exact fX) (by first|assumption|rfl|simp) rfl ?_)|(refine J.mF [bL l[k]] rfl rfl rfl ⟨_,rfl,hd⟩ (by exact fX) (by first|assumption|rfl|simp) rfl ?_)|(refine aK ?_ ?_<;>intro _<;>try exact aE)|(refine l7 ?_ ?_<;>intro _<;>try exact l6)|fail
   all_goals first|(rw [hb] at *;contradiction)|exact .mk rfl rfl rfl
  | false =>
   rw [hb,cond_false] at hp;rw [hb] at mC;repeat' first|refine aG ?_|(refine J.pB [bL l[k]] rfl rfl rfl ⟨_,rfl,hd⟩ (by exact fX) (by first|assumption|rfl|simp) rfl ?_)|(refine J.mF [bL l[k]] rfl rfl rfl ⟨_,rfl,hd⟩ (by exact fX) (by first|assumption|rfl|simp) rfl ?_)|(refine aK ?_ ?_<;>intro _<;>try exact aE)|(refine l7 ?_ ?_<;>intro _<;>try exact l6)|fail
   all_goals first|(rw [hb] at *;contradiction)|skip
   refine⟨k+1,?_,fM,ck⟩;exact⟨ae,hp⟩
 ·obtain rfl:k=l.length:=ae;rw [rL] at hp;rw [hp];repeat' first|refine aG ?_|(refine aK ?_ ?_<;>intro _<;>try exact aE)|(refine l7 ?_ ?_<;>intro _<;>try exact l6)|fail
  exact .mk rfl rfl rfl
def tD(s:bd)(n:Int)(d:Dl):Bool:=decide (d.1=s)&&decide (d.2.2.1=n)
def fD(l:List Dl)(s:bd)(n:Int):Int:=cp (tD s n) l 0
theorem pE(d:Dl)(s:bd)(n:Int):FnSpec Sy.P 136 [bL d,.pt false [.str s],.pt false [.int n]] [bL d,.pt false [.str s],.pt false [.int n]] (.bool (tD s n d)):=by
 unfold tD;obtain⟨a,b,c,e,f,g,u⟩:=d;refine bQ func136 ntmps136 fun v0=>?_;by_cases h:a=s
 ·rw [decide_eq_true h,Bool.true_and];repeat' first|refine aG ?_|(refine aK ?_ ?_<;>intro _<;>try exact aE)|fail
  all_goals exact bw
 ·rw [decide_eq_false h,aiL];repeat' first|refine aG ?_|(refine aK ?_ ?_<;>intro _<;>try exact aE)|fail
  all_goals exact bw
theorem pF(d:Dl)(s:bd)(n:Int):FnSpec Sy.P 89 [bL d,.pt false [.str s],.pt false [.int n]] [bL d,.pt false [.str s],.pt false [.int n]] (.bool (tD s n d)):=by
 unfold tD;obtain⟨a,b,c,e,f,g,u⟩:=d;refine bQ func89 ntmps89 fun v0=>?_;by_cases h:a=s
 ·rw [decide_eq_true h,Bool.true_and];repeat' first|refine aG ?_|(refine aK ?_ ?_<;>intro _<;>try exact aE)|fail
  all_goals exact bw
 ·rw [decide_eq_false h,aiL];repeat' first|refine aG ?_|(refine aK ?_ ?_<;>intro _<;>try exact aE)|fail
  all_goals exact bw
abbrev d0:Dl:=([],[],0,0,0,0,())
theorem BP{s:bd}{n:Int}{m:Nat}{N:Nat}{σ:St}{t q r:Nat}(ht:FM.get σ t=.clo 136 [q,r])(h1:FM.get σ q=.av (.pt true [.str s]))(h2:FM.get σ r=.av (.pt true [.int n])):aX (Sy.fixed m v) N σ (.tmp t) true (ug (fun _=>True) (tD s n)) :=
 cloDl (zs:=[.pt false [.str s],.pt false [.int n]]) ht (.cons h1 rfl (.cons h2 rfl .nil)) (pE d0 [] 0).ok fun x _=>pE x s n
theorem BQ{s:bd}{n:Int}{m:Nat}{N:Nat}{σ:St}{t q r:Nat}(ht:FM.get σ t=.clo 89 [q,r])(h1:FM.get σ q=.av (.pt true [.str s]))(h2:FM.get σ r=.av (.pt true [.int n])):aX (Sy.fixed m v) N σ (.tmp t) true (ug (fun _=>True) (tD s n)) :=
 cloDl (zs:=[.pt false [.str s],.pt false [.int n]]) ht (.cons h1 rfl (.cons h2 rfl .nil)) (pF d0 [] 0).ok fun x _=>pF x s n
theorem mH(l:List Dl)(s:bd)(n:Int)(hl:l.length<=9223372036854775807):FnSpec Sy.P 98 [.sl false 6 (l.map bL),.str s,.int n] [.sl false 6 (l.map bL),.str s,.int n] (.int (fD l s n)):=by
 have hI:=jQ l (fun _=>True) (tD s n) hl (fun _ _=>trivial);refine bQ func98 ntmps98 fun v0=>?_;repeat' first|((with_reducible apply J.step);rfl;(exact ry (caps:=[4,5]) rfl rfl))|refine aG ?_|((with_reducible first|apply J.bq (hI)|apply J.dE (hI));rfl;rfl;(repeat' (first|exact aV.nil|exact BP rfl rfl rfl|apply aV.cons|exact aX.pl rfl rfl|exact aX.br rfl AV.noConfusion (by first|rfl|exact dr|exact c7|exact cD|exact dL|exact bG (fun _=>rfl))));(first|rfl|exact Be|exact Bf))
 exact .mk rfl rfl rfl
theorem jR(l:List Dl)(s:bd)(n:Int)(hl:l.length<=9223372036854775807):FnSpec Sy.P 56 [.sl false 6 (l.map bL),.str s,.int n] [.sl false 6 (l.map bL),.str s,.int n] (.int (fD l s n)):=by
 have hI:=jQ l (fun _=>True) (tD s n) hl (fun _ _=>trivial);refine bQ func56 ntmps56 fun v0=>?_;repeat' first|((with_reducible apply J.step);rfl;(exact ry (caps:=[4,5]) rfl rfl))|refine aG ?_|((with_reducible first|apply J.bq (hI)|apply J.dE (hI));rfl;rfl;(repeat' (first|exact aV.nil|exact BQ rfl rfl rfl|apply aV.cons|exact aX.pl rfl rfl|exact aX.br rfl AV.noConfusion (by first|rfl|exact dr|exact c7|exact cD|exact dL|exact bG (fun _=>rfl))));(first|rfl|exact Be|exact Bf))
 exact .mk rfl rfl rfl
theorem eG(l:List Dl)(hl:l.length<=1000000):FnSpec Sy.P 57 [.sl false 6 (l.map bL)] [.sl false 6 (l.map bL)] (.sl true 6 (l.map bL)):=by
 refine bQ func57 ntmps57 fun v0=>?_;repeat' first|refine aG ?_|(refine l7 ?_ ?_<;>intro _<;>try exact l6)|(refine w9q ?_;intro Yz Ib)|fail
 ·by_cases h:l=[]
  ·subst h;exact .KN rfl .nil rfl
  ·have:=Ib (by simpa using h)
   simp_all
 ·exact .mk rfl rfl rfl
theorem QF(a b:Dl):(a.1=b.1/\a.2.1=b.2.1/\a.2.2.1=b.2.2.1/\a.2.2.2.1=b.2.2.2.1/\a.2.2.2.2.1=b.2.2.2.2.1/\a.2.2.2.2.2.1=b.2.2.2.2.2.1)↔a=b:=by
 constructor
 ·rintro⟨h1,h2,h3,h4,h5,h6⟩;exact Prod.ext h1 (Prod.ext h2 (Prod.ext h3 (Prod.ext h4 (Prod.ext h5 (Prod.ext h6 rfl)))))
 ·intro h;subst h;exact⟨rfl,rfl,rfl,rfl,rfl,rfl⟩
instance : DecidableEq Dl := fun a b => decidable_of_iff _ (QF a b)
def wP(l:List Dl):Nat->Nat->Int
 | 0,_=>0
 | m+1,k=>if lT (l.getD k d0)≠0 then lT (l.getD k d0) else if 0<=fD (l.take k) (l.getD k d0).1 (l.getD k d0).2.2.1 then 7 else wP l m (k+1)
def gY(l:List Dl):Int:=if 20<l.length then 2 else wP l l.length 0
theorem jq{α:Type}{p:α->Bool}{x:α}{r:List α}{k:Nat}:cp p (x::r) k=bif p x then(k:Int) else cp p r (k+1):=rfl
theorem y9{α:Type}{p:α->Bool}:∀ (a b:List α) (k:Nat),cp p (a++b) k=if 0<=cp p a k then cp p a k else cp p b (k+a.length)
 | [],b,k=>by
  have:cp p ([]:List α) k=-1:=rfl;rw [this,if_neg ae];rfl
 | x::a,b,k=>by
  rw [aiO,jq,jq]
  cases hp:p x with
  | true=>rw [cond_true,cond_true,if_pos ae]
  | false =>
   rw [cond_false,cond_false,y9 a b (k+1),ahI,show k+1+a.length=k+(a.length+1) by omega]
theorem wQ{α:Type}{p:α->Bool}:∀ {l:List α} {k:Nat},0<=cp p l k->(k:Int)<=cp p l k/\cp p l k<k+l.length
 | [],k,h=>by have:cp p ([]:List α) k=-1:=rfl;omega
 | x::a,k,h=>by
  rw [jq] at h ⊢
  cases hp:p x with
  | true=>rw [cond_true,ahI];omega
  | false =>
   rw [hp,cond_false] at h;rw [cond_false,ahI];have:=wQ h;omega
theorem Mj{l:List Dl}{k:Nat}{s:bd}{n:Int}:0<=fD (l.take k) s n↔(0<=fD l s n/\fD l s n<k):=by
 have e:=y9 (p:=tD s n) (l.take k) (l.drop k) 0;rw [List.take_append_drop] at e;have g1:=@wQ _ (tD s n) (l.take k) 0;have g2:=@wQ _ (tD s n) (l.drop k) (0+(l.take k).length);unfold fD;rw [e];rw [ahF] at *;constructor
 ·intro h;rw [if_pos h];have:=g1 h;omega
 ·rintro⟨h1,h2⟩;by_cases c:0<=cp (tD s n) (l.take k) 0
  ·exact c
  ·rw [if_neg c] at h1 h2;have:=g2 h1;exfalso;by_cases hk:k<=l.length
   ·rw [Nat.min_eq_left hk] at this;omega
   ·rw [List.drop_eq_nil_of_le ae] at h1;have:cp (tD s n) ([]:List Dl) (0+min k l.length)=-1:=rfl;omega
theorem oQ{α:Type}{p:α->Bool}:∀ {l:List α} {k:Nat} {x:α},x∈l->p x=true->0<=cp p l k
 | y::a,k,x,hx,hp=>by
  rw [jq]
  cases hy:p y with
  | true=>rw [cond_true];omega
  | false =>
   rw [cond_false];rcases ah1.1 hx with rfl|hx
   ·rw [hp] at hy;cases hy
   ·exact oQ hx hp
theorem Mk(d:Dl):tD d.1 d.2.2.1 d=true:=by unfold tD;simp
theorem rV{l:List Dl}{k:Nat}(h:k<l.length):wP l (l.length-k) k=if lT l[k]≠0 then lT l[k] else if 0<=fD (l.take k) l[k].1 l[k].2.2.1 then 7 else wP l (l.length-(k+1)) (k+1):=by
 rw [show l.length-k=(l.length-(k+1))+1 by omega];have:l.getD k d0=l[k]:=by rw [ahK,ahn h];rfl
 rw [wP,this]
structure qH(l:List Dl):Prop where
 len:l.length<=9223372036854775807
 s1:∀ d∈l,d.1.length<=9223372036854775807
 s2:∀ d∈l,d.2.1.length<=9223372036854775807
theorem iC(l:List Dl)(h:qH l):FnSpec Sy.P 96 [.sl false 6 (l.map bL)] [.sl false 6 (l.map bL)] (.int (gY l)):=by
 have hl:=h.len;refine bQ func96 ntmps96 fun v0=>?_;by_cases h6:20<l.length
 ·rw [show gY l=2 from if_pos h6];repeat' first|refine aG ?_|(refine aK ?_ ?_<;>intro _<;>try exact aE)|fail
  all_goals exact bw
 rw [show gY l=wP l l.length 0 from if_neg h6];repeat' first|refine aG ?_|(refine aK ?_ ?_<;>intro _<;>try exact aE)|fail
 all_goals try exact aE
 refine CW.loop (fun k:Nat=>[(0,.av (.sl false 6 (l.map bL))),(9,.av (.sl false 6 (l.map bL))),(10,.av (.int (l.length))),(11,.av (.int (k)))]) (fun k=>k<=l.length/\wP l l.length 0=wP l (l.length-k) k) (fun k=>l.length-k) (0) ?_ (ck) ?_
 ·exact⟨ahQ _,rfl⟩
 intro k ⟨hk,ha⟩;by_cases gW:k<l.length
 ·have hx:l[k]?=some l[k]:=ahn gW;have hR:=mG l[k] (h.s1 _ (ahB gW)) (h.s2 _ (ahB gW));have hF:=mH (l.take k) l[k].1 l[k].2.2.1 (by rw [ahF];omega);rw [rV gW] at ha;generalize l[k]=d at *;by_cases c1:lT d≠0
  ·rw [if_pos c1] at ha;rw [ha];generalize lT d=e at *;repeat' first|refine aG ?_|refine aF (hR) ?_|refine aF (hF) ?_|(refine aK ?_ ?_<;>intro _<;>try exact aE)|fail
   all_goals exact bw
  ·rw [if_neg c1] at ha;rw [Classical.not_not.1 c1] at hR;by_cases c2:0<=fD (l.take k) d.1 d.2.2.1
   ·rw [if_pos c2] at ha;rw [ha];repeat' first|refine aG ?_|refine aF (hR) ?_|refine aF (hF) ?_|(refine aK ?_ ?_<;>intro _<;>try exact aE)|fail
    all_goals exact bw
   ·rw [if_neg c2] at ha;repeat' first|refine aG ?_|refine aF (hR) ?_|refine aF (hF) ?_|(refine aK ?_ ?_<;>intro _<;>try exact aE)|fail
    all_goals try exact aE
    refine⟨k+1,?_,fM,ck⟩;exact⟨ae,ha⟩
 ·obtain rfl:l.length=k:=ae;rw [Nat.sub_self] at ha;rw [ha];repeat' first|refine aG ?_|(refine aK ?_ ?_<;>intro _<;>try exact aE)|fail
  exact .mk rfl rfl rfl
theorem iO(l:List Dl)(h:qH l):FnSpec Sy.P 54 [.sl false 6 (l.map bL)] [.sl false 6 (l.map bL)] (.int (gY l)):=by
 have hl:=h.len;refine bQ func54 ntmps54 fun v0=>?_;by_cases h6:20<l.length
 ·rw [show gY l=2 from if_pos h6];repeat' first|refine aG ?_|(refine aK ?_ ?_<;>intro _<;>try exact aE)|fail
  all_goals exact bw
 rw [show gY l=wP l l.length 0 from if_neg h6];repeat' first|refine aG ?_|(refine aK ?_ ?_<;>intro _<;>try exact aE)|fail
 all_goals try exact aE
 refine CW.loop (fun k:Nat=>[(0,.av (.sl false 6 (l.map bL))),(9,.av (.sl false 6 (l.map bL))),(10,.av (.int (l.length))),(11,.av (.int (k)))]) (fun k=>k<=l.length/\wP l l.length 0=wP l (l.length-k) k) (fun k=>l.length-k) (0) ?_ (ck) ?_
 ·exact⟨ahQ _,rfl⟩
 intro k ⟨hk,ha⟩;by_cases gW:k<l.length
 ·have hx:l[k]?=some l[k]:=ahn gW;have hR:=jO l[k] (h.s1 _ (ahB gW)) (h.s2 _ (ahB gW));have hF:=jR l l[k].1 l[k].2.2.1 hl;rw [rV gW] at ha;have hft:=Mj (l:=l) (k:=k) (s:=l[k].1) (n:=l[k].2.2.1);have Ih:0<=fD l l[k].1 l[k].2.2.1:=oQ (ahB gW) (Mk _);generalize l[k]=d at *;by_cases c1:lT d≠0
  ·rw [if_pos c1] at ha;rw [ha];generalize lT d=e at *;repeat' first|refine aG ?_|refine aF (hR) ?_|refine aF (hF) ?_|(refine aK ?_ ?_<;>intro _<;>try exact aE)|fail
   all_goals exact bw
  ·rw [if_neg c1] at ha;rw [Classical.not_not.1 c1] at hR;by_cases c2:0<=fD (l.take k) d.1 d.2.2.1
   ·rw [if_pos c2] at ha;have:=hft.1 c2;rw [ha];repeat' first|refine aG ?_|refine aF (hR) ?_|refine aF (hF) ?_|(refine aK ?_ ?_<;>intro _<;>try exact aE)|fail
    all_goals exact bw
   ·rw [if_neg c2] at ha;have:¬ fD l d.1 d.2.2.1<k:=fun h=>c2 (hft.2 ⟨Ih,h⟩);repeat' first|refine aG ?_|refine aF (hR) ?_|refine aF (hF) ?_|(refine aK ?_ ?_<;>intro _<;>try exact aE)|fail
    all_goals try exact aE
    refine⟨k+1,?_,fM,ck⟩;exact⟨ae,ha⟩
 ·obtain rfl:l.length=k:=ae;rw [Nat.sub_self] at ha;rw [ha];repeat' first|refine aG ?_|(refine aK ?_ ?_<;>intro _<;>try exact aE)|fail
  exact .mk rfl rfl rfl
end Go.Proofs.YtmbbagbhmjaedaaGreatDoor
