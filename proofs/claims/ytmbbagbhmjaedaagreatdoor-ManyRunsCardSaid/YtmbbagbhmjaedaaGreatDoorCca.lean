/- Part of the proof. -/
import Derived.Lib.AppendZerosOnto
import Derived.Test.YtmbbagbhmjaedaaGreatDoorCbf
import Derived.Shelf.Spec.SlicesInsert
set_option linter.all false
set_option maxRecDepth 100000
set_option maxHeartbeats 4000000
namespace FM
open Go Go.RowKit
variable {L:Nat->aO}{w:World}{ys:List AV}{π:Option (List Nat)}
theorem run_copyK{P:Program}(w:World)(dT sT ty elem:TypeId)(b o QT YU:Nat)(a:Addr)(QU YV c:Nat)(cs:List Value)
  (hu:P.underlying dT=some (.slice elem)) (hs:(P.info? elem).map (·.size)=some c) (hn:cs.length=Nat.min QU QT*c)
  (QV:∀ (j:Nat) v,cs[j]?=some v->w.cell? (a.add j)=some v) (hc:∀ j,j<cs.length->(w.cell? ⟨b,o+j,none⟩).isSome=true) (hf:∀ j,j<cs.length->w.frozen? ⟨b,o+j,none⟩=false) (h1:∀ v∈cs,v.oneCell'=true) :
  (Builtin.copy_ #[dT,sT] ty #[.slice (some ⟨b,o,none⟩) QT YU,.slice (some a) QU YV]).run P w=.ok (goInt (Nat.min QU QT:Nat)) (w.setCells b o cs):=by
 have hl:=run_loadCells_list (P:=P) w a cs QV;have cH:=run_storeCells_cells (P:=P) b o cs 0 w (by simpa using hc) (by simpa using hf) h1
 cases hq:P.info? elem with
 | none=>simp [hq] at hs
 | some i =>
  have hi:i.size=c:=by simpa [hq] using hs
  simp [Builtin.copy_,run_underlying hu,Builtin.lenOf,Builtin.firstCells,Go.sizeOf,typeInfo,hq,hi,<-hn,hl,cH]
theorem cx(b:Nat)(e:TypeId):∀ (vs:List Value) (o:Nat) (w:World) (arr:Array Value),w.heap[b]?=some (.cells arr e (0,0))->o+vs.length<=arr.size ->
  ∃ A,(w.setCells b o vs).heap[b]?=some (.cells A e (0,0))/\A.size=arr.size/\∀ j,A[j]?=if o<=j/\j<o+vs.length then vs[j-o]? else arr[j]?
 | [],o,w,arr,h,_=>⟨arr,h,rfl,fun j=>by rw [if_neg (by simp only [aim];omega)]⟩
 | v::r,o,w,arr,h,hl=>by
  rw [ahI] at hl;have h1:(w.setCell ⟨b,o,none⟩ v).heap[b]?=some (.cells (arr.setIfInBounds o v) e (0,0)):=by simp [World.setCell,aiC,h]
  obtain⟨A,a1,a2,a3⟩:=cx b e r (o+1) _ _ h1 (by simp;omega);refine⟨A,a1,by simpa using a2,fun j=>?_⟩;rw [a3,ahI];by_cases h2:o+1<=j/\j<o+1+r.length
  ·rw [if_pos h2,if_pos ae,show j-o=(j-(o+1))+1 by omega,ahP]
  ·rw [if_neg h2,aif];by_cases h3:o=j
   ·subst h3;rw [if_pos rfl,if_pos ae,if_pos ae,Nat.sub_self];rfl
   ·rw [if_neg h3,if_neg ae]
theorem cB(b:Nat):∀ (vs:List Value) (o:Nat) (w:World),(∀ k,k≠b->(w.setCells b o vs).heap[k]?=w.heap[k]?)/\(w.setCells b o vs).heap.size=w.heap.size/\(w.setCells b o vs).os=w.os/\(w.setCells b o vs).tape=w.tape/\(w.setCells b o vs).output=w.output
 | [],o,w=>⟨fun _ _=>rfl,rfl,rfl,rfl,rfl⟩
 | v::r,o,w=>by
  obtain⟨h1,h2,h3,h4,h5⟩:=cB b r (o+1) (w.setCell ⟨b,o,none⟩ v);refine⟨fun k hk=>(h1 k hk).trans ?_,h2.trans ?_,h3.trans rfl,h4.trans rfl,h5.trans rfl⟩
  ·simp [World.setCell,aiC,Ne.symm hk]
  ·simp [World.setCell]
def sn(w:World)(b n c:Nat)(news:List Value)(v:Value)(w':World):Prop :=
 ∃ B C A et,v=.slice (some ⟨B,0,none⟩) n C/\(B=b∨w.heap.size<=B)/\n<=C/\A.size=C*c/\w'.heap[B]?=some (.cells A et (0,0))/\(∀ (j:Nat) u,news[j]?=some u->A[j]?=some u)/\w.heap.size<=w'.heap.size/\(∀ k,k≠b->k<w.heap.size->w'.heap[k]?=w.heap[k]?)/\w'.os=w.os/\w'.tape=w.tape/\w'.output=w.output
theorem zu{b N n c:Nat}{vs:List Value}{news:List Value}{v:Value}{w':World}{xs9':List AV}(b7:FM.NO N L w)(hL:L b=.my [0])(hN:0<N)(Fb:vs.length=N)(h:sn w b n c news v w')(X6:ys.length=n)(hc:∀ x∈ys,x.cells.length=c)
  (ib:∀ (o:Nat) y,(flat ys)[o]?=some y->∃ u,news[o]?=some u/\∀ (L:Nat->aO) (w:World) π,Rep L w π y u) (has:∀ (i:Nat) x,xs9'[i]?=some x->x=.dead) :
  ∃ L',FM.tW N xs9' (.sl true c ys) L w vs v w' L':=by
 obtain⟨B,C,A,et,rfl,hB,hnC,hA,hH,BD,hs,hk,ho,ht,hu⟩:=h;have UI:∀ b',L b'≠.my [N]:=fun b' h=>by obtain⟨i,q,e1,e2⟩:=b7.head b' _ h;cases e1;omega
 have QW:B<w'.heap.size:=(ahx.1 hH).1;obtain⟨L',fS⟩:∃ L':Nat->aO,L'=fun b'=>if b'=B then .my [N] else L b':=⟨_,rfl⟩
 have l1:L' B=.my [N]:=by rw [fS];simp
 have l2:∀ b',b'≠B->L' b'=L b':=fun b' h=>by rw [fS];simp [h]
 clear fS;subst X6;refine⟨L',⟨ho,ht,hu,hs,fun b' h1 h2=>hk b' (fun e=>by subst e;exact h2 _ hL) h1⟩,⟨fun b' p hp=>?_,fun b1 b2 p h1 h2=>?_,fun b' p hp e=>?_,fun b' p aA hp=>?_,fun b' aA=>?_,fun b' h1 h2=>?_⟩,fun b' p hp=>?_,fun i x u' hx hu=>?_,?_⟩
 ·by_cases e:b'=B
  ·subst e;exact QW
  ·rw [l2 b' e] at hp;have:=b7.lt b' p hp;omega
 ·by_cases e1:b1=B
  ·subst e1;rw [l1] at h1;cases h1;by_cases e2:b2=b1
   ·exact e2.symm
   ·rw [l2 b2 e2] at h2;exact absurd h2 (UI b2)
  ·rw [l2 b1 e1] at h1;by_cases e2:b2=B
   ·subst e2;rw [l1] at h2;cases h2;exact absurd h1 (UI b1)
   ·rw [l2 b2 e2] at h2;exact b7.inj b1 b2 p h1 h2
 ·subst e;by_cases e:b'=B
  ·subst e;rw [l1] at hp;cases hp
  ·rw [l2 b' e] at hp;obtain⟨i,q,h,_⟩:=b7.head b' [] hp;cases h
 ·by_cases e:b'=B
  ·subst e;rcases hB with rfl|hB
   ·exact⟨_,hL⟩
   ·omega
  ·rw [l2 b' e] at hp;exact⟨p,hp⟩
 ·by_cases e:b'=B
  ·subst e;rcases hB with rfl|hB
   ·rw [l1,hL];constructor<;>intro h<;>cases h
   ·omega
  ·rw [l2 b' e]
 ·by_cases e:b'=B
  ·subst e;rw [l1] at h2;cases h2
  ·rw [l2 b' e] at h2;exact b7.new b' h1 h2
 ·by_cases e:b'=B
  ·subst e;rw [l1] at hp;cases hp;exact⟨N,[],rfl,ahr _⟩
  ·rw [l2 b' e] at hp;obtain⟨i,q,h,h2⟩:=b7.head b' p hp;exact⟨i,q,h,ae⟩
 ·rw [has i x hx];exact .dead
 ·refine .slO (fun o=>(A[o]?).getD undef) l1 hH hnC hA hc (fun o ho=>?_) fun o y hy=>?_
  ·have:o<A.size:=by rw [hA];exact ahv ho (ahT _ hnC)
   rw [ahO this];rfl
  ·obtain⟨u,h1,h2⟩:=ib o y hy;rw [BD o u h1];exact h2 _ _ _
def kW:AV->Bool
 | .int _=>true
 | .str _=>true
 | _=>false
theorem toV_one{y:AV}{v:Value}(h:kW y=true)(hr:Rep L w π y v):v=y.toV:=by
 cases hr<;>first|rfl|(simp [kW] at h)
theorem toV_any{y:AV}(h:kW y=true):Rep L w π y y.toV:=by
 cases y<;>first|exact .int|exact .str|(simp [kW] at h)
theorem toV_cell{y:AV}(h:kW y=true):y.toV.oneCell'=true:=by
 cases y<;>first|rfl|(simp [kW] at h)
theorem xb{p c:Nat}{xs:List AV}{v:Value}(bE:Rep L w (some [p]) (.sl true c xs) v)(cr:xs≠[])(hs:∀ y∈flat xs,kW y=true):
  ∃ b cap arr e,v=.slice (some ⟨b,0,none⟩) xs.length cap/\L b=.my [p]/\w.heap[b]?=some (.cells arr e (0,0))/\xs.length<=cap/\arr.size=cap*c/\(∀ x∈xs,x.cells.length=c)/\∀ (j:Nat) u,((flat xs).map AV.toV)[j]?=some u->arr[j]?=some u:=by
 cases bE with
 | slE h=>exact absurd rfl cr
 | @slO p c xs b cap arr e u hL hb bK bc hc aH hr =>
  refine⟨b,cap,arr,e,rfl,hL,hb,bK,bc,hc,fun j x hj=>?_⟩;rw [ahE,ahs] at hj;obtain⟨y,hy,rfl⟩:=hj;have aA:j<xs.length*c:=by rw [<- bh hc];exact(aho.1 hy).1
  rw [aH j aA,toV_one (hs y (ahH hy)) (hr j y hy)]
theorem u9(hs:∀ y∈flat ys,kW y=true):∀ (o:Nat) y,(flat ys)[o]?=some y->∃ u,((flat ys).map AV.toV)[o]?=some u/\∀ (L:Nat->aO) (w:World) π,Rep L w π y u:=fun o y h =>
 ⟨y.toV,by rw [ahE,h];rfl,fun L w π=>toV_any (hs y (ahH h))⟩
theorem ic(hs:∀ y∈flat ys,kW y=true):∀ u∈(flat ys).map AV.toV,u.oneCell'=true:=fun u hu=>by
 obtain⟨y,hy,rfl⟩:=ahY.1 hu;exact toV_cell (hs y hy)
theorem oU{c:Nat}:∀ {xs:List AV} (_:∀ x∈xs,x.cells.length=c) (k:Nat),flat (xs.take k)=(flat xs).take (k*c)
 | [],_,k=>by simp [flat]
 | x::xs,h,0=>by simp [flat]
 | x::xs,h,k+1=>by
  have hx:=h x (ahU ..);have ih:=oU (xs:=xs) (fun y hy=>h y (ahW _ hy)) k;simp only [flat,aiu,aiv] at ih ⊢;rw [ih,List.take_append,hx,aiM (l:=x.cells) (by rw [hx,ah9];omega),show(k+1)*c-c=k*c by rw [ah9];omega]
theorem oV{c:Nat}:∀ {xs:List AV} (_:∀ x∈xs,x.cells.length=c) (k:Nat),flat (xs.drop k)=(flat xs).drop (k*c)
 | [],_,k=>by simp [flat]
 | x::xs,h,0=>by simp [flat]
 | x::xs,h,k+1=>by
  have hx:=h x (ahU ..);have ih:=oV (xs:=xs) (fun y hy=>h y (ahW _ hy)) k;simp only [flat,List.drop_succ_cons,aiv] at ih ⊢;rw [ih,List.drop_append,hx,@List.drop_eq_nil_of_le _ x.cells _ (by rw [hx,ah9];omega),List.nil_append,show(k+1)*c-c=k*c by rw [ah9];omega]
end FM
namespace Go.Proofs.YtmbbagbhmjaedaaGreatDoor
open Go FM Go.Proofs Go.RowKit Go.Lib Go.Shelf Tryz
theorem YW(b vb cap vc i n:Nat)(cs vs:List Value)(w:World)(arr FW:Array Value)(eb ev:TypeId)(hn:n<=1000)(hi:i<n)(fY:n+1<=cap)(S5:vb≠b)
  (fW:cs.length=n*3) (Bh:vs.length=3) (hb:w.heap[b]?=some (.cells arr eb (0,0))) (hv:w.heap[vb]?=some (.cells FW ev (0,0))) (ha:arr.size=cap*3)
  (bt:∀ (j:Nat) v,cs[j]?=some v->arr[j]?=some v) (Fb:∀ (j:Nat) v,vs[j]?=some v->FW[j]?=some v) (UJ:∀ v∈cs,v.oneCell'=true) (YX:∀ v∈vs,v.oneCell'=true) :
  Calls Tryz.prog 49 #[.slice (some ⟨b,0,none⟩) n cap,.int .i64 i,.slice (some ⟨vb,0,none⟩) 1 vc] w fun e w' =>
   e=.returned (.slice (some ⟨b,0,none⟩) (n+1) cap)/\w'=(w.drew.setCells b ((i+1)*3) (cs.drop (i*3))).setCells b (i*3) vs:=by
 obtain⟨f0,zv,lC,j4,uO,yz,wa,DC,Bg⟩:=(Sy.ok 82 ⟨.struct [(0,9),(1,3),(2,3)],3,32,[.str [],.int 0,.int 0]⟩ rfl).info;have S6:¬ ((i:Int)=(n:Int)):=ae;have bc:(Tryz.prog.info? 82).map (·.size)=some 3:=by rw [show Tryz.prog.info? 82=some f0 from lC];simp [j4]
 have YY:w.shape? b=some (eb,arr.size):=by simp only [World.shape?,hb]
 have YZ:w.shape? vb=some (ev,FW.size):=by simp only [World.shape?,hv]
 have hfv:∀ j,w.frozen? ⟨vb,j,none⟩=false:=fun j=>by simp only [World.frozen?,hv];simp
 have QX:∀ j,w.frozen? ⟨b,j,none⟩=false:=fun j=>by simp only [World.frozen?,hb];simp
 have Ms:∀ j,j<(n+1)*3->(w.cell? ⟨b,j,none⟩).isSome=true:=fun j hj=>by
  rw [cell_of_row w b j arr eb (0,0) hb,ahO ae];rfl
 have Hi:∀ lb cb,(callFunc 81 #[.slice (some ⟨vb,0,none⟩) 1 vc,.slice (some ⟨b,(i+1)*3,none⟩) lb cb]).run Tryz.prog w=.ok (.value (.bool false)) w:=fun lb cb=>by
  rw [run_callFunc_extern func81 ah ah ah (e:=Extern.SlicesOverlaps.overlaps #[28,28] #[4]) ah,
   Lib.run_overlaps_apart w 28 4 82 underlying28 3 sizeOf82 ⟨vb,0,none⟩ ⟨b,(i+1)*3,none⟩ 1 vc lb cb S5 ev eb FW.size arr.size YZ YY ae (hfv _) (hfv _)]
  rfl
 have qb:(cs.drop (i*3)).length=(n-i)*3:=by rw [ahV,fW];omega
 have UK:∀ ty dc sc,(Builtin.copy_ #[28,28] ty #[.slice (some ⟨b,(i+1)*3,none⟩) (n-i) dc,.slice (some ⟨b,i*3,none⟩) (n+1-i) sc]).run Tryz.prog w.drew=.ok (goInt (Nat.min (n+1-i) (n-i):Nat)) (w.drew.setCells b ((i+1)*3) (cs.drop (i*3))):=fun ty dc sc =>
  run_copyK w.drew _ _ ty 82 b ((i+1)*3) (n-i) dc ⟨b,i*3,none⟩ (n+1-i) sc 3 (cs.drop (i*3)) underlying28 bc (by rw [qb];simp only [Nat.min_def];split<;>omega)
   (fun j v hj=>by
    rw [Addr.add_lit]
    show w.cell? _=_
    rw [cell_of_row w b _ arr eb (0,0) hb]
    exact bt _ v (by rwa [ah5] at hj))
   (fun j hj=>Ms _ ae) (fun j hj=>QX _) (fun v hv=>UJ v (List.mem_of_mem_drop hv))
 obtain⟨W1,Bi⟩:∃ W1,W1=w.drew.setCells b ((i+1)*3) (cs.drop (i*3)):=⟨_,rfl⟩;obtain⟨A1,tP,Y0,_⟩:=cx b eb (cs.drop (i*3)) ((i+1)*3) w.drew arr hb (by rw [qb];omega);obtain⟨hk1,_⟩:=cB b (cs.drop (i*3)) ((i+1)*3) w.drew;rw [<- Bi] at tP hk1 UK ⊢;have hvW:W1.heap[vb]?=some (.cells FW ev (0,0)):=(hk1 vb S5).trans hv;have Y1:∀ (W:World),(∀ x,W.cell? x=W1.cell? x)->(∀ x,W.frozen? x=W1.frozen? x)->∀ ty dc,(Builtin.copy_ #[28,28] ty #[.slice (some ⟨b,i*3,none⟩) (n+1-i) dc,.slice (some ⟨vb,0,none⟩) 1 vc]).run Tryz.prog W=.ok (goInt (Nat.min 1 (n+1-i):Nat)) (W.setCells b (i*3) vs):=fun W Of UL ty dc =>
  run_copyK W _ _ ty 82 b (i*3) (n+1-i) dc ⟨vb,0,none⟩ 1 vc 3 vs underlying28 bc (by rw [Bh];simp only [Nat.min_def];split<;>omega)
   (fun j v hj=>by
    rw [Addr.add_lit,Of,cell_of_row W1 vb _ FW ev (0,0) hvW,ahR]
    exact Fb j v hj)
   (fun j hj=>by rw [Of,cell_of_row W1 b _ A1 eb (0,0) tP,ahO ae];rfl) (fun j hj=>by rw [UL];simp only [World.frozen?,tP];simp) YX
 have lU:IntKind.i64.wrap ((i:Int)+1)=(i:Int)+1:=by rw [IntKind.wrap_i64];omega
 have Xg:(0:Int)<=(i:Int)+1:=ae;have px:i<=n:=ae;have Dr:((i:Int)+1).toNat=i+1:=ae;have D9:¬ (cap=i+1):=ae;have Y2:(i:Int)<=(n:Int)+1:=ae;have hb4:¬ (cap=i):=ae
 go_enter func49,ntmps49
 go_wp2_with (simp only [Hi])
 go_region_law_o (refine step_copy_runI rfl _ _ 28 28 rfl _ _ (by simp [Act.eval,Act.put]) (by simp [Act.eval,Act.put]) (UK _ _ _) ?_)
 go_wp2_with (at_builtin;refine wpList_copy_runI _ rfl _ _ 28 28 rfl _ _ rfl rfl (Y1 _ (fun _=>rfl) (fun _=>rfl) _ _) ?_)
 go_ret
 exact⟨rfl,by rw [Bi]⟩
theorem Y3(b vb cap vc i n:Nat)(cs vs:List Value)(w:World)(arr FW:Array Value)(eb ev:TypeId)(hn:n<=1000)(hi:i<n)(S8:n<=cap)(fY:cap<n+1)(S5:vb≠b)
  (fW:cs.length=n*3) (Bh:vs.length=3) (hb:w.heap[b]?=some (.cells arr eb (0,0))) (hv:w.heap[vb]?=some (.cells FW ev (0,0))) (ha:arr.size=cap*3)
  (bt:∀ (j:Nat) v,cs[j]?=some v->arr[j]?=some v) (Fb:∀ (j:Nat) v,vs[j]?=some v->FW[j]?=some v) (UJ:∀ v∈cs,v.oneCell'=true) (YX:∀ v∈vs,v.oneCell'=true) :
  Calls Tryz.prog 49 #[.slice (some ⟨b,0,none⟩) n cap,.int .i64 i,.slice (some ⟨vb,0,none⟩) 1 vc] w fun e w' =>
   ∃ lJ:Array Value,n+1<=grownCap w (n+1) cap 82/\lJ.size=grownCap w (n+1) cap 82*3/\(∀ (j:Nat) v,j<i*3->cs[j]?=some v->lJ[j]?=some v)/\e=.returned (.slice (some ⟨w.heap.size,0,none⟩) (n+1) (grownCap w (n+1) cap 82)) /\
   w'=(((w.alloc (.cells lJ 82)).drew.setCells w.heap.size (i*3) vs).drew).setCells w.heap.size ((i+1)*3) (cs.drop (i*3)):=by
 obtain⟨f0,zv,lC,j4,uO,yz,wa,DC,Bg⟩:=(Sy.ok 82 ⟨.struct [(0,9),(1,3),(2,3)],3,32,[.str [],.int 0,.int 0]⟩ rfl).info;have It:Tryz.prog.info? 82=some f0:=lC;have HC:f0.size=3:=j4;have UM:f0.bytes=32:=uO;have S6:¬ ((i:Int)=(n:Int)):=ae;have hz3:(cap:Int)<(n:Int)+1:=ae;have bc:(Tryz.prog.info? 82).map (·.size)=some 3:=by rw [It];simp [j4]
 have Ln:zv.cells.size=3:=Bg;have hbw:b<w.heap.size:=(ahx.1 hb).1;have hvw:vb<w.heap.size:=(ahx.1 hv).1;have NP:(n:Int)+1-(i:Int)=((n+1-i:Nat):Int):=ae;have Ps:i+(n+1-i)=n+1:=ae;have hold:(Builtin.firstCells f0.size i (.slice (some ⟨b,0,none⟩) i cap)).run Tryz.prog w.drew=.ok (cs.take (i*3)).toArray w.drew:=by
  rw [j4]
  exact run_firstCells_some w.drew 3 i ⟨b,0,none⟩ i cap (cs.take (i*3)) (by rw [ahF,fW];omega) (fun j v hj=>by
   rw [Addr.add_lit,ahR]
   rw [aiq] at hj
   split at hj
   ·show w.cell? _=_
    rw [cell_of_row w b _ arr eb (0,0) hb]
    exact bt j v hj
   ·cases hj)
 have Xh:∀ ty,(Builtin.append_ #[28,3] ty #[.slice (some ⟨b,0,none⟩) i cap,.int .i64 ((n:Int)+1-(i:Int))]).run Tryz.prog w =
   .ok (.slice (some ⟨w.heap.size,0,none⟩) (n+1) (grownCap w (n+1) cap 82)) (w.drew.alloc (.cells ((cs.take (i*3)).toArray++Builtin.zeroCells zv.cells (n+1-i)++Builtin.zeroCells zv.cells (grownCap w (n+1) cap 82-(n+1))) 82)):=fun ty=>by
  have h:=Lib.run_append_grow_zeros w 28 3 ty 82 f0 _ .i64 .i64 underlying28 underlying3 It yz (some ⟨b,0,none⟩) i cap (cs.take (i*3)) hold (n+1-i) ae (by rw [HC];omega) ae ae (by rw [UM];omega) (by rw [UM,Ps];exact growslice_fits fY ae);rw [Ps] at h;rw [NP];exact h
 obtain⟨G,hG⟩:∃ G,G=grownCap w (n+1) cap 82:=⟨_,rfl⟩;have hGn:n+1<=G:=by rw [hG];exact grownCap_ge w _ _ _
 obtain⟨lJ,Mt⟩:∃ lJ:Array Value,lJ=(cs.take (i*3)).toArray++Builtin.zeroCells zv.cells (n+1-i)++Builtin.zeroCells zv.cells (G-(n+1)):=⟨_,rfl⟩;rw [<- hG] at Xh ⊢;rw [<- Mt] at Xh;have hRs:lJ.size=G*3:=by
  rw [Mt];simp only [Array.size_append,List.size_toArray,size_zeroCells,Ln,ahF,fW];omega
 have hRg:∀ (j:Nat) v,j<i*3->cs[j]?=some v->lJ[j]?=some v:=fun j v hj hv=>by
  have hl:j<(cs.take (i*3)).toArray.size:=by simp only [List.size_toArray,ahF,fW];omega
  rw [Mt,Array.append_assoc,Array.getElem?_append_left hl];simp only [List.getElem?_toArray,aiq,if_pos hj];exact hv
 obtain⟨W1,Bi⟩:∃ W1,W1=w.drew.alloc (.cells lJ 82):=⟨_,rfl⟩;rw [<- Bi] at Xh;have hN:∀ j,j<(n+1)*3->(W1.cell? ⟨w.heap.size,j,none⟩).isSome=true:=fun j hj=>by
  rw [Bi,World.cell?_alloc_at (w:=w.drew) lJ _ w.heap.size j rfl,ahO ae];rfl
 have hNf:∀ j,W1.frozen? ⟨w.heap.size,j,none⟩=false:=fun j=>by rw [Bi];exact World.frozen?_alloc_at (w:=w.drew) lJ _ w.heap.size j rfl
 have hOb:∀ j v,w.cell? ⟨b,j,none⟩=some v->W1.cell? ⟨b,j,none⟩=some v:=fun j v h=>by rw [Bi,World.cell?_alloc_past (w:=w.drew) _ b j hbw];exact h
 have hOv:∀ j v,w.cell? ⟨vb,j,none⟩=some v->W1.cell? ⟨vb,j,none⟩=some v:=fun j v h=>by rw [Bi,World.cell?_alloc_past (w:=w.drew) _ vb j hvw];exact h
 have Y4:∀ (W:World),(∀ x,W.cell? x=W1.cell? x)->(∀ x,W.frozen? x=W1.frozen? x)->∀ ty dc,(Builtin.copy_ #[28,28] ty #[.slice (some ⟨w.heap.size,i*3,none⟩) (n+1-i) dc,.slice (some ⟨vb,0,none⟩) 1 vc]).run Tryz.prog W=.ok (goInt (Nat.min 1 (n+1-i):Nat)) (W.setCells w.heap.size (i*3) vs):=fun W Of UL ty dc =>
  run_copyK W _ _ ty 82 w.heap.size (i*3) (n+1-i) dc ⟨vb,0,none⟩ 1 vc 3 vs underlying28 bc (by rw [Bh];simp only [Nat.min_def];split<;>omega)
   (fun j v hj=>by
    rw [Addr.add_lit,Of,ahR]
    refine hOv _ v ?_
    rw [cell_of_row w vb _ FW ev (0,0) hv]
    exact Fb j v hj)
   (fun j hj=>by rw [Of];exact hN _ ae) (fun j hj=>by rw [UL];exact hNf _) YX
 have hGi:¬ (G=i):=ae;have aef:¬ (G=i+1):=ae;have NW:¬ (cap=i):=ae;have hbN:b≠w.heap.size:=ae;have qb:(cs.drop (i*3)).length=(n-i)*3:=by rw [ahV,fW];omega
 have UN:∀ (W:World),(∀ x,W.cell? x=(W1.setCells w.heap.size (i*3) vs).cell? x)->(∀ x,W.frozen? x=(W1.setCells w.heap.size (i*3) vs).frozen? x)->∀ ty dc sc,(Builtin.copy_ #[28,28] ty #[.slice (some ⟨w.heap.size,(i+1)*3,none⟩) (n-i) dc,.slice (some ⟨b,i*3,none⟩) (n-i) sc]).run Tryz.prog W=.ok (goInt (Nat.min (n-i) (n-i):Nat)) (W.setCells w.heap.size ((i+1)*3) (cs.drop (i*3))):=fun W Of UL ty dc sc =>
  run_copyK W _ _ ty 82 w.heap.size ((i+1)*3) (n-i) dc ⟨b,i*3,none⟩ (n-i) sc 3 (cs.drop (i*3)) underlying28 bc (by rw [qb];simp only [Nat.min_def];split<;>omega)
   (fun j v hj=>by
    rw [Addr.add_lit,Of,World.cell?_setCells_out _ _ _ _ _ (fun h _=>absurd h hbN)]
    refine hOb _ v ?_
    rw [cell_of_row w b _ arr eb (0,0) hb]
    exact bt _ v (by rwa [ah5] at hj))
   (fun j hj=>by rw [Of];exact isSome_setCells _ _ _ _ (fun t ht=>hN _ ae) _ (hN _ ae))
   (fun j hj=>by rw [UL,World.frozen?_setCells];exact hNf _) (fun v hv=>UJ v (List.mem_of_mem_drop hv))
 have hE1:∀ x,((w.alloc (.cells lJ 82)).drew).cell? x=W1.cell? x:=fun x=>by rw [Bi];rfl
 have hE2:∀ x,((w.alloc (.cells lJ 82)).drew).frozen? x=W1.frozen? x:=fun x=>by rw [Bi];rfl
 subst Bi;have aw:∀ x,(((w.alloc (.cells lJ 82)).drew.setCells w.heap.size (i*3) vs).drew).cell? x=((w.drew.alloc (.cells lJ 82)).setCells w.heap.size (i*3) vs).cell? x:=fun x=>rfl;have N9:∀ x,(((w.alloc (.cells lJ 82)).drew.setCells w.heap.size (i*3) vs).drew).frozen? x=((w.drew.alloc (.cells lJ 82)).setCells w.heap.size (i*3) vs).frozen? x:=fun x=>rfl;have lU:IntKind.i64.wrap ((i:Int)+1)=(i:Int)+1:=by rw [IntKind.wrap_i64];omega
 have Xg:(0:Int)<=(i:Int)+1:=ae;have px:i<=n:=ae;have Dr:((i:Int)+1).toNat=i+1:=ae;have Y2:(i:Int)<=(n:Int):=ae;have X:Aside (n+1<=G/\lJ.size=G*3/\(∀ (j:Nat) v,j<i*3->cs[j]?=some v->lJ[j]?=some v)):=⟨hGn,hRs,hRg⟩;clear NP Ps hold Mt hG hRs hRg
 go_enter func49,ntmps49
 go_wp2_with (first
  | (at_builtin;refine Lib.wpList_append_run _ rfl _ _ _ _ rfl _ _ rfl rfl _ _ (Xh _) ?_)
  | (at_builtin;refine wpList_copy_runI _ rfl _ _ 28 28 rfl _ _ rfl rfl (Y4 _ hE1 hE2 _ _) ?_)
  | (at_builtin;refine wpList_copy_runI _ rfl _ _ 28 28 rfl _ _ rfl rfl (UN _ (fun _=>rfl) (fun _=>rfl) _ _ _) ?_))
 go_region_law_o (refine step_copy_runI rfl _ _ 28 28 rfl _ _ (by simp [Act.eval,Act.put]) (by simp [Act.eval,Act.put]) (UN _ aw N9 3 (G-(i+1)) (cap-i)) ?_)
 go_wp2
 go_ret
 exact⟨lJ,X.out.1,X.out.2.1,X.out.2.2,rfl,rfl⟩
theorem Y5{w:World}{b cap i n:Nat}{cs vs:List Value}{arr:Array Value}{eb:TypeId}(hi:i<n)(fY:n+1<=cap)(fW:cs.length=n*3)(Bh:vs.length=3)(hb:w.heap[b]?=some (.cells arr eb (0,0)))(ha:arr.size=cap*3)
  (bt:∀ (j:Nat) v,cs[j]?=some v->arr[j]?=some v):sn w b (n+1) 3 (cs.take (i*3)++(vs++cs.drop (i*3))) (.slice (some ⟨b,0,none⟩) (n+1) cap) ((w.drew.setCells b ((i+1)*3) (cs.drop (i*3))).setCells b (i*3) vs):=by
 have qb:(cs.drop (i*3)).length=(n-i)*3:=by rw [ahV,fW];omega
 have yF:(cs.take (i*3)).length=i*3:=by rw [ahF,fW];omega
 obtain⟨A1,tP,s1,g1⟩:=cx b eb (cs.drop (i*3)) ((i+1)*3) w.drew arr hb (by rw [qb];omega);obtain⟨k1,z1,o1,t1,u1⟩:=cB b (cs.drop (i*3)) ((i+1)*3) w.drew;generalize w.drew.setCells b ((i+1)*3) (cs.drop (i*3))=W1 at *;obtain⟨A2,UO,s2,g2⟩:=cx b eb vs (i*3) W1 A1 tP (by rw [Bh];omega);obtain⟨k2,z2,o2,t2,u2⟩:=cB b vs (i*3) W1;refine⟨b,cap,A2,eb,rfl,.inl rfl,fY,by rw [s2,s1,ha],UO,fun j u hj=>?_,by rw [z2,z1];exact ahr _,fun k hk _=>(k2 k hk).trans (k1 k hk),o2.trans o1,t2.trans t1,u2.trans u1⟩;rw [g2,g1,Bh,qb];by_cases c1:j<i*3
 ·rw [ahG ae,aiq,if_pos c1] at hj;rw [if_neg ae,if_neg ae];exact bt j u hj
 ·rw [ahJ ae,yF] at hj;by_cases c2:j<i*3+3
  ·rw [ahG ae] at hj;rw [if_pos ae];exact hj
  ·rw [ahJ ae,Bh] at hj;have aA:=(aho.1 hj).1;rw [qb] at aA;rw [if_neg ae,if_pos ae,show j-(i+1)*3=j-i*3-3 by omega];exact hj
theorem Y6{w:World}{b G i n:Nat}{cs vs:List Value}{lJ:Array Value}{t:TypeId}(hi:i<n)(hG:n+1<=G)(fW:cs.length=n*3)(Bh:vs.length=3)(hR:lJ.size=G*3)
  (bt:∀ (j:Nat) v,j<i*3->cs[j]?=some v->lJ[j]?=some v):sn w b (n+1) 3 (cs.take (i*3)++(vs++cs.drop (i*3))) (.slice (some ⟨w.heap.size,0,none⟩) (n+1) G) ((((w.alloc (.cells lJ t)).drew.setCells w.heap.size (i*3) vs).drew).setCells w.heap.size ((i+1)*3) (cs.drop (i*3))):=by
 have qb:(cs.drop (i*3)).length=(n-i)*3:=by rw [ahV,fW];omega
 have yF:(cs.take (i*3)).length=i*3:=by rw [ahF,fW];omega
 have h0:((w.alloc (.cells lJ t)).drew).heap[w.heap.size]?=some (.cells lJ t (0,0)):=heap_alloc_new w _;have G8:∀ k,k<w.heap.size->((w.alloc (.cells lJ t)).drew).heap[k]?=w.heap[k]?:=fun k hk=>by
  show(w.heap.push _)[k]?=_;rw [Array.getElem?_push_lt hk,ahO hk]
 have hz0:((w.alloc (.cells lJ t)).drew).heap.size=w.heap.size+1:=Array.size_push ..;have ho0:((w.alloc (.cells lJ t)).drew).os=w.os:=rfl;have DK:((w.alloc (.cells lJ t)).drew).tape=w.tape:=rfl;have T8:((w.alloc (.cells lJ t)).drew).output=w.output:=rfl;generalize (w.alloc (.cells lJ t)).drew=W0 at *;obtain⟨A1,tP,s1,g1⟩:=cx w.heap.size t vs (i*3) W0 lJ h0 (by rw [Bh];omega);obtain⟨k1,z1,o1,t1,u1⟩:=cB w.heap.size vs (i*3) W0;generalize W0.setCells w.heap.size (i*3) vs=W1 at *;obtain⟨A2,UO,s2,g2⟩:=cx w.heap.size t (cs.drop (i*3)) ((i+1)*3) W1.drew A1 tP (by rw [qb];omega);obtain⟨k2,z2,o2,t2,u2⟩:=cB w.heap.size (cs.drop (i*3)) ((i+1)*3) W1.drew;refine⟨w.heap.size,G,A2,t,rfl,.inr (ahr _),hG,by rw [s2,s1,hR],UO,fun j u hj=>?_,by rw [z2,show W1.drew.heap.size=W1.heap.size from rfl,z1,hz0];omega,fun k _ hk=>((k2 k ae).trans (k1 k ae)).trans (G8 k hk),(o2.trans o1).trans ho0,(t2.trans t1).trans DK,(u2.trans u1).trans T8⟩;rw [g2,g1,Bh,qb];by_cases c1:j<i*3
 ·rw [ahG ae,aiq,if_pos c1] at hj;rw [if_neg ae,if_neg ae];exact bt j u c1 hj
 ·rw [ahJ ae,yF] at hj;by_cases c2:j<i*3+3
  ·rw [ahG ae] at hj;rw [if_neg ae,if_pos ae];exact hj
  ·rw [ahJ ae,Bh] at hj;have aA:=(aho.1 hj).1;rw [qb] at aA;rw [if_pos ae,show j-(i+1)*3=j-i*3-3 by omega];exact hj
theorem jT{l:List Ac}:∀ y∈flat (l.map bz),kW y=true:=fun y hy=>by
 unfold flat at hy;rw [List.mem_flatMap] at hy;obtain⟨x,hx,hy⟩:=hy;obtain⟨z,_,rfl⟩:=ahY.1 hx;simp only [AV.cells,ah1,List.mem_nil_iff,or_false] at hy;rcases hy with rfl|rfl|rfl<;>rfl
theorem Xj{l:List Ac}:∀ x∈l.map bz,x.cells.length=3:=fun x hx=>by obtain⟨z,_,rfl⟩:=ahY.1 hx;rfl
theorem Y7{m:Nat}{v:Nat->Value}{N:Nat}{σ:St}{l:List Ac}{x:Ac}{k:Nat}{t1 t2 t3 s d ty:Nat}{ops:Array Oper}{kk:List Oper}{K:St->Prop}{ts:Array Nat}{pos:String}{aft:Array Edge}{g:Option (Nat×Bool)}(hg:live ops g σ=some true)
  (h1:fN σ (.tmp t1)=some s) (h2:FM.get σ s=.av (.sl true 3 (l.map bz))) (hk:k<l.length) (hl:l.length<=1000) (h3:Nat.beq s d=false) (Ii:FM.get σ t2=.av (.int k)) (UP:FM.get σ t3=.av (.sl true 3 ([x].map bz))) (h4:Nat.beq s t3=false)
  (h:J false (Sy.fixed m v) N ops kk K (lS [(s,0)] [.dead,.dead,.dead] (σ.put d (.av (.sl true 3 ((l.take k++x::l.drop k).map bz)))))) :
  J false (Sy.fixed m v) N ops (⟨some d,.call ⟨.value (.func 49),#[.tmp t1,.tmp t2,.tmp t3],ts⟩,ty,pos,aft,g⟩::kk) K σ:=by
 refine J.BL (xs:=[.tmp t2,.tmp t3]) (op:=.tmp t1) (⟨_,func49,rfl,rfl⟩:jd Sy.P 49) rfl hg h1 h2 h3 (fun w0 L0 a w L hR b7 bE=>?_) (.sl fun y hy=>?_) ⟨.dead,rfl,.dead⟩ h
 ·have cr:l.map bz≠[]:=by intro e;rw [List.map_eq_nil_iff] at e;subst e;simp at hk
  obtain⟨b,cap,arr,eb,hv,HA,hb,bK,ha,_,bt⟩:=xb bE cr jT;rw [ahu] at hv bK;have j4:=hR.hold t2 (aJ hR Ii ag);have uO:=hR.hold t3 (aJ hR UP ag);rw [Ii] at j4;rw [UP] at uO;simp only [Hold] at j4 uO;have QY:a.eval (.tmp t2)=.int .i64 k:=by
   generalize hz:a.tmps.getD t2 undef=z at j4;have:a.eval (.tmp t2)=z:=hz;rw [this];cases j4;rfl
  obtain⟨vb,vc,FW,ev,QZ,hL3,S5,hvc,hva,_,Fb⟩:=xb uO ag jT;have QZ:a.eval (.tmp t3)=.slice (some ⟨vb,0,none⟩) 1 vc:=QZ;have KJ:vb≠b:=fun e=>by
   subst e;obtain⟨t,i,q,e1,e2,e3⟩:=dM HA;rw [hL3] at e1;cases e1;cases e3;simp only [idxM] at e2;rw [h4,cond_false] at e2;cases e2
  have fW:((flat (l.map bz)).map AV.toV).length=l.length*3:=by rw [ahu,bh Xj,ahu]
  have Bh:((flat ([x].map bz)).map AV.toV).length=3:=rfl;have ib:(flat ((l.take k++x::l.drop k).map bz)).map AV.toV=((flat (l.map bz)).map AV.toV).take (k*3)++(((flat ([x].map bz)).map AV.toV)++((flat (l.map bz)).map AV.toV).drop (k*3)):=by
   rw [<- List.map_take,<-List.map_drop,<-oU Xj,<-oV Xj,<-ah0,<-ah0,<-dp,<-dp,<-List.map_take,<-List.map_drop,<-ah0,<-ah0];rfl
  simp only [aiw,List.map_nil,hv,QY,QZ];have fin:∀ u w',sn w b (l.length+1) 3 (((flat (l.map bz)).map AV.toV).take (k*3)++(((flat ([x].map bz)).map AV.toV)++((flat (l.map bz)).map AV.toV).drop (k*3))) u w'->∃ L',FM.tW 3 [.dead,.dead,.dead] (.sl true 3 ((l.take k++x::l.drop k).map bz)) (qF [(s,0)] L) w [.slice (some ⟨b,0,none⟩) l.length cap,.int .i64 k,.slice (some ⟨vb,0,none⟩) 1 vc] u w' L':=fun u w' Q0=>by
   rw [<- ib] at Q0;refine zu b7 HA ae rfl Q0 ?_ Xj (u9 jT) fun i y hy=>?_
   ·rw [ahu,ahC,ahI,ahF,ahV];omega
   ·match i,hy with
    | 0,hy=>cases hy;rfl
    | 1,hy=>cases hy;rfl
    | 2,hy=>cases hy;rfl
    | i+3,hy=>simp at hy
  by_cases fY:l.length+1<=cap
  ·refine(YW b vb cap vc k l.length _ _ w arr FW eb ev hl hk fY KJ fW Bh hb S5 ha bt Fb (ic jT) (ic jT)).mono fun e w' ⟨he,hw⟩=>?_;subst hw;obtain⟨L',hB⟩:=fin _ _ (Y5 hk fY fW Bh hb ha bt);exact⟨_,L',he,hB⟩
  ·refine(Y3 b vb cap vc k l.length _ _ w arr FW eb ev hl hk bK ae KJ fW Bh hb S5 ha bt Fb (ic jT) (ic jT)).mono fun e w' ⟨lJ,g1,g2,g3,he,hw⟩=>?_;subst hw;obtain⟨L',hB⟩:=fin _ _ (Y6 hk g1 fW Bh g2 g3);exact⟨_,L',he,hB⟩
 ·obtain⟨z,_,rfl⟩:=ahY.1 hy;exact jk rfl
end Go.Proofs.YtmbbagbhmjaedaaGreatDoor
namespace Go.Proofs.YtmbbagbhmjaedaaGreatDoor
open Go FM Go.Proofs Tryz
theorem zx(l:List Ac)(x:Ac)(hl:l.length<=1000):FnSpec Sy.P 49 [.sl true 3 (l.map bz),.int l.length,.sl false 3 ([x].map bz)] [.dead,.int l.length,.sl false 3 ([x].map bz)] (.sl true 3 ((l++[x]).map bz)):=by
 refine FnSpec.enter (S:=Sy) 1 func49 rfl rfl rfl ntmps49 rfl rfl rfl rfl fun v0=>?_;repeat' first|((with_reducible apply J.step);rfl;(exact yH rfl rfl (bG (fun _=>rfl)) rfl rfl rfl rfl ae ae rfl))|refine aG ?_|(refine aK ?_ ?_<;>intro _<;>try exact aE)|fail
 all_goals first|(exfalso;omega)|exact⟨rfl,⟨_,rfl,.refl _⟩,rfl,gU (wK rfl (nC rfl (nC rfl kM)))⟩
theorem Iu{l:List Ac}:NoSh (.sl true 3 (l.map bz)):=.sl fun y hy=>by obtain⟨z,_,rfl⟩:=ahY.1 hy;exact jk rfl
theorem pN(l:List Ac)(s:bd)(m:Int)(hL:kz l)(h1:s.length<=9223372036854775807):FnSpec Sy.P 13 [.sl false 3 (l.map bz),.str s,.int m] [.sl false 3 (l.map bz),.str s,.int m] (nF (nI l s m) (oy l s m)):=by
 have hC:=iB l hL;have hN:=iA s h1;have hF:=e7 l s hL.len;have hW:=kQ [m] ag;simp only [List.all_cons,List.all_nil,Bool.and_true] at hW;have KO:=de l;have iY:=eF l s;unfold oy nF;by_cases c1:eh l=0
 ·have hok:=iN c1;rw [c1] at hC;rw [if_neg (not_not_intro c1)]
  cases c2:gV s with
  | false =>
   rw [c2] at hN;rw [if_pos rfl,if_neg af];refine bQ func13 ntmps13 fun v0=>?_;repeat' first|refine aG ?_|refine aF (hC) ?_|refine aF (hN) ?_|refine aF (hF) ?_|(refine aK ?_ ?_<;>intro _<;>try exact aE)|fail
   all_goals exact bw
  | true =>
  rw [c2] at hN;rw [if_neg (show ¬ (true=false) from by simp)]
  cases c3:jo m with
  | false =>
   rw [c3] at hW;rw [if_pos rfl,if_neg af];refine bQ func13 ntmps13 fun v0=>?_;repeat' first|refine aG ?_|refine aF (hC) ?_|refine aF (hN) ?_|refine aF (hF) ?_|refine aF (hW) ?_|(refine aK ?_ ?_<;>intro _<;>try exact aE)|fail
   all_goals exact bw
  | true =>
  rw [c3] at hW;rw [if_neg (show ¬ (true=false) from by simp)];by_cases c4:0<=fA l s
  ·rw [if_pos c4,if_neg af];refine bQ func13 ntmps13 fun v0=>?_;repeat' first|refine aG ?_|refine aF (hC) ?_|refine aF (hN) ?_|refine aF (hF) ?_|refine aF (hW) ?_|(refine aK ?_ ?_<;>intro _<;>try exact aE)|fail
   all_goals exact bw
  rw [if_neg c4];have YC:=hok.len;by_cases c5:6<=l.length
  ·rw [if_pos c5,if_neg af];refine bQ func13 ntmps13 fun v0=>?_;repeat' first|refine aG ?_|refine aF (hC) ?_|refine aF (hN) ?_|refine aF (hF) ?_|refine aF (hW) ?_|(refine aK ?_ ?_<;>intro _<;>try exact aE)|fail
   all_goals exact bw
  rw [if_neg c5,if_pos rfl];have eP:=gw l ae;have Y8:=zx l (s,m,0,()) ae;have ael:=QD (l:=l) (s:=s);refine bQ func13 ntmps13 fun v0=>?_;repeat' first|refine aG ?_|refine aF (hC) ?_|refine aF (hN) ?_|refine aF (hF) ?_|refine aF (hW) ?_|(refine aK ?_ ?_<;>intro _<;>try exact aE)|fail
  all_goals first|(exfalso;omega)|(exfalso;contradiction)|skip
  refine CW.loop (fun k:Nat=>[(0,.av (.sl false 3 (l.map bz))),(1,.av (.str s)),(2,.av (.int (m))),(9,.av (.int (k)))]) (fun k=>k<=nH l s) (fun k=>l.length-k) (0) ?_ (ck) ?_
  ·exact ahQ _
  intro k hk;by_cases aA:k<nH l s
  ·have gW:k<l.length:=ae;have hx:l[k]?=some l[k]:=ahn gW;have hs:=BM aA gW;generalize l[k]=a at *;repeat' first|refine aG ?_|(refine aK ?_ ?_<;>intro _<;>try exact aE)|fail
   all_goals first|(exfalso;omega)|(exfalso;contradiction)|skip
   refine⟨k+1,?_,fM,ck⟩;omega
  ·obtain rfl:k=nH l s:=ae;by_cases gW:nH l s<l.length
   ·have hx:l[nH l s]?=some l[nH l s]:=ahn gW;have hs:=BN gW;unfold nI;generalize l[nH l s]=a at *;repeat' first|(refine Y7 (l:=l) (x:=(s,m,0,())) rfl rfl rfl gW ae rfl rfl rfl rfl ?_)|refine aG ?_|refine aF (eP) ?_|(refine aK ?_ ?_<;>intro _<;>try exact aE)|fail
    all_goals exact bw
   ·have e:nH l s=l.length:=ae;unfold nI;rw [e,ah7,List.drop_length];repeat' first|(refine J.H8 Y8 rfl rfl rfl rfl rfl (.cons (.pl rfl rfl) (.cons (.br rfl rfl rfl rfl) .nil)) Iu .dead ?_)|refine aG ?_|refine aF (eP) ?_|(refine aK ?_ ?_<;>intro _<;>try exact aE)|fail
    all_goals exact bw
 ·rw [if_pos c1,if_neg c1];generalize eh l=e at *;refine bQ func13 ntmps13 fun v0=>?_;repeat' first|refine aG ?_|refine aF (hC) ?_|(refine aK ?_ ?_<;>intro _<;>try exact aE)|fail
  all_goals exact bw
end Go.Proofs.YtmbbagbhmjaedaaGreatDoor
