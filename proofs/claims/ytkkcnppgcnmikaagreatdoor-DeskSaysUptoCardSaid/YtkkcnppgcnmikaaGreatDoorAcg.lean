/- slices.Insert of one account ahead of another: walked. -/
import Derived.Test.YtkkcnppgcnmikaaGreatDoorAcb
import Derived.Test.YtkkcnppgcnmikaaGreatDoorAcf
import Derived.Test.YtkkcnppgcnmikaaGreatDoorAbi
import Derived.Deep.RegionLaw
import Derived.Lib.SliceRun
import Derived.Shelf.Spec.SlicesInsert
import Derived.Laws.NewBlocks
import Derived.Test.YtkkcnppgcnmikaaGreatDoorAcc
import Derived.Test.YtkkcnppgcnmikaaGreatDoorAcd
namespace Go.Proofs.YtkkcnppgcnmikaaGreatDoor
open Go FM Go.Proofs Go.RowKit Go.Lib Go.Shelf
set_option linter.all false
set_option maxHeartbeats 4000000
set_option maxRecDepth 100000
theorem insR(b vb cap vc i n:Nat)(cs vs:List Value)(w:World)(arr vrr:Array Value)(eb ev:TypeId)(hn:n≤1000)(hi:i<n)(hroom:n+1≤cap)(hvb:vb≠b)
  (hcl:cs.length=n*3) (hvl:vs.length=3) (hb:w.heap[b]?=some (.cells arr eb (0,0))) (hv:w.heap[vb]?=some (.cells vrr ev (0,0))) (ha:arr.size=cap*3)
  (hcs:∀ (j:Nat) v,cs[j]?=some v→arr[j]?=some v) (hvs:∀ (j:Nat) v,vs[j]?=some v→vrr[j]?=some v) (h1c:∀ v∈cs,v.oneCell'=true) (h1v:∀ v∈vs,v.oneCell'=true) :
  Calls Tryz.prog 80 #[.slice (some ⟨b,0,none⟩) n cap,.int .i64 i,.slice (some ⟨vb,0,none⟩) 1 vc] w fun e w' =>
   e=.returned (.slice (some ⟨b,0,none⟩) (n+1) cap)∧w'=(w.drew.setCells b ((i+1)*3) (cs.drop (i*3))).setCells b (i*3) vs:=by
 obtain⟨f0,zv,hf1,hf2,hf3,hf4,hf5,hf6,hf7⟩:=(Sy.ok 46 ⟨.struct [(0,9),(1,3),(2,3)],3,32,[.str [],.int 0,.int 0]⟩ rfl).info
 have hz2:¬ ((i:Int)=(n:Int)):=by omega
 have hsz:(Tryz.prog.info? 46).map (·.size)=some 3:=by rw [show Tryz.prog.info? 46=some f0 from hf1];simp [hf2]
 have hshb:w.shape? b=some (eb,arr.size):=by simp only [World.shape?,hb]
 have hshv:w.shape? vb=some (ev,vrr.size):=by simp only [World.shape?,hv]
 have hfv:∀ j,w.frozen? ⟨vb,j,none⟩=false:=fun j=>by simp only [World.frozen?,hv];simp
 have hfb:∀ j,w.frozen? ⟨b,j,none⟩=false:=fun j=>by simp only [World.frozen?,hb];simp
 have hsp:∀ j,j<(n+1)*3→(w.cell? ⟨b,j,none⟩).isSome=true:=fun j hj=>by
  rw [cell_of_row w b j arr eb (0,0) hb,Array.getElem?_eq_getElem (by omega)];rfl
 have hov:∀ lb cb,(callFunc 137 #[.slice (some ⟨vb,0,none⟩) 1 vc,.slice (some ⟨b,(i+1)*3,none⟩) lb cb]).run Tryz.prog w=.ok (.value (.bool false)) w:=fun lb cb=>by
  rw [run_callFunc_extern Tryz.func137 (by kernel_rfl) (by kernel_rfl) (by kernel_rfl) (e:=Extern.SlicesOverlaps.overlaps #[25,25] #[4]) (by kernel_rfl),
   Lib.run_overlaps_apart w 25 4 46 Tryz.underlying25 3 Tryz.sizeOf46 ⟨vb,0,none⟩ ⟨b,(i+1)*3,none⟩ 1 vc lb cb hvb ev eb vrr.size arr.size hshv hshb (by omega) (hfv _) (hfv _)]
  rfl
 have hdl:(cs.drop (i*3)).length=(n-i)*3:=by rw [List.length_drop,hcl];omega
 have hcp1:∀ ty dc sc,(Builtin.copy_ #[25,25] ty #[.slice (some ⟨b,(i+1)*3,none⟩) (n-i) dc,.slice (some ⟨b,i*3,none⟩) (n+1-i) sc]).run Tryz.prog w.drew=.ok (goInt (Nat.min (n+1-i) (n-i):Nat)) (w.drew.setCells b ((i+1)*3) (cs.drop (i*3))):=fun ty dc sc =>
  run_copyK w.drew _ _ ty 46 b ((i+1)*3) (n-i) dc ⟨b,i*3,none⟩ (n+1-i) sc 3 (cs.drop (i*3)) Tryz.underlying25 hsz (by rw [hdl];simp only [Nat.min_def];split<;>omega)
   (fun j v hj=>by
    rw [Addr.add_lit]
    show w.cell? _=_
    rw [cell_of_row w b _ arr eb (0,0) hb]
    exact hcs _ v (by rwa [List.getElem?_drop] at hj))
   (fun j hj=>hsp _ (by omega)) (fun j hj=>hfb _) (fun v hv=>h1c v (List.mem_of_mem_drop hv))
 obtain⟨W1,hW1⟩:∃ W1,W1=w.drew.setCells b ((i+1)*3) (cs.drop (i*3)):=⟨_,rfl⟩
 obtain⟨A1,hA1,hA1s,_⟩:=setCells_row b eb (cs.drop (i*3)) ((i+1)*3) w.drew arr hb (by rw [hdl];omega)
 obtain⟨hk1,_⟩:=setCells_keep b (cs.drop (i*3)) ((i+1)*3) w.drew
 rw [← hW1] at hA1 hk1 hcp1 ⊢
 have hvW:W1.heap[vb]?=some (.cells vrr ev (0,0)):=(hk1 vb hvb).trans hv
 have hcp2:∀ (W:World),(∀ x,W.cell? x=W1.cell? x)→(∀ x,W.frozen? x=W1.frozen? x)→∀ ty dc,(Builtin.copy_ #[25,25] ty #[.slice (some ⟨b,i*3,none⟩) (n+1-i) dc,.slice (some ⟨vb,0,none⟩) 1 vc]).run Tryz.prog W=.ok (goInt (Nat.min 1 (n+1-i):Nat)) (W.setCells b (i*3) vs):=fun W hWc hWf ty dc =>
  run_copyK W _ _ ty 46 b (i*3) (n+1-i) dc ⟨vb,0,none⟩ 1 vc 3 vs Tryz.underlying25 hsz (by rw [hvl];simp only [Nat.min_def];split<;>omega)
   (fun j v hj=>by
    rw [Addr.add_lit,hWc,cell_of_row W1 vb _ vrr ev (0,0) hvW,Nat.zero_add]
    exact hvs j v hj)
   (fun j hj=>by rw [hWc,cell_of_row W1 b _ A1 eb (0,0) hA1,Array.getElem?_eq_getElem (by omega)];rfl) (fun j hj=>by rw [hWf];simp only [World.frozen?,hA1];simp) h1v
 have hw1:IntKind.i64.wrap ((i:Int)+1)=(i:Int)+1:=by rw [IntKind.wrap_i64];omega
 have hb1:(0:Int)≤(i:Int)+1:=by omega
 have hin:i≤n:=by omega
 have htn:((i:Int)+1).toNat=i+1:=by omega
 have hb2:¬ (cap=i+1):=by omega
 have hb3:(i:Int)≤(n:Int)+1:=by omega
 have hb4:¬ (cap=i):=by omega
 go_enter Tryz.func80,Tryz.ntmps80
 go_wp2_with (simp only [hov])
 go_region_law_o (refine step_copy_runI rfl _ _ 25 25 rfl _ _ (by simp [Act.eval,Act.put]) (by simp [Act.eval,Act.put]) (hcp1 _ _ _) ?_)
 go_wp2_with (at_builtin;refine wpList_copy_runI _ rfl _ _ 25 25 rfl _ _ rfl rfl (hcp2 _ (fun _=>rfl) (fun _=>rfl) _ _) ?_)
 go_ret
 exact⟨rfl,by rw [hW1]⟩
theorem insG(b vb cap vc i n:Nat)(cs vs:List Value)(w:World)(arr vrr:Array Value)(eb ev:TypeId)(hn:n≤1000)(hi:i<n)(hnc:n≤cap)(hroom:cap<n+1)(hvb:vb≠b)
  (hcl:cs.length=n*3) (hvl:vs.length=3) (hb:w.heap[b]?=some (.cells arr eb (0,0))) (hv:w.heap[vb]?=some (.cells vrr ev (0,0))) (ha:arr.size=cap*3)
  (hcs:∀ (j:Nat) v,cs[j]?=some v→arr[j]?=some v) (hvs:∀ (j:Nat) v,vs[j]?=some v→vrr[j]?=some v) (h1c:∀ v∈cs,v.oneCell'=true) (h1v:∀ v∈vs,v.oneCell'=true) :
  Calls Tryz.prog 80 #[.slice (some ⟨b,0,none⟩) n cap,.int .i64 i,.slice (some ⟨vb,0,none⟩) 1 vc] w fun e w' =>
   ∃ ROW:Array Value,n+1≤grownCap w (n+1) cap 46∧ROW.size=grownCap w (n+1) cap 46*3∧(∀ (j:Nat) v,j<i*3→cs[j]?=some v→ROW[j]?=some v)∧e=.returned (.slice (some ⟨w.heap.size,0,none⟩) (n+1) (grownCap w (n+1) cap 46)) ∧
   w'=(((w.alloc (.cells ROW 46)).drew.setCells w.heap.size (i*3) vs).drew).setCells w.heap.size ((i+1)*3) (cs.drop (i*3)):=by
 obtain⟨f0,zv,hf1,hf2,hf3,hf4,hf5,hf6,hf7⟩:=(Sy.ok 46 ⟨.struct [(0,9),(1,3),(2,3)],3,32,[.str [],.int 0,.int 0]⟩ rfl).info
 have hf1':Tryz.prog.info? 46=some f0:=hf1
 have hf2':f0.size=3:=hf2
 have hf3':f0.bytes=32:=hf3
 have hz2:¬ ((i:Int)=(n:Int)):=by omega
 have hz3:(cap:Int)<(n:Int)+1:=by omega
 have hsz:(Tryz.prog.info? 46).map (·.size)=some 3:=by rw [hf1'];simp [hf2]
 have hzs:zv.cells.size=3:=hf7
 have hbw:b<w.heap.size:=(Array.getElem?_eq_some_iff.1 hb).1
 have hvw:vb<w.heap.size:=(Array.getElem?_eq_some_iff.1 hv).1
 have hkk:(n:Int)+1-(i:Int)=((n+1-i:Nat):Int):=by omega
 have hik:i+(n+1-i)=n+1:=by omega
 have hold:(Builtin.firstCells f0.size i (.slice (some ⟨b,0,none⟩) i cap)).run Tryz.prog w.drew=.ok (cs.take (i*3)).toArray w.drew:=by
  rw [hf2]
  exact run_firstCells_some w.drew 3 i ⟨b,0,none⟩ i cap (cs.take (i*3)) (by rw [List.length_take,hcl];omega) (fun j v hj=>by
   rw [Addr.add_lit,Nat.zero_add]
   rw [List.getElem?_take] at hj
   split at hj
   ·show w.cell? _=_
    rw [cell_of_row w b _ arr eb (0,0) hb]
    exact hcs j v hj
   ·cases hj)
 have hrz:∀ ty,(Builtin.append_ #[25,3] ty #[.slice (some ⟨b,0,none⟩) i cap,.int .i64 ((n:Int)+1-(i:Int))]).run Tryz.prog w =
   .ok (.slice (some ⟨w.heap.size,0,none⟩) (n+1) (grownCap w (n+1) cap 46)) (w.drew.alloc (.cells ((cs.take (i*3)).toArray++Builtin.zeroCells zv.cells (n+1-i)++Builtin.zeroCells zv.cells (grownCap w (n+1) cap 46-(n+1))) 46)):=fun ty=>by
  have h:=Lib.run_append_grow_zeros w 25 3 ty 46 f0 _ .i64 .i64 Tryz.underlying25 Tryz.underlying3 hf1' hf4 (some ⟨b,0,none⟩) i cap (cs.take (i*3)) hold (n+1-i) (by omega) (by rw [hf2'];omega) (by omega) (by omega) (by rw [hf3'];omega) (by rw [hf3',hik];exact growslice_fits hroom (by omega))
  rw [hik] at h
  rw [hkk]
  exact h
 obtain⟨G,hG⟩:∃ G,G=grownCap w (n+1) cap 46:=⟨_,rfl⟩
 have hGn:n+1≤G:=by rw [hG];exact grownCap_ge w _ _ _
 obtain⟨ROW,hROW⟩:∃ ROW:Array Value,ROW=(cs.take (i*3)).toArray++Builtin.zeroCells zv.cells (n+1-i)++Builtin.zeroCells zv.cells (G-(n+1)):=⟨_,rfl⟩
 rw [← hG] at hrz ⊢
 rw [← hROW] at hrz
 have hRs:ROW.size=G*3:=by
  rw [hROW]
  simp only [Array.size_append,List.size_toArray,size_zeroCells,hzs,List.length_take,hcl]
  omega
 have hRg:∀ (j:Nat) v,j<i*3→cs[j]?=some v→ROW[j]?=some v:=fun j v hj hv=>by
  have hl:j<(cs.take (i*3)).toArray.size:=by simp only [List.size_toArray,List.length_take,hcl];omega
  rw [hROW,Array.append_assoc,Array.getElem?_append_left hl]
  simp only [List.getElem?_toArray,List.getElem?_take,if_pos hj]
  exact hv
 obtain⟨W1,hW1⟩:∃ W1,W1=w.drew.alloc (.cells ROW 46):=⟨_,rfl⟩
 rw [← hW1] at hrz
 have hN:∀ j,j<(n+1)*3→(W1.cell? ⟨w.heap.size,j,none⟩).isSome=true:=fun j hj=>by
  rw [hW1,World.cell?_alloc_at (w:=w.drew) ROW _ w.heap.size j rfl,Array.getElem?_eq_getElem (by omega)];rfl
 have hNf:∀ j,W1.frozen? ⟨w.heap.size,j,none⟩=false:=fun j=>by rw [hW1];exact World.frozen?_alloc_at (w:=w.drew) ROW _ w.heap.size j rfl
 have hOb:∀ j v,w.cell? ⟨b,j,none⟩=some v→W1.cell? ⟨b,j,none⟩=some v:=fun j v h=>by rw [hW1,World.cell?_alloc_past (w:=w.drew) _ b j hbw];exact h
 have hOv:∀ j v,w.cell? ⟨vb,j,none⟩=some v→W1.cell? ⟨vb,j,none⟩=some v:=fun j v h=>by rw [hW1,World.cell?_alloc_past (w:=w.drew) _ vb j hvw];exact h
 have hcpA:∀ (W:World),(∀ x,W.cell? x=W1.cell? x)→(∀ x,W.frozen? x=W1.frozen? x)→∀ ty dc,(Builtin.copy_ #[25,25] ty #[.slice (some ⟨w.heap.size,i*3,none⟩) (n+1-i) dc,.slice (some ⟨vb,0,none⟩) 1 vc]).run Tryz.prog W=.ok (goInt (Nat.min 1 (n+1-i):Nat)) (W.setCells w.heap.size (i*3) vs):=fun W hWc hWf ty dc =>
  run_copyK W _ _ ty 46 w.heap.size (i*3) (n+1-i) dc ⟨vb,0,none⟩ 1 vc 3 vs Tryz.underlying25 hsz (by rw [hvl];simp only [Nat.min_def];split<;>omega)
   (fun j v hj=>by
    rw [Addr.add_lit,hWc,Nat.zero_add]
    refine hOv _ v ?_
    rw [cell_of_row w vb _ vrr ev (0,0) hv]
    exact hvs j v hj)
   (fun j hj=>by rw [hWc];exact hN _ (by omega)) (fun j hj=>by rw [hWf];exact hNf _) h1v
 have hGi:¬ (G=i):=by omega
 have hGim:¬ (G=i+1):=by omega
 have hci:¬ (cap=i):=by omega
 have hbN:b≠w.heap.size:=by omega
 have hdl:(cs.drop (i*3)).length=(n-i)*3:=by rw [List.length_drop,hcl];omega
 have hcpB:∀ (W:World),(∀ x,W.cell? x=(W1.setCells w.heap.size (i*3) vs).cell? x)→(∀ x,W.frozen? x=(W1.setCells w.heap.size (i*3) vs).frozen? x)→∀ ty dc sc,(Builtin.copy_ #[25,25] ty #[.slice (some ⟨w.heap.size,(i+1)*3,none⟩) (n-i) dc,.slice (some ⟨b,i*3,none⟩) (n-i) sc]).run Tryz.prog W=.ok (goInt (Nat.min (n-i) (n-i):Nat)) (W.setCells w.heap.size ((i+1)*3) (cs.drop (i*3))):=fun W hWc hWf ty dc sc =>
  run_copyK W _ _ ty 46 w.heap.size ((i+1)*3) (n-i) dc ⟨b,i*3,none⟩ (n-i) sc 3 (cs.drop (i*3)) Tryz.underlying25 hsz (by rw [hdl];simp only [Nat.min_def];split<;>omega)
   (fun j v hj=>by
    rw [Addr.add_lit,hWc,World.cell?_setCells_out _ _ _ _ _ (fun h _=>absurd h hbN)]
    refine hOb _ v ?_
    rw [cell_of_row w b _ arr eb (0,0) hb]
    exact hcs _ v (by rwa [List.getElem?_drop] at hj))
   (fun j hj=>by rw [hWc];exact isSome_setCells _ _ _ _ (fun t ht=>hN _ (by omega)) _ (hN _ (by omega)))
   (fun j hj=>by rw [hWf,World.frozen?_setCells];exact hNf _) (fun v hv=>h1c v (List.mem_of_mem_drop hv))
 have hE1:∀ x,((w.alloc (.cells ROW 46)).drew).cell? x=W1.cell? x:=fun x=>by rw [hW1];rfl
 have hE2:∀ x,((w.alloc (.cells ROW 46)).drew).frozen? x=W1.frozen? x:=fun x=>by rw [hW1];rfl
 subst hW1
 have hF1:∀ x,(((w.alloc (.cells ROW 46)).drew.setCells w.heap.size (i*3) vs).drew).cell? x=((w.drew.alloc (.cells ROW 46)).setCells w.heap.size (i*3) vs).cell? x:=fun x=>rfl
 have hF2:∀ x,(((w.alloc (.cells ROW 46)).drew.setCells w.heap.size (i*3) vs).drew).frozen? x=((w.drew.alloc (.cells ROW 46)).setCells w.heap.size (i*3) vs).frozen? x:=fun x=>rfl
 have hw1:IntKind.i64.wrap ((i:Int)+1)=(i:Int)+1:=by rw [IntKind.wrap_i64];omega
 have hb1:(0:Int)≤(i:Int)+1:=by omega
 have hin:i≤n:=by omega
 have htn:((i:Int)+1).toNat=i+1:=by omega
 have hb3:(i:Int)≤(n:Int):=by omega
 have X:Aside (n+1≤G∧ROW.size=G*3∧(∀ (j:Nat) v,j<i*3→cs[j]?=some v→ROW[j]?=some v)):=⟨hGn,hRs,hRg⟩
 clear hkk hik hold hROW hG hRs hRg
 go_enter Tryz.func80,Tryz.ntmps80
 go_wp2_with (first
  | (at_builtin;refine Lib.wpList_append_run _ rfl _ _ _ _ rfl _ _ rfl rfl _ _ (hrz _) ?_)
  | (at_builtin;refine wpList_copy_runI _ rfl _ _ 25 25 rfl _ _ rfl rfl (hcpA _ hE1 hE2 _ _) ?_)
  | (at_builtin;refine wpList_copy_runI _ rfl _ _ 25 25 rfl _ _ rfl rfl (hcpB _ (fun _=>rfl) (fun _=>rfl) _ _ _) ?_))
 go_region_law_o (refine step_copy_runI rfl _ _ 25 25 rfl _ _ (by simp [Act.eval,Act.put]) (by simp [Act.eval,Act.put]) (hcpB _ hF1 hF2 3 (G-(i+1)) (cap-i)) ?_)
 go_wp2
 go_ret
 exact⟨ROW,X.out.1,X.out.2.1,X.out.2.2,rfl,rfl⟩
theorem outR{w:World}{b cap i n:Nat}{cs vs:List Value}{arr:Array Value}{eb:TypeId}(hi:i<n)(hroom:n+1≤cap)(hcl:cs.length=n*3)(hvl:vs.length=3)(hb:w.heap[b]?=some (.cells arr eb (0,0)))(ha:arr.size=cap*3)
  (hcs:∀ (j:Nat) v,cs[j]?=some v→arr[j]?=some v):RowOut w b (n+1) 3 (cs.take (i*3)++(vs++cs.drop (i*3))) (.slice (some ⟨b,0,none⟩) (n+1) cap) ((w.drew.setCells b ((i+1)*3) (cs.drop (i*3))).setCells b (i*3) vs):=by
 have hdl:(cs.drop (i*3)).length=(n-i)*3:=by rw [List.length_drop,hcl];omega
 have htl:(cs.take (i*3)).length=i*3:=by rw [List.length_take,hcl];omega
 obtain⟨A1,hA1,s1,g1⟩:=setCells_row b eb (cs.drop (i*3)) ((i+1)*3) w.drew arr hb (by rw [hdl];omega)
 obtain⟨k1,z1,o1,t1,u1⟩:=setCells_keep b (cs.drop (i*3)) ((i+1)*3) w.drew
 generalize w.drew.setCells b ((i+1)*3) (cs.drop (i*3))=W1 at *
 obtain⟨A2,hA2,s2,g2⟩:=setCells_row b eb vs (i*3) W1 A1 hA1 (by rw [hvl];omega)
 obtain⟨k2,z2,o2,t2,u2⟩:=setCells_keep b vs (i*3) W1
 refine⟨b,cap,A2,eb,rfl,.inl rfl,hroom,by rw [s2,s1,ha],hA2,fun j u hj=>?_,by rw [z2,z1];exact Nat.le_refl _,fun k hk _=>(k2 k hk).trans (k1 k hk),o2.trans o1,t2.trans t1,u2.trans u1⟩
 rw [g2,g1,hvl,hdl]
 by_cases c1:j<i*3
 ·rw [List.getElem?_append_left (by omega),List.getElem?_take,if_pos c1] at hj
  rw [if_neg (by omega),if_neg (by omega)]
  exact hcs j u hj
 ·rw [List.getElem?_append_right (by omega),htl] at hj
  by_cases c2:j<i*3+3
  ·rw [List.getElem?_append_left (by omega)] at hj
   rw [if_pos (by omega)];exact hj
  ·rw [List.getElem?_append_right (by omega),hvl] at hj
   have hlt:=(List.getElem?_eq_some_iff.1 hj).1
   rw [hdl] at hlt
   rw [if_neg (by omega),if_pos (by omega),show j-(i+1)*3=j-i*3-3 by omega];exact hj
theorem outG{w:World}{b G i n:Nat}{cs vs:List Value}{ROW:Array Value}{t:TypeId}(hi:i<n)(hG:n+1≤G)(hcl:cs.length=n*3)(hvl:vs.length=3)(hR:ROW.size=G*3)
  (hcs:∀ (j:Nat) v,j<i*3→cs[j]?=some v→ROW[j]?=some v):RowOut w b (n+1) 3 (cs.take (i*3)++(vs++cs.drop (i*3))) (.slice (some ⟨w.heap.size,0,none⟩) (n+1) G) ((((w.alloc (.cells ROW t)).drew.setCells w.heap.size (i*3) vs).drew).setCells w.heap.size ((i+1)*3) (cs.drop (i*3))):=by
 have hdl:(cs.drop (i*3)).length=(n-i)*3:=by rw [List.length_drop,hcl];omega
 have htl:(cs.take (i*3)).length=i*3:=by rw [List.length_take,hcl];omega
 have h0:((w.alloc (.cells ROW t)).drew).heap[w.heap.size]?=some (.cells ROW t (0,0)):=heap_alloc_new w _
 have hk0:∀ k,k<w.heap.size→((w.alloc (.cells ROW t)).drew).heap[k]?=w.heap[k]?:=fun k hk=>by
  show(w.heap.push _)[k]?=_
  rw [Array.getElem?_push_lt hk,Array.getElem?_eq_getElem hk]
 have hz0:((w.alloc (.cells ROW t)).drew).heap.size=w.heap.size+1:=Array.size_push ..
 have ho0:((w.alloc (.cells ROW t)).drew).os=w.os:=rfl
 have ht0:((w.alloc (.cells ROW t)).drew).tape=w.tape:=rfl
 have hu0:((w.alloc (.cells ROW t)).drew).output=w.output:=rfl
 generalize (w.alloc (.cells ROW t)).drew=W0 at *
 obtain⟨A1,hA1,s1,g1⟩:=setCells_row w.heap.size t vs (i*3) W0 ROW h0 (by rw [hvl];omega)
 obtain⟨k1,z1,o1,t1,u1⟩:=setCells_keep w.heap.size vs (i*3) W0
 generalize W0.setCells w.heap.size (i*3) vs=W1 at *
 obtain⟨A2,hA2,s2,g2⟩:=setCells_row w.heap.size t (cs.drop (i*3)) ((i+1)*3) W1.drew A1 hA1 (by rw [hdl];omega)
 obtain⟨k2,z2,o2,t2,u2⟩:=setCells_keep w.heap.size (cs.drop (i*3)) ((i+1)*3) W1.drew
 refine⟨w.heap.size,G,A2,t,rfl,.inr (Nat.le_refl _),hG,by rw [s2,s1,hR],hA2,fun j u hj=>?_,by rw [z2,show W1.drew.heap.size=W1.heap.size from rfl,z1,hz0];omega,fun k _ hk=>((k2 k (by omega)).trans (k1 k (by omega))).trans (hk0 k hk),(o2.trans o1).trans ho0,(t2.trans t1).trans ht0,(u2.trans u1).trans hu0⟩
 rw [g2,g1,hvl,hdl]
 by_cases c1:j<i*3
 ·rw [List.getElem?_append_left (by omega),List.getElem?_take,if_pos c1] at hj
  rw [if_neg (by omega),if_neg (by omega)]
  exact hcs j u c1 hj
 ·rw [List.getElem?_append_right (by omega),htl] at hj
  by_cases c2:j<i*3+3
  ·rw [List.getElem?_append_left (by omega)] at hj
   rw [if_neg (by omega),if_pos (by omega)];exact hj
  ·rw [List.getElem?_append_right (by omega),hvl] at hj
   have hlt:=(List.getElem?_eq_some_iff.1 hj).1
   rw [hdl] at hlt
   rw [if_pos (by omega),show j-(i+1)*3=j-i*3-3 by omega];exact hj
theorem ac_simp{l:List Ac}:∀ y∈flat (l.map acA),simp1 y=true:=fun y hy=>by
 unfold flat at hy
 rw [List.mem_flatMap] at hy
 obtain⟨x,hx,hy⟩:=hy
 obtain⟨z,_,rfl⟩:=List.mem_map.1 hx
 simp only [AV.cells,List.mem_cons,List.mem_nil_iff,or_false] at hy
 rcases hy with rfl|rfl|rfl<;>rfl
theorem ac3{l:List Ac}:∀ x∈l.map acA,x.cells.length=3:=fun x hx=>by obtain⟨z,_,rfl⟩:=List.mem_map.1 hx;rfl
theorem insJ{m:Nat}{v:Nat→Value}{N:Nat}{σ:St}{l:List Ac}{x:Ac}{k:Nat}{t1 t2 t3 s d ty:Nat}{ops:Array Oper}{kk:List Oper}{K:St→Prop}{ts:Array Nat}{pos:String}{aft:Array Edge}{g:Option (Nat×Bool)}(hg:live ops g σ=some true)
  (h1:slotAt σ (.tmp t1)=some s) (h2:FM.get σ s=.av (.sl true 3 (l.map acA))) (hk:k<l.length) (hl:l.length≤1000) (h3:Nat.beq s d=false) (ht2:FM.get σ t2=.av (.int k)) (ht3:FM.get σ t3=.av (.sl true 3 ([x].map acA))) (h4:Nat.beq s t3=false)
  (h:J false (Sy.fixed m v) N ops kk K (putM [(s,0)] [.dead,.dead,.dead] (σ.put d (.av (.sl true 3 ((l.take k++x::l.drop k).map acA)))))) :
  J false (Sy.fixed m v) N ops (⟨some d,.call ⟨.value (.func 80),#[.tmp t1,.tmp t2,.tmp t3],ts⟩,ty,pos,aft,g⟩::kk) K σ:=by
 refine J.callMP (xs:=[.tmp t2,.tmp t3]) (op:=.tmp t1) (⟨_,Tryz.func80,rfl,rfl⟩:FnOk Sy.P 80) rfl hg h1 h2 h3 (fun w0 L0 a w L hR hpre hrep=>?_) (.sl fun y hy=>?_) ⟨.dead,rfl,.dead⟩ h
 ·have hne:l.map acA≠[]:=by intro e;rw [List.map_eq_nil_iff] at e;subst e;simp at hk
  obtain⟨b,cap,arr,eb,hv,hLb,hb,hcap,ha,_,hcs⟩:=own_row hrep hne ac_simp
  rw [List.length_map] at hv hcap
  have hf2:=hR.hold t2 (own_lt hR ht2 (by simp))
  have hf3:=hR.hold t3 (own_lt hR ht3 (by simp))
  rw [ht2] at hf2
  rw [ht3] at hf3
  simp only [Hold] at hf2 hf3
  have he2:a.eval (.tmp t2)=.int .i64 k:=by
   generalize hz:a.tmps.getD t2 undef=z at hf2
   have:a.eval (.tmp t2)=z:=hz
   rw [this];cases hf2;rfl
  obtain⟨vb,vc,vrr,ev,he3,hL3,hvb,hvc,hva,_,hvs⟩:=own_row hf3 (by simp) ac_simp
  have he3:a.eval (.tmp t3)=.slice (some ⟨vb,0,none⟩) 1 vc:=he3
  have hbv:vb≠b:=fun e=>by
   subst e
   obtain⟨t,i,q,e1,e2,e3⟩:=inM_my hLb
   rw [hL3] at e1;cases e1;cases e3
   simp only [idxM] at e2
   rw [h4,cond_false] at e2;cases e2
  have hcl:((flat (l.map acA)).map AV.toV).length=l.length*3:=by rw [List.length_map,flat_length ac3,List.length_map]
  have hvl:((flat ([x].map acA)).map AV.toV).length=3:=rfl
  have hnews:(flat ((l.take k++x::l.drop k).map acA)).map AV.toV=((flat (l.map acA)).map AV.toV).take (k*3)++(((flat ([x].map acA)).map AV.toV)++((flat (l.map acA)).map AV.toV).drop (k*3)):=by
   rw [← List.map_take,←List.map_drop,←flat_take ac3,←flat_drop ac3,←List.map_append,←List.map_append,←flat_append,←flat_append,←List.map_take,←List.map_drop,←List.map_append,←List.map_append]
   rfl
  simp only [List.map_cons,List.map_nil,hv,he2,he3]
  have fin:∀ u w',RowOut w b (l.length+1) 3 (((flat (l.map acA)).map AV.toV).take (k*3)++(((flat ([x].map acA)).map AV.toV)++((flat (l.map acA)).map AV.toV).drop (k*3))) u w'→∃ L',FM.Back 3 [.dead,.dead,.dead] (.sl true 3 ((l.take k++x::l.drop k).map acA)) (inM [(s,0)] L) w [.slice (some ⟨b,0,none⟩) l.length cap,.int .i64 k,.slice (some ⟨vb,0,none⟩) 1 vc] u w' L':=fun u w' hro=>by
   rw [← hnews] at hro
   refine back_out hpre hLb (by omega) rfl hro ?_ ac3 (flat_news ac_simp) fun i y hy=>?_
   ·rw [List.length_map,List.length_append,List.length_cons,List.length_take,List.length_drop];omega
   ·match i,hy with
    | 0,hy=>cases hy;rfl
    | 1,hy=>cases hy;rfl
    | 2,hy=>cases hy;rfl
    | i+3,hy=>simp at hy
  by_cases hroom:l.length+1≤cap
  ·refine(insR b vb cap vc k l.length _ _ w arr vrr eb ev hl hk hroom hbv hcl hvl hb hvb ha hcs hvs (flat_cells ac_simp) (flat_cells ac_simp)).mono fun e w' ⟨he,hw⟩=>?_
   subst hw
   obtain⟨L',hB⟩:=fin _ _ (outR hk hroom hcl hvl hb ha hcs)
   exact⟨_,L',he,hB⟩
  ·refine(insG b vb cap vc k l.length _ _ w arr vrr eb ev hl hk hcap (by omega) hbv hcl hvl hb hvb ha hcs hvs (flat_cells ac_simp) (flat_cells ac_simp)).mono fun e w' ⟨ROW,g1,g2,g3,he,hw⟩=>?_
   subst hw
   obtain⟨L',hB⟩:=fin _ _ (outG hk g1 hcl hvl g2 g3)
   exact⟨_,L',he,hB⟩
 ·obtain⟨z,_,rfl⟩:=List.mem_map.1 hy
  exact noSh_aggL rfl
end Go.Proofs.YtkkcnppgcnmikaaGreatDoor
namespace Go.Proofs.YtkkcnppgcnmikaaGreatDoor
open Go FM Go.Proofs
set_option maxRecDepth 10000
set_option maxHeartbeats 3200000
set_option linter.all false
theorem insEnd_spec(l:List Ac)(x:Ac)(hl:l.length≤1000):FnSpec Sy.P 80 [.sl true 3 (l.map acA),.int l.length,.sl false 3 ([x].map acA)] [.dead,.int l.length,.sl false 3 ([x].map acA)] (.sl true 3 ((l++[x]).map acA)):=by
 refine FnSpec.enter (S:=Sy) 1 Tryz.func80 rfl rfl rfl Tryz.ntmps80 rfl rfl rfl rfl fun v0=>?_
 repeat' first|((with_reducible apply J.step);rfl;(exact s_slcRlo rfl rfl (sh_map (fun _=>rfl)) rfl rfl rfl rfl (by omega) (by omega) rfl))|refine w9x ?_|(refine w9c ?_ ?_<;>intro _<;>try exact w9o)|fail
 all_goals first|(exfalso;omega)|exact⟨rfl,⟨_,rfl,.refl _⟩,rfl,args_start (args_mv rfl (args_pl rfl (args_pl rfl args_nil)))⟩
theorem noSh_acs{l:List Ac}:NoSh (.sl true 3 (l.map acA)):=.sl fun y hy=>by obtain⟨z,_,rfl⟩:=List.mem_map.1 hy;exact noSh_aggL rfl
theorem openOf_spec(l:List Ac)(s:Str)(m:Int)(hL:AcL l)(h1:s.length≤9223372036854775807):FnSpec Sy.P 35 [.sl false 3 (l.map acA),.str s,.int m] [.sl false 3 (l.map acA),.str s,.int m] (resA (opM l s m) (opE l s m)):=by
 have hC:=accErr_spec l hL
 have hN:=namedR_spec s h1
 have hF:=accOf_spec l s hL.len
 have hW:=within_spec [m] (by simp)
 simp only [List.all_cons,List.all_nil,Bool.and_true] at hW
 have hCr:=acE_range l
 have hfr:=fA_range l s
 unfold opE resA
 by_cases c1:acE l=0
 ·have hok:=acE_ok c1
  rw [c1] at hC
  rw [if_neg (not_not_intro c1)]
  cases c2:nmB s with
  | false =>
   rw [c2] at hN
   rw [if_pos rfl,if_neg (by decide)]
   refine enT Tryz.func35 Tryz.ntmps35 fun v0=>?_
   repeat' first|refine w9x ?_|refine w9p (hC) ?_|refine w9p (hN) ?_|refine w9p (hF) ?_|(refine w9c ?_ ?_<;>intro _<;>try exact w9o)|fail
   all_goals exact w9e
  | true =>
  rw [c2] at hN
  rw [if_neg (show ¬ (true=false) from by simp)]
  cases c3:wiB m with
  | false =>
   rw [c3] at hW
   rw [if_pos rfl,if_neg (by decide)]
   refine enT Tryz.func35 Tryz.ntmps35 fun v0=>?_
   repeat' first|refine w9x ?_|refine w9p (hC) ?_|refine w9p (hN) ?_|refine w9p (hF) ?_|refine w9p (hW) ?_|(refine w9c ?_ ?_<;>intro _<;>try exact w9o)|fail
   all_goals exact w9e
  | true =>
  rw [c3] at hW
  rw [if_neg (show ¬ (true=false) from by simp)]
  by_cases c4:0≤fA l s
  ·rw [if_pos c4,if_neg (by decide)]
   refine enT Tryz.func35 Tryz.ntmps35 fun v0=>?_
   repeat' first|refine w9x ?_|refine w9p (hC) ?_|refine w9p (hN) ?_|refine w9p (hF) ?_|refine w9p (hW) ?_|(refine w9c ?_ ?_<;>intro _<;>try exact w9o)|fail
   all_goals exact w9e
  rw [if_neg c4]
  have hl6:=hok.len
  by_cases c5:6≤l.length
  ·rw [if_pos c5,if_neg (by decide)]
   refine enT Tryz.func35 Tryz.ntmps35 fun v0=>?_
   repeat' first|refine w9x ?_|refine w9p (hC) ?_|refine w9p (hN) ?_|refine w9p (hF) ?_|refine w9p (hW) ?_|(refine w9c ?_ ?_<;>intro _<;>try exact w9o)|fail
   all_goals exact w9e
  rw [if_neg c5,if_pos rfl]
  have hCl:=cloneAc_spec l (by omega)
  have hIns:=insEnd_spec l (s,m,0,()) (by omega)
  have hok0:=opK_le (l:=l) (s:=s)
  refine enT Tryz.func35 Tryz.ntmps35 fun v0=>?_
  repeat' first|refine w9x ?_|refine w9p (hC) ?_|refine w9p (hN) ?_|refine w9p (hF) ?_|refine w9p (hW) ?_|(refine w9c ?_ ?_<;>intro _<;>try exact w9o)|fail
  all_goals first|(exfalso;omega)|(exfalso;contradiction)|skip
  refine CW.loop (fun k:Nat=>[(0,.av (.sl false 3 (l.map acA))),(1,.av (.str s)),(2,.av (.int (m))),(9,.av (.int (k)))]) (fun k=>k≤opK l s) (fun k=>l.length-k) (0) ?_ (w9a) ?_
  ·exact Nat.zero_le _
  intro k hk
  by_cases hlt:k<opK l s
  ·have hkl:k<l.length:=by omega
   have hx:l[k]?=some l[k]:=List.getElem?_eq_getElem hkl
   have hs:=opK_lt hlt hkl
   generalize l[k]=a at *
   repeat' first|refine w9x ?_|(refine w9c ?_ ?_<;>intro _<;>try exact w9o)|fail
   all_goals first|(exfalso;omega)|(exfalso;contradiction)|skip
   refine⟨k+1,?_,w9n,w9a⟩
   omega
  ·obtain rfl:k=opK l s:=by omega
   by_cases hkl:opK l s<l.length
   ·have hx:l[opK l s]?=some l[opK l s]:=List.getElem?_eq_getElem hkl
    have hs:=opK_at hkl
    unfold opM
    generalize l[opK l s]=a at *
    repeat' first|(refine insJ (l:=l) (x:=(s,m,0,())) rfl rfl rfl hkl (by omega) rfl rfl rfl rfl ?_)|refine w9x ?_|refine w9p (hCl) ?_|(refine w9c ?_ ?_<;>intro _<;>try exact w9o)|fail
    all_goals exact w9e
   ·have e:opK l s=l.length:=by omega
    unfold opM
    rw [e,List.take_length,List.drop_length]
    repeat' first|(refine J.callM1 hIns rfl rfl rfl rfl rfl (.cons (.pl rfl rfl) (.cons (.br rfl rfl rfl rfl) .nil)) noSh_acs .dead ?_)|refine w9x ?_|refine w9p (hCl) ?_|(refine w9c ?_ ?_<;>intro _<;>try exact w9o)|fail
    all_goals exact w9e
 ·rw [if_pos c1,if_neg c1]
  generalize acE l=e at *
  refine enT Tryz.func35 Tryz.ntmps35 fun v0=>?_
  repeat' first|refine w9x ?_|refine w9p (hC) ?_|(refine w9c ?_ ?_<;>intro _<;>try exact w9o)|fail
  all_goals exact w9e
def mid(l:List Ac)(d:Dl)(w:Str)(k:Nat):List Ac:=(l.take k).map (fun a=>if3 d w (if2 d (if1 d a)))++l.drop k
theorem mid_len{l:List Ac}{d:Dl}{w:Str}{k:Nat}(hk:k≤l.length):(mid l d w k).length=l.length:=by
 unfold mid;rw [List.length_append,List.length_map,List.length_take,List.length_drop];omega
theorem mid_get{l:List Ac}{d:Dl}{w:Str}{k:Nat}(hk:k<l.length):(mid l d w k)[k]?=some l[k]:=by
 unfold mid
 rw [List.getElem?_append_right (by rw [List.length_map,List.length_take];omega),List.length_map,List.length_take,List.getElem?_drop,List.getElem?_eq_getElem (by omega)]
 congr 2;omega
theorem mid_succ{l:List Ac}{d:Dl}{w:Str}{k:Nat}(hk:k<l.length):mid l d w (k+1)=(mid l d w k).set k (if3 d w (if2 d (if1 d l[k]))):=by
 unfold mid
 rw [List.take_succ_eq_append_getElem hk,List.map_append,List.append_assoc,List.drop_eq_getElem_cons hk,List.set_append_right _ _ (by rw [List.length_map,List.length_take];omega),List.length_map,List.length_take,show k-min k l.length=0 by omega]
 rfl
theorem mid_end{l:List Ac}{d:Dl}{w:Str}:mid l d w l.length=tkM l d w:=by
 unfold mid tkM;rw [List.take_length,List.drop_length,List.append_nil]
theorem set_same{α:Type}{X:List α}{k:Nat}{a:α}(h:X[k]?=some a):X.set k a=X:=by
 refine List.ext_getElem? fun i=>?_
 rw [List.getElem?_set]
 by_cases e:k=i
 ·subst e;rw [if_pos rfl,if_pos (List.getElem?_eq_some_iff.1 h).1,h]
 ·rw [if_neg e]
theorem gs1{α:Type}{X:List α}{k:Nat}{x:α}(h:k<X.length):(X.set k x)[k]?=some x:=List.getElem?_set_self h
theorem gs2{α:Type}{X:List α}{k:Nat}{x y:α}(h:k<X.length):((X.set k y).set k x)[k]?=some x:=gs1 (by rw [List.length_set];exact h)
theorem gs3{α:Type}{X:List α}{k:Nat}{x y z:α}(h:k<X.length):(((X.set k z).set k y).set k x)[k]?=some x:=gs2 (by rw [List.length_set];exact h)
theorem takeOf_spec(l:List Ac)(d:Dl)(w:Str)(hL:AcL l)(h1:d.1.length≤9223372036854775807)(h2:d.2.1.length≤9223372036854775807):FnSpec Sy.P 89 [.sl false 3 (l.map acA),dlA d,.str w] [.sl false 3 (l.map acA),dlA d,.str w] (resA (tkM l d w) (tkE l d w)):=by
 have hC:=accErr_spec l hL
 have hR:=dealErr_spec d h1 h2
 have hCr:=acE_range l
 have hRr:=dlE_range d
 unfold tkE resA
 by_cases c1:acE l=0
 ·have hok:=acE_ok c1
  rw [c1] at hC
  rw [if_neg (not_not_intro c1)]
  by_cases c2:dlE d=0
  ·have hdk:=dlE_ok c2
   rw [c2] at hR
   rw [if_neg (not_not_intro c2)]
   have hl6:=hok.len
   have k1:=hdk.num;have k2:=hdk.much;have k3:=hdk.fee
   refine enT Tryz.func89 Tryz.ntmps89 fun v0=>?_
   repeat' first|refine w9x ?_|refine w9p (hC) ?_|refine w9p (hR) ?_|(refine w9c ?_ ?_<;>intro _<;>try exact w9o)|fail
   all_goals first|(exfalso;omega)|(exfalso;contradiction)|skip
   refine CW.loop (fun k:Nat=>[(0,.av (.sl false 3 (l.map acA))),(2,.av (.str w)),(4,.av (.pt true [.str d.1,.str d.2.1,.int d.2.2.1,.int d.2.2.2.1,.int d.2.2.2.2.1,.int d.2.2.2.2.2.1])),(28,.av (.sl true 1 ([d.1,d.2.1,w].map AV.str))),(29,.av (.int (3))),(30,.av (.int (k)))]) (fun k=>k≤3∧∀ (j:Nat) s,j<k→[d.1,d.2.1,w][j]?=some s→0≤fA l s) (fun k=>3-k) (0) ?_ (w9a) ?_
   ·exact⟨Nat.zero_le _,fun j s hj=>absurd hj (Nat.not_lt_zero _)⟩
   intro k ⟨hk,hall⟩
   by_cases hlt:k<3
   ·have hx:[d.1,d.2.1,w][k]?=some ([d.1,d.2.1,w][k]'hlt):=List.getElem?_eq_getElem hlt
    have hm:[d.1,d.2.1,w][k]'hlt∈[d.1,d.2.1,w]:=List.getElem_mem _
    generalize [d.1,d.2.1,w][k]'hlt=s at hx hm
    have hF:=accOf_spec l s hL.len
    have hr:=fA_range l s
    by_cases hn:fA l s<0
    ·have c3:fA l d.1<0∨fA l d.2.1<0∨fA l w<0:=by
      simp only [List.mem_cons,List.mem_nil_iff,or_false] at hm
      rcases hm with rfl|rfl|rfl
      ·exact .inl hn
      ·exact .inr (.inl hn)
      ·exact .inr (.inr hn)
     rw [if_pos c3,if_neg (by decide)]
     repeat' first|refine w9x ?_|refine w9p (hF) ?_|(refine w9c ?_ ?_<;>intro _<;>try exact w9o)|fail
     all_goals exact w9e
    ·repeat' first|refine w9x ?_|refine w9p (hF) ?_|(refine w9c ?_ ?_<;>intro _<;>try exact w9o)|fail
     all_goals try exact w9o
     refine⟨k+1,?_,w9n,w9a⟩
     refine⟨by omega,fun j s' hj hs=>?_⟩
     by_cases hjk:j=k
     ·subst hjk
      rw [hx] at hs;cases hs;omega
     ·exact hall j s' (by omega) hs
   obtain rfl:k=3:=by omega
   have a1:=hall 0 d.1 (by omega) rfl
   have a2:=hall 1 d.2.1 (by omega) rfl
   have a3:=hall 2 w (by omega) rfl
   have c3:¬ (fA l d.1<0∨fA l d.2.1<0∨fA l w<0):=by omega
   rw [if_neg c3]
   have hF1:=accOf_spec l d.1 hL.len
   obtain⟨i,hi,e1,n1⟩:=fA_at (l:=l) (s:=d.1) (by omega)
   have ga:l[i]?=some l[i]:=List.getElem?_eq_getElem hi
   rw [e1] at hF1 ⊢
   rw [Int.toNat_natCast,getD_at ga]
   have m1:=hok.mo _ (List.getElem_mem hi)
   have m2:=hok.nu _ (List.getElem_mem hi)
   generalize l[i]=a at ga n1 m1 m2 ⊢
   by_cases c4:d.2.2.1≠a.2.2.1
   ·rw [if_pos c4,if_neg (by decide)]
    repeat' first|refine w9x ?_|refine w9p (hF1) ?_|(refine w9c ?_ ?_<;>intro _<;>try exact w9o)|fail
    all_goals exact w9e
   rw [if_neg c4]
   by_cases c5:a.2.1<d.2.2.2.1+d.2.2.2.2.1
   ·rw [if_pos c5,if_neg (by decide)]
    repeat' first|refine w9x ?_|refine w9p (hF1) ?_|(refine w9c ?_ ?_<;>intro _<;>try exact w9o)|fail
    all_goals exact w9e
   rw [if_neg c5]
   have hCl:=cloneAc_spec l (by omega)
   repeat' first|refine w9x ?_|refine w9p (hF1) ?_|refine w9p (hCl) ?_|(refine w9c ?_ ?_<;>intro _<;>try exact w9o)|fail
   all_goals try exact w9o
   refine CW.loop (fun k:Nat=>[(2,.av (.str w)),(4,.av (.pt true [.str d.1,.str d.2.1,.int d.2.2.1,.int d.2.2.2.1,.int d.2.2.2.2.1,.int d.2.2.2.2.2.1])),(12,.av (.sl true 3 ((mid l d w k).map acA))),(64,.av (.int (l.length))),(65,.av (.int (k)))]) (fun k=>k≤l.length) (fun k=>l.length-k) (0) ?_ (w9a) ?_
   ·exact Nat.zero_le _
   intro k hk
   by_cases hlt:k<l.length
   ·have hX:=mid_get (d:=d) (w:=w) hlt
    have hS:=mid_succ (d:=d) (w:=w) hlt
    have hXl:=mid_len (d:=d) (w:=w) hk
    have hXk:k<(mid l d w k).length:=by rw [hXl];exact hlt
    have m3:=hok.mo _ (List.getElem_mem hlt)
    have m4:=hok.nu _ (List.getElem_mem hlt)
    generalize l[k]=b at hX hS m3 m4
    generalize mid l d w k=X at hX hS hXl hXk ⊢
    have g1:(X.set k (b.1,b.2.1,b.2.2.1+1,()))[k]?=some (b.1,b.2.1,b.2.2.1+1,()):=gs1 hXk
    have g2:((X.set k (b.1,b.2.1,b.2.2.1+1,())).set k (b.1,b.2.1-(d.2.2.2.1+d.2.2.2.2.1),b.2.2.1+1,()))[k]?=some (b.1,b.2.1-(d.2.2.2.1+d.2.2.2.2.1),b.2.2.1+1,()):=gs2 hXk
    have g3:(((X.set k (b.1,b.2.1,b.2.2.1+1,())).set k (b.1,b.2.1-(d.2.2.2.1+d.2.2.2.2.1),b.2.2.1+1,())).set k (b.1,b.2.1-(d.2.2.2.1+d.2.2.2.2.1)+d.2.2.2.1,b.2.2.1+1,()))[k]?=some (b.1,b.2.1-(d.2.2.2.1+d.2.2.2.2.1)+d.2.2.2.1,b.2.2.1+1,()):=gs3 hXk
    have g4:(X.set k (b.1,b.2.1+d.2.2.2.1,b.2.2.1,()))[k]?=some (b.1,b.2.1+d.2.2.2.1,b.2.2.1,()):=gs1 hXk
    repeat' first|((with_reducible apply J.eff);rfl;(exact e_stMo rfl rfl (by assumption) rfl rfl rfl))|((with_reducible apply J.eff);rfl;(exact e_stNu rfl rfl (by assumption) rfl rfl rfl))|refine w9x ?_|(refine w9c ?_ ?_<;>intro _<;>try exact w9o)|fail
    all_goals first|(exfalso;omega)|(exfalso;contradiction)|skip
    all_goals by_cases b1:b.1=d.1
    all_goals by_cases b2:b.1=d.2.1
    all_goals by_cases b3:b.1=w
    all_goals first|(exfalso;contradiction)|skip
    all_goals first|have q1:=eq_false b1|have q1:=eq_true b1
    all_goals first|have q2:=eq_false b2|have q2:=eq_true b2
    all_goals first|have q3:=eq_false b3|have q3:=eq_true b3
    all_goals (
     refine⟨k+1,?_,w9n,by(repeat' (first|exact w9b|refine And.intro ?_ ?_|(refine map_congr' ?_;rw [hS];simp only [Int.toNat_natCast,List.set_set,if1,if2,if3,pay1,pay2,pay3,q1,q2,q3,if_true,if_false,ite_true,ite_false];try exact(set_same hX).symm)))⟩)
    all_goals omega
   ·obtain rfl:k=l.length:=by omega
    rw [mid_end]
    have hC2:=accErr_spec (tkM l d w) (tkM_L hL)
    have hC2r:=acE_range (tkM l d w)
    by_cases c6:acE (tkM l d w)≠0
    ·rw [if_pos c6,if_neg (by decide)]
     generalize acE (tkM l d w)=e6 at *
     repeat' first|refine w9x ?_|refine w9p (hC2) ?_|(refine w9c ?_ ?_<;>intro _<;>try exact w9o)|fail
     all_goals exact w9e
    ·rw [if_neg c6,if_pos rfl]
     rw [Classical.not_not.1 c6] at hC2
     repeat' first|refine w9x ?_|refine w9p (hC2) ?_|(refine w9c ?_ ?_<;>intro _<;>try exact w9o)|fail
     all_goals exact w9e
  ·rw [if_pos c2,if_neg c2]
   generalize dlE d=e at *
   refine enT Tryz.func89 Tryz.ntmps89 fun v0=>?_
   repeat' first|refine w9x ?_|refine w9p (hC) ?_|refine w9p (hR) ?_|(refine w9c ?_ ?_<;>intro _<;>try exact w9o)|fail
   all_goals exact w9e
 ·rw [if_pos c1,if_neg c1]
  generalize acE l=e at *
  refine enT Tryz.func89 Tryz.ntmps89 fun v0=>?_
  repeat' first|refine w9x ?_|refine w9p (hC) ?_|refine w9p (hR) ?_|(refine w9c ?_ ?_<;>intro _<;>try exact w9o)|fail
  all_goals exact w9e
end Go.Proofs.YtkkcnppgcnmikaaGreatDoor
