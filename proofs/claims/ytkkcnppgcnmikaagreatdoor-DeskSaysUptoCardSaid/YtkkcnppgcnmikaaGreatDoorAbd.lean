/- small laws for the walk's words -/
import Derived.Test.YtkkcnppgcnmikaaGreatDoorAbc
namespace FM
open Go
theorem InR.mk{n:Int}(h:-9223372036854775808≤n∧n≤9223372036854775807):InR n:=h
theorem get_map{α:Type}{f:α→AV}{l:List α}{i:Nat}{a:α}(h:l[i]?=some a):(l.map f)[i]?=some (f a):=by rw [List.getElem?_map,h];rfl
section
variable {K:St→Prop} {Q:Exit→St→Prop} {σ:St}
theorem thenQ_n(h:K σ):thenQ K Q .normal σ:=h
theorem thenQ_x{i:Nat}(h:Q (.exit i) σ):thenQ K Q (.exit i) σ:=h
theorem thenQ_r(h:Q .ret σ):thenQ K Q .ret σ:=h
theorem blockQ_n{id:Nat}(h:Q .normal σ):blockQ id Q .normal σ:=h
theorem blockQ_r{id:Nat}(h:Q .ret σ):blockQ id Q .ret σ:=h
theorem blockQ_e{id i:Nat}(hi:Nat.beq i id=true)(h:Q .normal σ):blockQ id Q (.exit i) σ:=by simp only [blockQ,hi];exact h
theorem blockQ_x{id i:Nat}(hi:Nat.beq i id=false)(h:Q (.exit i) σ):blockQ id Q (.exit i) σ:=by simp only [blockQ,hi];exact h
end
def gslot(ops:Array Oper):Option (Nat×Bool)→Option Nat
 | none=>none
 | some (j,_)=>(ops[j]?).bind (·.dst)
section
variable {S:Sys} {N:Nat} {σ:St} {q:Bool} {ops:Array Oper} {l:List Oper} {K:St→Prop} {o:Oper} {t:Nat}
theorem J.splitG{p:Prop}{inst:Decidable p}(_hg:gslot ops o.guard=some t)(ht:get σ t=.av (.bool (decide p)))(h1:p→J q S N ops (o::l) K (σ.upd true t (.av (.bool true))))(h2:¬ p→J q S N ops (o::l) K (σ.upd true t (.av (.bool false)))):J q S N ops (o::l) K σ :=
 .splitD ht (fun h σ' e=>by subst e;exact h1 h) (fun h σ' e=>by subst e;exact h2 h)
theorem J.splitB{b:Bool}(_hg:gslot ops o.guard=some t)(ht:get σ t=.av (.bool b))(h1:b=true→J q S N ops (o::l) K (σ.upd true t (.av (.bool true))))(h2:b=false→J q S N ops (o::l) K (σ.upd true t (.av (.bool false)))):J q S N ops (o::l) K σ :=
 .split ht (fun h σ' e=>by subst e;exact h1 h) (fun h σ' e=>by subst e;exact h2 h)
end
theorem ints_congr{o:Bool}{c:Nat}{l l':List Int}(h:l=l'):TV.av (.sl o c (l.map .int))=.av (.sl o c (l'.map .int)):=by rw [h]
theorem map_congr'{α:Type}{f:α→AV}{o:Bool}{c:Nat}{l l':List α}(h:l=l'):TV.av (.sl o c (l.map f))=.av (.sl o c (l'.map f)):=by rw [h]
theorem int_congr{n n':Int}(h:n=n'):TV.av (.int n)=.av (.int n'):=by rw [h]
theorem noSh_ints{c:Nat}{l:List Int}:NoSh (.sl true c (l.map .int)):=.sl fun x hx=>by obtain⟨n,_,rfl⟩:=List.mem_map.1 hx;exact .int
theorem same_args{S:Sys}{σ:St}:∀ {xs9:List AV},(xs9.all fun x=>!x.isOwn)=true→∀ (i:Nat) (x y:AV),xs9[i]?=some x→xs9[i]?=some y→(x.isOwn=false∧y=x)∨(S.M i=true∧(get σ i=.av y∨y=.dead)):=fun{xs9} h i x y hx hy=>by
 rw [hx] at hy;injection hy with hy;subst hy
 exact .inl ⟨by simpa using List.all_eq_true.1 h x (List.mem_of_getElem? hx),rfl⟩
theorem Ret.mk{S:Sys}{rvs:List ResultVar}{xs9:List AV}{rs:List AV}{r:AV}{σ:St}(hr:resL S σ rvs=some rs)(hp:r=pack rs)(hs:(xs9.all fun x=>!x.isOwn)=true):Ret S rvs xs9 xs9 r .ret σ :=
 ⟨rfl,⟨rs,hr,hp▸.refl _⟩,rfl,same_args hs⟩
theorem Ret.mkL{S:Sys}{rvs:List ResultVar}{xs9:List AV}{rs:List AV}{r:AV}{σ:St}(hr:resL S σ rvs=some rs)(hp:AV.le (pack rs) r)(hs:(xs9.all fun x=>!x.isOwn)=true):Ret S rvs xs9 xs9 r .ret σ :=
 ⟨rfl,⟨rs,hr,hp⟩,rfl,same_args hs⟩
theorem le_tup2{a b c d:AV}(h1:AV.le a c)(h2:AV.le b d):AV.le (.tup [a,b]) (.tup [c,d]):=.tup rfl fun i x y hx hy=>by
 match i with
 | 0=>simp only [List.getElem?_cons_zero,Option.some.injEq] at hx hy;subst hx;subst hy;exact h1
 | 1=>simp only [List.getElem?_cons_succ,List.getElem?_cons_zero,Option.some.injEq] at hx hy;subst hx;subst hy;exact h2
 | i+2=>simp at hx
theorem e_lit{S:Sys}{σ:St}{t e c:Nat}{sz by_:Nat}{zz:List AV}{ti:TI}{ys:List AV}{n d ty:Nat}{ps:Array (Nat×Operand)}{pos:String}{aft:Array Edge}{g:Option (Nat×Bool)}(hT:S.T t=some ⟨.slice e,sz,by_,zz⟩)(hE:S.T e=some ti)(hc:ti.size=c)
  (hps:ps=((ps.toList.map (·.2)).zipIdx.map fun p=>(p.2,p.1)).toArray) (hn:(ps.toList.map (·.2)).length=n) (hp:PartsOk σ (ps.toList.map (·.2)) ys) (hok:ys.all (fun y=>y.varOk&&Nat.beq y.cells.length c)=true) (hb:Nat.ble (n*c) 16777216=true) :
  EStep S ⟨some d,.buildSlice t n ps,ty,pos,aft,g⟩ σ (σ.put d (.av (.sl true c ys))):=e_bls hT hE hc hps hn hp hok hb
theorem CW.cutB{S:Sys}{N:Nat}{σ:St}{Q:Exit→St→Prop}{c y:Code}{id:Nat}(I:List (Nat×TV))(h1:CW S N c (fun e σ'=>e=.normal∧Has σ' I) σ)(h2:CW S N y Q (ofL I)):CW S N c (blockQ id (thenQ (CW S N y Q) Q)) σ :=
 h1.mono fun e σ' ⟨he,hI⟩=>by subst he;exact CW.has I hI h2
section
variable {S:Sys} {N:Nat} {σ:St} {P:Program} {f:Nat} {xs9:List AV} {r:AV} {xs:List Operand} {b:Bool} {ops:Array Oper} {l:List Oper} {K:St→Prop} {d ty:Nat} {ts:Array Nat} {pos:String} {aft:Array Edge} {g:Option (Nat×Bool)}
theorem J.callP(hs:FnSpec P f xs9 xs9 r)(hP:P=S.P)(hg:live ops g σ=some true)(ha:ArgsOk S N σ xs b xs9)(hb:b=true→NoSh r)(h:J false S N ops l K (σ.put d (.av r))) :
  J false S N ops (⟨some d,.call ⟨.value (.func f),xs.toArray,ts⟩,ty,pos,aft,g⟩::l) K σ:=by subst hP;exact J.call hs hg ha hb h
theorem J.callPQ(hs:FnSpec P f xs9 xs9 r)(hP:P=S.P)(hg:live ops g σ=some true)(ha:ArgsOk S N σ xs b xs9)(hr:r.flatPlain=true)(h:J true S N ops l K (σ.put d (.av r))) :
  J true S N ops (⟨some d,.call ⟨.value (.func f),xs.toArray,ts⟩,ty,pos,aft,g⟩::l) K σ:=by subst hP;exact J.callQ hs hg ha hr h
end
def Oper.noEff(o:Oper):Bool:=match o.op with
 | .store ..|.buildSlice ..|.makeSlice ..|.alloc ..|.box ..|.makeMap ..|.mapUpdate ..=>false
 | .call c=>match c.callee with
  | .builtin .append|.builtin .copy|.builtin .clear|.builtin .delete=>false
  | _=>true
 | _=>true
theorem CW.regQN{S:Sys}{N:Nat}{Q:Exit→St→Prop}{σ:St}{id:Nat}{l:List Oper}(_hn:l.all Oper.noEff=true)(hB:Region.lexB .any l.toArray=true)(hd:dstOk S N l=true)(h:J true S N l.toArray l (Q .normal) σ):CW S N (.region id l.toArray true) Q σ:=.regQ hB hd h
theorem s_notD{S:Sys}{σ:St}{d ty t:Nat}{pos:String}{aft:Array Edge}{g:Option (Nat×Bool)}{x:Operand}{p:Prop}{inst:Decidable p}(hx:ov σ x=.av (.bool (decide p))):Step S ⟨some d,.unOp .not t x,ty,pos,aft,g⟩ σ (σ.put d (.av (.bool (decide (¬ p))))):=by
 rw [decide_not];exact s_not hx
def accW(g:Nat→Nat→Int)(n s i:Nat):List Int:=(List.range n).map fun j=>((List.range (if j<i then s+1 else s)).map fun s'=>g s' j).sum
theorem accW_length(g:Nat→Nat→Int)(n s i:Nat):(accW g n s i).length=n:=by simp [accW]
theorem accW_get{g:Nat→Nat→Int}{n s i j:Nat}(h:j<n):(accW g n s i)[j]?=some ((List.range (if j<i then s+1 else s)).map fun s'=>g s' j).sum:=by
 simp [accW,h]
theorem accW_at{g:Nat→Nat→Int}{n s i:Nat}(h:i<n):(accW g n s i)[i]?=some ((List.range s).map fun s'=>g s' i).sum:=by
 rw [accW_get h,if_neg (Nat.lt_irrefl _)]
theorem accW_succ{g:Nat→Nat→Int}{n s i:Nat}(h:i<n){v:Int}(hv:v=g s i):(accW g n s i).set i (((List.range s).map fun s'=>g s' i).sum+v)=accW g n s (i+1):=by
 subst hv
 apply List.ext_getElem?
 intro j
 rw [List.getElem?_set]
 by_cases hij:i=j
 ·subst hij
  rw [if_pos rfl,accW_length,if_pos h,accW_get h,if_pos (Nat.lt_succ_self _),List.range_succ,List.map_append,List.sum_append]
  simp
 ·rw [if_neg hij]
  by_cases hj:j<n
  ·rw [accW_get hj,accW_get hj]
   have:(j<i)=(j<i+1):=by apply propext;omega
   simp only [this]
  ·rw [List.getElem?_eq_none (by rw [accW_length];omega),List.getElem?_eq_none (by rw [accW_length];omega)]
theorem set_same{α:Type}{l:List α}{i:Nat}{v:α}(h:l[i]?=some v):l.set i v=l:=by
 apply List.ext_getElem?
 intro j
 rw [List.getElem?_set]
 split
 ·rename_i e;subst e
  rw [if_pos (List.getElem?_eq_some_iff.1 h).1,h]
 ·rfl
theorem accW_skip{g:Nat→Nat→Int}{n s i:Nat}(h:i<n)(hv:g s i=0):accW g n s i=accW g n s (i+1):=by
 rw [← accW_succ h hv.symm,Int.add_zero]
 exact(set_same (accW_at h)).symm
theorem accW_end{g:Nat→Nat→Int}{n s:Nat}:accW g n s n=accW g n (s+1) 0:=by
 unfold accW
 refine List.map_congr_left fun j hj=>?_
 rw [if_pos (List.mem_range.1 hj),if_neg (Nat.not_lt_zero _)]
theorem accW_zero{g:Nat→Nat→Int}{n:Nat}:List.replicate n (0:Int)=accW g n 0 0:=by
 unfold accW
 apply List.ext_getElem?
 intro j
 by_cases hj:j<n<;>simp [hj]
theorem sum_range_bound{f:Nat→Int}{m:Int}:∀ s:Nat,(∀ k,k<s→0≤f k∧f k≤m)→0≤((List.range s).map f).sum∧((List.range s).map f).sum≤m*s
 | 0,_=>by simp
 | s+1,h=>by
  have ih:=sum_range_bound s fun k hk=>h k (by omega)
  have h1:=h s (by omega)
  rw [List.range_succ,List.map_append,List.sum_append]
  simp only [List.map_cons,List.map_nil,List.sum_cons,List.sum_nil]
  have:m*((s+1:Nat):Int)=m*s+m:=by rw [Int.natCast_add,Int.mul_add];simp
  omega
/-! ### the walk's words, laid once: what shows one operation's law -/
theorem w9t{a b:TV}(h:a=b):a=b:=h
theorem w9u{a b:Option TI}(h:a=b):a=b:=h
theorem w9l{p:Prop}(h:p:=by first|rfl|((fail_if_success (with_reducible refine w9t ?_));(fail_if_success (with_reducible refine w9u ?_));first|assumption|exact get_map (by assumption)|exact get_setD (by first|assumption|(simp only [List.length_map];omega))|omega|exact InR.mk (by omega)|exact InR.mk (by dsimp only;omega)|exact AV.noConfusion|exact FlatOk.int|exact CellsOk.int|exact CellsOk.lit rfl|exact FlatOk.map (fun _=>rfl)|exact CellsOk.map (fun _=>rfl)|exact of_decide_eq_true rfl|(simp only [List.length_append,List.length_set,List.length_map,List.length_cons,List.length_nil,List.length_take,List.length_drop,List.length_replicate] at *;omega))|fail):p:=h
theorem w9m{p:Prop}(h:p:=by first|exact(rfl:_=TV.av _)|rfl|fail):p:=h
theorem w9o{p:Prop}(h:False:=by first|omega|fail):p:=h.elim
theorem w9s{p:Prop}(h:False:=by first|(simp only [decide_eq_true_eq,decide_eq_false_iff_not,Bool.and_eq_true,Bool.or_eq_true] at *;omega)|fail):p:=h.elim
theorem w9a{p:Prop}(h:p:=by(repeat' (first|exact w9b|refine And.intro ?_ ?_))):p:=h
theorem st{S:Sys}{o:Oper}{σ σ':St}(h:Step S o σ σ':=by(first|((with_reducible apply s_mov)<;>exact w9m)|((with_reducible apply s_asg)<;>exact w9m)|((with_reducible apply s_movO)<;>exact w9l)|((with_reducible apply s_movR)<;>exact w9l)|((with_reducible apply s_asgR)<;>exact w9l)|((with_reducible apply s_asgO)<;>exact w9l)|((with_reducible apply s_ldD)<;>exact w9l)|((with_reducible apply s_ldP)<;>exact w9l)|((with_reducible apply s_ldF)<;>exact w9l)|((with_reducible apply s_ldR)<;>exact w9l)|((with_reducible apply s_ldB)<;>exact w9l)|((with_reducible apply s_ldRow)<;>exact w9l)|((with_reducible apply s_ixaS)<;>exact w9l)|((with_reducible apply s_ixaO)<;>exact w9l)|((with_reducible apply s_ixaB)<;>exact w9l)|((with_reducible apply s_ixaR)<;>exact w9l)|((with_reducible apply s_lss)<;>exact w9l)|((with_reducible apply s_leq)<;>exact w9l)|((with_reducible apply s_gtr)<;>exact w9l)|((with_reducible apply s_geq)<;>exact w9l)|((with_reducible apply s_eql)<;>exact w9l)|((with_reducible apply s_eqlB)<;>exact w9l)|((with_reducible apply s_eqNN)<;>exact w9l)|((with_reducible apply s_eqNilF)<;>exact w9l)|((with_reducible apply s_neq)<;>exact w9l)|((with_reducible apply s_add)<;>exact w9l)|((with_reducible apply s_sub)<;>exact w9l)|((with_reducible apply s_mul)<;>exact w9l)|((with_reducible apply s_lenM)<;>exact w9l)|((with_reducible apply s_lenS)<;>exact w9l)|((with_reducible apply s_lenN)<;>exact w9l)|((with_reducible apply s_lenStr)<;>exact w9l)|((with_reducible apply s_extP)<;>exact w9l)|((with_reducible apply s_extO)<;>exact w9l)|((with_reducible apply s_pickT)<;>exact w9m)|((with_reducible apply s_pickF)<;>exact w9m)|((with_reducible apply s_neg)<;>exact w9l)|((with_reducible apply s_notD)<;>exact w9l)|((with_reducible apply s_not)<;>exact w9l)|((with_reducible apply s_min)<;>exact w9l)|((with_reducible apply s_max)<;>exact w9l)|((with_reducible apply s_quo2)<;>exact w9l)|((with_reducible apply s_rem2)<;>exact w9l)|((with_reducible apply s_quo)<;>exact w9l)|((with_reducible apply s_rem)<;>exact w9l)|((with_reducible apply s_and1)<;>exact w9l)|((with_reducible apply s_andN)<;>exact w9l)|((with_reducible apply s_and)<;>exact w9l)|((with_reducible apply s_shl1)<;>exact w9l)|((with_reducible apply s_shl)<;>exact w9l)|((with_reducible apply s_shrN)<;>exact w9l)|((with_reducible apply s_shr)<;>exact w9l)|((with_reducible apply s_andNotN)<;>exact w9l)|((with_reducible apply s_andNot)<;>exact w9l)|((with_reducible apply s_xorN)<;>exact w9l)|((with_reducible apply s_xor)<;>exact w9l)|((with_reducible apply s_orN)<;>exact w9l)|((with_reducible apply s_ixaD)<;>exact w9l)|((with_reducible apply s_slcSlo)<;>exact w9l)|((with_reducible apply s_slcShi)<;>exact w9l)|((with_reducible apply s_slcSlh)<;>exact w9l)|((with_reducible apply s_slcRlo)<;>exact w9l)|((with_reducible apply s_slcRhi)<;>exact w9l)|((with_reducible apply s_fadO)<;>exact w9l)|((with_reducible apply s_fadR)<;>exact w9l)|((with_reducible apply s_fadD)<;>exact w9l)|((with_reducible apply s_fadS)<;>exact w9l)|((with_reducible apply s_fadP)<;>exact w9l)|((with_reducible apply s_ldO1)<;>exact w9l)|((with_reducible apply s_ldS1)<;>exact w9l)|((with_reducible apply s_ldOA)<;>exact w9l)|((with_reducible apply s_ixaA)<;>exact w9l)|((with_reducible apply s_strIx)<;>exact w9l)|((with_reducible apply s_strEq0)<;>exact w9l)|((with_reducible apply s_strNe0)<;>exact w9l)|((with_reducible apply s_strEq)<;>exact w9l)|((with_reducible apply s_strNe)<;>exact w9l)|((with_reducible apply s_strLt)<;>exact w9l)|((with_reducible apply s_strLe)<;>exact w9l)|((with_reducible apply s_strGt)<;>exact w9l)|((with_reducible apply s_strGe)<;>exact w9l)|((with_reducible apply s_strAdd)<;>exact w9l)|((with_reducible apply s_strLH)<;>exact w9l)|((with_reducible apply s_strLo)<;>exact w9l)|((with_reducible apply s_strHi)<;>exact w9l)|((with_reducible apply s_xor16c)<;>exact w9l)|((with_reducible apply s_xor16)<;>exact w9l)|((with_reducible apply s_shl16_8)<;>exact w9l)|((with_reducible apply s_shl16_1)<;>exact w9l)|((with_reducible apply s_shr16_15)<;>exact w9l)|((with_reducible apply s_shr16_8)<;>exact w9l)|((with_reducible apply s_shr8I)<;>exact w9l)|((with_reducible apply s_and81)<;>exact w9l)|((with_reducible apply s_quo16)<;>exact w9l)|((with_reducible apply s_rem16)<;>exact w9l)|((with_reducible apply s_cv8_16)<;>exact w9l)|((with_reducible apply s_cv8_64)<;>exact w9l)|((with_reducible apply s_cv16_8)<;>exact w9l)|((with_reducible apply s_cv64_8)<;>exact w9l)|((with_reducible apply s_cv64_16)<;>exact w9l)|((with_reducible apply s_cv64_64)<;>exact w9l)|((with_reducible apply s_eqlV)<;>exact w9l)|((with_reducible apply s_neqV)<;>exact w9l)|((with_reducible apply s_lssV)<;>exact w9l)|((with_reducible apply s_leqV)<;>exact w9l)|((with_reducible apply s_gtrV)<;>exact w9l)|((with_reducible apply s_geqV)<;>exact w9l)|((with_reducible apply s_str1)<;>exact w9l)|((with_reducible apply s_str2)<;>exact w9l)|((with_reducible apply s_nilR)<;>exact w9l)|((with_reducible apply s_nilS)<;>exact w9l)|((with_reducible apply s_arr)<;>(first|rfl|((repeat' (first|exact PartsOk.nil|(with_unfolding_all apply PartsOk.cons rfl rfl)));done)))|((with_reducible apply s_bldS)<;>(first|rfl|((repeat' (first|exact FillOk.nil|(with_unfolding_all apply FillOk.part rfl rfl rfl rfl)|apply FillOk.zero));done))))):Step S o σ σ':=h
theorem ef{S:Sys}{o:Oper}{σ σ':St}(h:EStep S o σ σ':=by(first|((with_reducible apply e_stI)<;>exact w9l)|((with_reducible apply e_stM)<;>exact w9l)|((with_reducible apply e_st)<;>exact w9l)|((with_reducible apply e_stOM)<;>exact w9l)|((with_reducible apply e_stOD)<;>exact w9l)|((with_reducible apply e_stO)<;>exact w9l)|((with_reducible apply e_stRI)<;>exact w9l)|((with_reducible apply e_alloc)<;>exact w9l)|((with_reducible apply e_box)<;>exact w9l)|((with_reducible apply e_stPt)<;>exact w9l)|((with_reducible apply e_stFM)<;>exact w9l)|((with_reducible apply e_stF)<;>exact w9l)|((with_reducible apply e_mksI)<;>exact w9l)|((with_reducible apply e_mks1)<;>exact w9l)|((with_reducible apply e_mksA)<;>exact w9l)|((with_reducible apply e_appOM)<;>exact w9l)|((with_reducible apply e_appBM)<;>exact w9l)|((with_reducible apply e_appSM)<;>exact w9l)|((with_reducible apply e_appO)<;>exact w9l)|((with_reducible apply e_appB)<;>exact w9l)|((with_reducible apply e_appS)<;>exact w9l)|((with_reducible apply e_litO)<;>exact w9l)|((with_reducible apply e_litR)<;>exact w9l)|((with_reducible apply e_toB)<;>exact w9l)|((with_reducible apply e_lit)<;>(first|rfl|((repeat' (first|exact PartsOk.nil|(with_unfolding_all apply PartsOk.cons rfl rfl)));done))))):EStep S o σ σ':=h
/-! ### the walk itself: a step on a way that does not part; a parting; a call by its contract -/
structure Wr(p:Prop):Prop where
 out:p
theorem w9j{A B:Prop}(g:B)(h:Wr B→A:=by intro g9;first|(((with_reducible apply J.step);rfl;exact FM.st);exact g9.out)|(((with_reducible apply J.eff);rfl;exact FM.ef);exact g9.out)|(with_reducible refine J.nil ?_;exact g9.out)|fail):A:=h ⟨g⟩
theorem w9x{A B:Prop}(g:B)(h:Wr B→A:=by intro g9;first|(((with_reducible apply J.step);rfl;exact FM.st);exact g9.out)|(((with_reducible apply J.eff);rfl;exact FM.ef);exact g9.out)|((refine J.takeRow rfl rfl AV.noConfusion rfl (by first|assumption|(simp only [List.length_map];omega)) ?_);exact g9.out)|(with_reducible refine J.nil ?_;exact g9.out)|(((with_reducible apply J.skipV);rfl;rfl;rfl);exact g9.out)|(((with_reducible apply J.skipU);rfl;rfl);exact g9.out)|(with_reducible refine CW.seq ?_;exact g9.out)|(with_reducible refine CW.block ?_;exact g9.out)|(((with_reducible refine CW.reg ?_ ?_);rfl);exact g9.out)|(((with_reducible refine CW.regQN ?_ ?_ ?_ ?_);rfl;kernel_rfl;rfl);exact g9.out)|(((with_reducible refine CW.regS 1 ?_ ?_ ?_);kernel_rfl;rfl;simp only [List.length_cons,List.length_nil,Nat.reduceAdd,Nat.reduceSub,List.take_succ_cons,List.take_zero,List.drop_succ_cons,List.drop_zero]);exact g9.out)|(with_reducible refine CW.skip ?_;exact g9.out)|(with_reducible refine CW.ret ?_;exact g9.out)|(with_reducible refine CW.exit ?_;exact g9.out)|(refine CW.condT rfl ?_;exact g9.out)|(refine CW.condF rfl ?_;exact g9.out)|(with_reducible refine thenQ_n ?_;exact g9.out)|(with_reducible refine blockQ_n ?_;exact g9.out)|(((with_reducible refine blockQ_e ?_ ?_);rfl);exact g9.out)|(((with_reducible refine blockQ_x ?_ ?_);rfl);exact g9.out)|(with_reducible refine blockQ_r ?_;exact g9.out)|(with_reducible refine thenQ_x ?_;exact g9.out)|(with_reducible refine thenQ_r ?_;exact g9.out)|fail):A:=h ⟨g⟩
theorem w9y{A B:Prop}(g:B)(h:Wr B→A:=by intro g9;first|(((with_reducible apply J.step);rfl;exact FM.st);exact g9.out)|(((with_reducible apply J.eff);rfl;exact FM.ef);exact g9.out)|((refine J.takeRow rfl rfl AV.noConfusion rfl (by first|assumption|(simp only [List.length_map];omega)) ?_);exact g9.out)|(with_reducible refine J.nil ?_;exact g9.out)|(((with_reducible apply J.skipV);rfl;rfl;rfl);exact g9.out)|(((with_reducible apply J.skipU);rfl;rfl);exact g9.out)|(with_reducible refine CW.seq ?_;exact g9.out)|(with_reducible refine CW.block ?_;exact g9.out)|(((with_reducible refine CW.reg ?_ ?_);rfl);exact g9.out)|(((with_reducible refine CW.regQN ?_ ?_ ?_ ?_);rfl;kernel_rfl;rfl);exact g9.out)|(with_reducible refine CW.skip ?_;exact g9.out)|(with_reducible refine CW.ret ?_;exact g9.out)|(with_reducible refine CW.exit ?_;exact g9.out)|(refine CW.condT rfl ?_;exact g9.out)|(refine CW.condF rfl ?_;exact g9.out)|(with_reducible refine thenQ_n ?_;exact g9.out)|(with_reducible refine blockQ_n ?_;exact g9.out)|(((with_reducible refine blockQ_e ?_ ?_);rfl);exact g9.out)|(((with_reducible refine blockQ_x ?_ ?_);rfl);exact g9.out)|(with_reducible refine blockQ_r ?_;exact g9.out)|(with_reducible refine thenQ_x ?_;exact g9.out)|(with_reducible refine thenQ_r ?_;exact g9.out)|fail):A:=h ⟨g⟩
theorem w9z{A B:Prop}(g:B)(h:Wr B→A:=by intro g9;first|(((with_reducible apply J.step);rfl;exact FM.st);exact g9.out)|(((with_reducible apply J.eff);rfl;exact FM.ef);exact g9.out)|((refine J.takeRow rfl rfl AV.noConfusion rfl (by first|assumption|(simp only [List.length_map];omega)) ?_);exact g9.out)|(with_reducible refine J.nil ?_;exact g9.out)|(((with_reducible apply J.skipV);rfl;rfl;rfl);exact g9.out)|(((with_reducible apply J.skipU);rfl;rfl);exact g9.out)|(with_reducible refine CW.seq ?_;exact g9.out)|(with_reducible refine CW.block ?_;exact g9.out)|(((with_reducible refine CW.reg ?_ ?_);rfl);exact g9.out)|(with_reducible refine CW.skip ?_;exact g9.out)|(with_reducible refine CW.ret ?_;exact g9.out)|(with_reducible refine CW.exit ?_;exact g9.out)|(refine CW.condT rfl ?_;exact g9.out)|(refine CW.condF rfl ?_;exact g9.out)|(with_reducible refine thenQ_n ?_;exact g9.out)|(with_reducible refine blockQ_n ?_;exact g9.out)|(((with_reducible refine blockQ_e ?_ ?_);rfl);exact g9.out)|(((with_reducible refine blockQ_x ?_ ?_);rfl);exact g9.out)|(with_reducible refine blockQ_r ?_;exact g9.out)|(with_reducible refine thenQ_x ?_;exact g9.out)|(with_reducible refine thenQ_r ?_;exact g9.out)|fail):A:=h ⟨g⟩
theorem w9q{A B:Prop}(g:B)(h:Wr B→A:=by intro g9;first|((with_reducible apply J.eqNil);rfl;rfl;rfl;rfl;exact g9.out)|fail):A:=h ⟨g⟩
theorem w9c{A B C:Prop}(b:B)(c:C)(h:Wr B→Wr C→A:=by intro a9 b9;first|exact CW.condD rfl a9.out b9.out|(((fail_if_success ((with_reducible apply J.step);rfl));(fail_if_success ((with_reducible apply J.skipU);rfl));exact J.splitG rfl rfl a9.out b9.out))|fail):A:=h ⟨b⟩ ⟨c⟩
theorem w9d{A B C:Prop}(b:B)(c:C)(h:Wr B→Wr C→A:=by intro a9 b9;first|exact CW.cond rfl a9.out b9.out|(((fail_if_success ((with_reducible apply J.step);rfl));(fail_if_success ((with_reducible apply J.skipU);rfl));exact J.splitB rfl rfl a9.out b9.out))|fail):A:=h ⟨b⟩ ⟨c⟩
theorem w9p{A B:Prop}{P:Program}{f:Nat}{xs9 ys9:List AV}{r:AV}(hs:FnSpec P f xs9 ys9 r)(g:B)(h:FnSpec P f xs9 ys9 r→Wr B→A:=by intro hs9 g9;first|((with_reducible first|apply J.callP hs9|apply J.callPQ hs9);rfl;rfl;exact w9A;(first|rfl|exact gn0|exact gnI);exact g9.out)|fail):A:=h hs ⟨g⟩
structure K9(f i:Nat):Prop
structure K92(f i j:Nat):Prop
structure K93(f i j k:Nat):Prop
theorem w9e{p:Prop}(h:p:=by first|(exfalso;omega)|(exfalso;contradiction)|exact .mk rfl rfl rfl|exact⟨rfl,⟨_,rfl,.refl _⟩,rfl,args_start (args_mu rfl rfl (by repeat' (first|exact args_nil|refine args_pl rfl ?_)))⟩|(exfalso;simp only [List.length_cons] at *;omega)|fail):p:=h
theorem w9g{p:Prop}(h:p:=by first|((refine⟨by first|rfl|trivial,?_⟩);(repeat' (first|exact trivial|rfl|refine And.intro ?_ ?_|exact int_congr (by omega)));done)|fail):p:=h
theorem w9S{L A B:Prop}(l:L)(g:B)(h:L→Wr B→A:=by intro l9 g9;first|(((with_reducible apply J.step);rfl;((with_reducible apply l9)<;>rfl));exact g9.out)|fail):A:=h l ⟨g⟩
theorem w9E{L A B:Prop}(l:L)(g:B)(h:L→Wr B→A:=by intro l9 g9;first|(((with_reducible apply J.eff);rfl;((with_reducible apply l9)<;>rfl));exact g9.out)|fail):A:=h l ⟨g⟩
theorem w9A{p:Prop}(h:p:=by first|((repeat' (first|exact ArgsOk.nil|apply ArgsOk.cons|exact ArgOk.pl rfl rfl|exact ArgOk.br rfl AV.noConfusion (by first|rfl|exact sh_int|exact sh_rows|exact sh_rowsO|exact sh_box|exact sh_map (fun _=>rfl))));done)|fail):p:=h
theorem w9b{p:Prop}(h:p:=by first|exact trivial|rfl|exact int_congr (by omega)|exact int_congr (by dsimp only;omega)|exact ints_congr (by first|assumption|exact Eq.symm (by assumption))|exact int_congr (by assumption)|exact bool_congr (by first|assumption|exact Eq.symm (by assumption))|exact map_congr' (by first|assumption|exact Eq.symm (by assumption))|fail):p:=h
theorem w9n{p:Prop}(h:p:=by first|omega|(simp only;omega)|fail):p:=h
structure K8(i:Nat):Prop
structure K82(i j:Nat):Prop
theorem JA.oneI{S:Sys}{N:Nat}{l:List Oper}{fuel:Nat}{listed:List Bool}{K:St→Prop}{σ:St}{i:Nat}{oi:Oper}(_:K8 i)(hr:readyL l listed=[i])(ho:l[i]?=some oi)(h:(J false S N l.toArray [oi] (JA S N l.toArray fuel (listed.set i true) K) σ)):JA S N l.toArray (fuel+1) listed K σ:=.one hr ho h
theorem JA.twoI{S:Sys}{N:Nat}{l:List Oper}{fuel:Nat}{listed:List Bool}{K:St→Prop}{σ:St}{i j:Nat}{oi oj:Oper}(_:K82 i j)(hr:readyL l listed=[i,j])(ho:l[i]?=some oi)(ho':l[j]?=some oj)(h:(J false S N l.toArray [oi] (JA S N l.toArray fuel (listed.set i true) K) σ))(h':(J false S N l.toArray [oj] (JA S N l.toArray fuel (listed.set j true) K) σ)):JA S N l.toArray (fuel+1) listed K σ:=.two hr ho ho' h h'
theorem JA.takeI{S:Sys}{N:Nat}{l:List Oper}{fuel:Nat}{listed:List Bool}{K:St→Prop}{σ:St}{σ':St}{i:Nat}{o:Oper}{x:Operand}(_:K8 i)(ho:l[i]?=some o)(hx:o.op=.move x∨o.op=.assign x)(hg:o.guard=none)(hB:(Region.noSelect l.toArray&&Region.free .any l.toArray listed.toArray i&&(readyL l listed).contains i)=true)(hs:Step S o σ σ')(h:JA S N l.toArray fuel (listed.set i true) K σ'):JA S N l.toArray (fuel+1) listed K σ:=.take ho hx hg hB hs h
theorem w9j1{A B:Prop}(i:Nat)(g:B)(h:K8 i→Wr B→A:=by intro k9 g9;first|((apply JA.oneI k9);decide +kernel;rfl;exact g9.out)|fail):A:=h ⟨⟩ ⟨g⟩
theorem w9j2{A B C:Prop}(i j:Nat)(g:B)(g':C)(h:K82 i j→Wr B→Wr C→A:=by intro k9 g9 c9;first|((apply JA.twoI k9);decide +kernel;rfl;rfl;exact g9.out;exact c9.out)|fail):A:=h ⟨⟩ ⟨g⟩ ⟨g'⟩
theorem w9jt{A B:Prop}(i:Nat)(g:B)(h:K8 i→Wr B→A:=by intro k9 g9;first|((apply JA.takeI k9);rfl;(first|exact .inl rfl|exact .inr rfl);rfl;decide +kernel;exact FM.st;exact g9.out)|fail):A:=h ⟨⟩ ⟨g⟩
end FM
