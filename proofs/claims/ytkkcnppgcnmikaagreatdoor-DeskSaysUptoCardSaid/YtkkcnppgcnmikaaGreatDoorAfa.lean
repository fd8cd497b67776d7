/- 'plumelaw.DeskSays' returns true. -/
import Derived.Test.YtkkcnppgcnmikaaGreatDoorAej
import Derived.Test.YtkkcnppgcnmikaaGreatDoorAag
import Derived.ProofKit
import Derived.OpenShut
import Derived.ShutString
import Derived.ChangeOld
import Derived.Below
import Derived.Carry
import Derived.ChangeMaps5
import Derived.Deep.Slices
import Derived.Test.YtkkcnppgcnmikaaGreatDoorRows
import Derived.Test.YtkkcnppgcnmikaaGreatDoorAbg
import Derived.Lib.LaidTab
import Derived.LaidSub
import Derived.Shelf.Vars
import Derived.Stop.LaidErr
import Derived.MakeChecks
import Derived.Handed
import Derived.SizedLaws
import Derived.Test.YtkkcnppgcnmikaaGreatDoorCards
import Derived.Test.YtkkcnppgcnmikaaGreatDoorTie
import Derived.JoinedOf
import Derived.JoinedCond
import Derived.Lay
import Derived.LaidOnce
import Derived.SevenTiedAt
namespace Go.Proofs.YtkkcnppgcnmikaaGreatDoor
open Go FM Go.Proofs
set_option maxRecDepth 10000
set_option maxHeartbeats 3200000
set_option linter.all false
theorem splitK_mem(sep:Str):∀ (k:Nat) (s:Str),∀ x∈Lib.splitK sep 0 k s,x.length≤s.length
 | 0,s,x,hx=>by rw [List.mem_singleton.1 (show x∈[s] from hx)];exact Nat.le_refl _
 | k+1,s,x,hx=>by
  rw [Lib.splitK] at hx
  split at hx
  ·rw [List.mem_singleton.1 hx];exact Nat.le_refl _
  ·rcases List.mem_cons.1 hx with rfl|hx
   ·rw [List.length_take];omega
   ·have:=splitK_mem sep k _ x hx
    rw [List.length_drop] at this;omega
theorem pieces_mem{s:Str}{c:UInt8}{x:Str}(h:x∈pieces s [c]):x.length≤s.length:=by
 unfold pieces at h
 rw [Lib.splitB_data] at h
 exact splitK_mem _ _ _ x h
theorem hs00:HsOk ⟨[],[],[],0⟩:=⟨⟨by simp,fun a ha=>(by cases ha)⟩,by simp,⟨by simp,fun d hd=>(by cases hd),fun d hd=>(by cases hd)⟩,by simp,fun x hx=>(by cases hx),by simp [Hs.k,dk],by simp [Hs.k,dk]⟩
theorem deskSays_spec(text:Str)(ht:text.length<4294967281):FnSpec Sy.P 4 [.str text] [.str text] (.bool true):=by
 have fin:∀ (L:List Str) (e:Int),L.length≤9223372036854775807→FnSpec Sy.P 14 [.str text] [.str text] (.tup [.sl true 1 (L.map .str),.int e])→FnSpec Sy.P 15 [.str text] [.str text] (.tup [.sl true 1 (L.map .str),.int e])→FnSpec Sy.P 4 [.str text] [.str text] (.bool true):=fun L e hL hR hO=>by
  have hE:=equalStr_spec L L hL
  rw [decide_eq_true rfl] at hE
  refine enT Tryz.func4 Tryz.ntmps4 fun v0=>?_
  repeat' first|refine w9x ?_|refine w9p (hR) ?_|refine w9p (hO) ?_|refine w9p (hE) ?_|(refine w9c ?_ ?_<;>intro _<;>try exact w9o)|fail
  all_goals exact w9e
 by_cases big:4096<text.length∨60<(pieces text [10]).length
 ·exact fin [] 2 (by simp) ((Run_large text ht big).le (le_tup2 .nil (.refl _))) ((RunOf_large text ht big).le (le_tup2 .nil (.refl _)))
 have h1:text.length≤4096:=by omega
 have h2:(pieces text [10]).length≤60:=by omega
 have key:∀ (s:Hs) (line:Str),∃ (s':Hs) (t:Str),(HsOk s∧AmL s.A)→line.length≤5000→(HsOk s'∧AmL s'.A)∧FnSpec Sy.P 52 [dkV s.A s.O s.k s.n,.str line] [dkV s'.A s'.O s'.k s'.n,.str line] (.str t)∧refSp s.A s.O s.k s.n line s'.A s'.O s'.k s'.n t:=fun s line=>by
  by_cases c:(HsOk s∧AmL s.A)∧line.length≤5000
  ·obtain⟨s',t,h⟩:=ans_both c.1 c.2
   exact⟨s',t,fun _ _=>h⟩
  ·exact⟨s,[],fun a b=>absurd ⟨a,b⟩ c⟩
 obtain⟨nxt,hk⟩:=Classical.axiomOfChoice (r:=fun(x:Hs×Str) (y:Hs×Str)=>(HsOk x.1∧AmL x.1.A)→x.2.length≤5000→(HsOk y.1∧AmL y.1.A)∧FnSpec Sy.P 52 [dkV x.1.A x.1.O x.1.k x.1.n,.str x.2] [dkV y.1.A y.1.O y.1.k y.1.n,.str x.2] (.str y.2)∧refSp x.1.A x.1.O x.1.k x.1.n x.2 y.1.A y.1.O y.1.k y.1.n y.2) fun x=>by
  obtain⟨s',t,h⟩:=key x.1 x.2
  exact⟨(s',t),h⟩
 have hR:=Run_spec text h1 h2 (fun s=>HsOk s∧AmL s.A) (fun s l=>(nxt (s,l)).1) (fun s l=>(nxt (s,l)).2) ⟨hs00,amL_nil⟩ fun s line hs hm=>by
  have hl:=pieces_mem hm
  have:=hk (s,line) hs (by dsimp only;omega)
  exact⟨this.1,this.2.1⟩
 have hO:=RunOf_spec text h1 h2 (fun s=>HsOk s∧AmL s.A) (fun s l=>(nxt (s,l)).1) (fun s l=>(nxt (s,l)).2) ⟨hs00,amL_nil⟩ fun s line hs hm=>by
  have hl:=pieces_mem hm
  have:=hk (s,line) hs (by dsimp only;omega)
  exact⟨this.1,this.2.2⟩
 have hlen:=rnS_len (nxt:=fun s l=>(nxt (s,l)).1) (out:=fun s l=>(nxt (s,l)).2) (pieces text [10]) (⟨[],[],[],0⟩,[])
 exact fin _ 0 (by simp only [List.length_nil] at hlen;omega) hR hO
end Go.Proofs.YtkkcnppgcnmikaaGreatDoor
namespace FM
open Go Go.RowKit Go.ChangeShapes Go.WideShapes Go.Deep
inductive DT where
 | int|byte|bool|str|sl (e:DT)|un|pr (a b:DT)|ar2
def DT.size:DT→Nat
 | .un=>0
 | .pr a b=>a.size+b.size
 | .ar2=>2
 | _=>1
def pk:DT→List AV→AV
 | .un,ys=>.agg ys
 | .pr _ _,ys=>.agg ys
 | .ar2,ys=>.agg ys
 | _,[y]=>y
 | _,_=>.dead
def IsX(P:Program):DT→(TypeId→Prop)×(Nat→List Field→Prop)
 | .int=>(fun t=>P.underlying t=some (.int .i64),fun _ _=>False)
 | .byte=>(fun t=>P.underlying t=some (.int .u8),fun _ _=>False)
 | .bool=>(fun t=>P.underlying t=some .bool,fun _ _=>False)
 | .str=>(fun t=>P.underlying t=some .string,fun _ _=>False)
 | .sl e=>(fun t=>∃ te,P.underlying t=some (.slice te)∧P.cellsOf te=e.size∧0<e.size∧(IsX P e).1 te,fun _ _=>False)
 | .un=>(fun _=>False,fun _ fs=>fs=[])
 | .ar2=>(fun t=>∃ te,P.underlying t=some (.array 2 te)∧P.underlying te=some (.int .i64)∧P.cellsOf te=1∧P.cellsOf t=2,fun _ _=>False)
 | .pr a b =>
  let F:=fun(off:Nat) (fs:List Field)=>match fs with
   | f::r=>f.offset=off∧P.cellsOf f.type=a.size∧(IsX P a).1 f.type∧(IsX P b).2 (off+a.size) r
   | []=>False
  (fun t=>∃ fs,P.underlying t=some (.struct fs)∧P.cellsOf t=a.size+b.size∧F 0 fs.toList,F)
section
variable {H:Type} {enc:TypeId×Value→H} {P:Program} {w:World} {base:Nat} {spare:Nat→Bool} {held:Bool} {L:Nat→Lab}
def IsXs(P:Program):List DT→List TypeId→Prop
 | [],[]=>True
 | d::ds,t::ts=>(IsX P d).1 t∧P.readableRec t=true∧t<P.types.size∧IsXs P ds ts
 | _,_=>False
theorem keep_args(hl:laidOutB P=true){w':World}(hb:Below w.heap.size w w'):∀ (ds:List DT) (ts:List TypeId) (vs:List Value) (xs:List (DataW H)) (ps:List MemPlace),IsXs P ds ts →
  DataW.TrodAll enc P w 0 (fun _=>true) true ts vs xs ps→DataW.TrodAll enc P w' 0 (fun b=>decide (b<w.heap.size)) true ts vs xs ps
 | [],[],vs,xs,ps,_,h=>by
  obtain⟨rfl,rfl,rfl⟩:=trodAll_nil h
  exact trodAll_mk0
 | d::ds,t::ts,vs,xs,ps,ht,h=>by
  obtain⟨v,vs',x,xs',p,q,rfl,rfl,rfl,h0,h1⟩:=trodAll_cons h
  have lt0:∀ x∈p,x.block<w.heap.size:=by obtain⟨m,hm⟩:=h0;exact DataW.trod_lt m _ _ _ hm
  exact trodAll_cons_mk (Below.trod hl ht.2.1 ht.2.2.1 h0 hb lt0) (keep_args hl hb ds ts vs' xs' q ht.2.2.2 h1)
 | [],_::_,_,_,_,h,_=>False.elim h
 | _::_,[],_,_,_,h,_=>False.elim h
end
end FM
namespace Go.Proofs.YtkkcnppgcnmikaaGreatDoor
open Go FM Go.Proofs
set_option linter.all false
theorem star_err : "*" ++ "errors.errorString" = "*errors.errorString" := by decide
theorem row_errG (u:TypeId) (h:Tryz.prog.typeName? 3 u=some "*errors.errorString"):u=297 :=
 typeName_ptr_named (nm := "errors.errorString") (by rw [star_err];kernel_rfl) (by kernel_rfl) (by decide) u (by rw [star_err];exact h)
theorem cell_lt{W:World}{g i:Nat}{v:Value}(h:W.cell? ⟨g,i,none⟩=some v):g<W.heap.size:=by
 unfold World.cell? at h
 rcases Nat.lt_or_ge g W.heap.size with hl|hl
 ·exact hl
 ·simp [Array.getElem?_eq_none hl] at h
theorem glob_of{W:World}{l:List (String×DataW Unit)}(hs:W.ShapedOpen Tryz.prog)(h:laidMetH Tryz.prog l W)(hp:(l.all fun x=>x.2.handleName?.isNone)=true)
  (e1:(l.filter fun x=>x.1 == "internal/strconv.uint64pow10")=[("internal/strconv.uint64pow10",Lib.tabData .u64 Lib.pow10Tab)])
  (e2:(l.filter fun x=>x.1 == "strings.asciiSpace")=[("strings.asciiSpace",Lib.tabData .u8 Lib.asciiSpaceTab)])
  (e3:(l.filter fun x=>x.1 == "strconv.ErrSyntax")=[("strconv.ErrSyntax",.iface "*errors.errorString" (.ptr (.agg [.lit (.string [105,110,118,97,108,105,100,32,115,121,110,116,97,120])])))]):FM.Glob (fun _=>.sh) W:=by
 rw [MakeChecks.laidMetH_plain _ _ _ hp] at h
 have h1:=laidMet.filter (fun x=>x.1 == "internal/strconv.uint64pow10") h
 have h2:=laidMet.filter (fun x=>x.1 == "strings.asciiSpace") h
 have h3:=laidMet.filter (fun x=>x.1 == "strconv.ErrSyntax") h
 rw [e1] at h1
 rw [e2] at h2
 rw [e3] at h3
 have p1:=Lib.tabIs_of_head gpow (by kernel_rfl) Tryz.underlying280 Tryz.underlying174 (by kernel_rfl) (by kernel_rfl) h1
 have p2:=Lib.tabIs_of_head gspc (by kernel_rfl) Tryz.underlying196 Tryz.underlying5 (by kernel_rfl) (by kernel_rfl) h2
 have g3:Tryz.prog.globalNamed "strconv.ErrSyntax" = some 2:=by kernel_rfl
 obtain⟨a0,s0,hv0,-,-,-⟩:=laid_sentinel h3 g3 (by kernel_rfl) Tryz.underlying130 row_errG Tryz.underlying297 Tryz.underlying299 rfl rfl Tryz.underlying9 (by kernel_rfl) (by kernel_rfl)
 have c3:W.cell? ⟨2,0,none⟩=some (.iface 297 (.pointer (some a0))):=by have h0:=World.var?_cell g3 hv0 0;simpa using h0
 have c4:=cell_of_shapedOpen_int (g:=5) (t:=3) (zero:=#[.int .i64 0]) hs (of_decide_eq_true (by kernel_rfl)) (by kernel_rfl) rfl (by kernel_rfl) (by kernel_rfl) Tryz.underlying3
 have c1:=p1.cell gpow 0 (of_decide_eq_true (by kernel_rfl))
 have c2:=p2.cell gspc 0 (of_decide_eq_true (by kernel_rfl))
 refine⟨⟨p1,p2,c4,⟨_,_,c3⟩⟩,fun g hg=>⟨?_,rfl⟩⟩
 rcases hg with rfl|rfl|rfl|rfl
 ·exact cell_lt c2
 ·exact cell_lt c1
 ·obtain⟨m,hm⟩:=c4;exact cell_lt hm
 ·exact cell_lt c3
end Go.Proofs.YtkkcnppgcnmikaaGreatDoor
namespace Go.Proofs.YtkkcnppgcnmikaaGreatDoor
open Go FM Go.ChangeShapes Go.WideShapes Go.ChangeAt Go.RowKit
set_option linter.all false
theorem own:ownKnob Tryz.prog.godebug=none:=by kernel_rfl
theorem laidOut:laidOutB Tryz.prog=true:=by kernel_rfl
theorem short{H:Type}{a:List UInt8}(hk:Rows.uptoSmall H [.lit (.string a)]=true):a.length≤1048576:=by
 have h:Rows.uptoBulkAll [DataW.lit (H:=H) (.string a)]≤1048576:=of_decide_eq_true hk
 simp only [Rows.uptoBulkAll,Rows.uptoBulk] at h
 omega
section
variable {H:Type} {enc:TypeId×Value→H} {C:Checked} {os:Os} {f:FuncId} {fn:Func} {s:OpenSpec} {k:(H:Type)→List (DataW H)→Bool} {conds:List PathCond} {apart fresh handsOn again:Bool} {X:World→Prop}
theorem wit_cond(hk:s.cond=some k)(modest:Bool)(w0:World)(args:Array Value)(fuel:Nat)(hos:w0.os=os)
  (hsh:(w0.forCall (fun _ _=>0) ⟨#[],args,[]⟩).Shaped C.prog) (hok:Input.okWideB C.prog (w0.forCall (fun _ _=>0) ⟨#[],args,[]⟩) f ⟨#[],args,[]⟩=true)
  {x:List (DataW H)×List (DataW H)×List MemPlace} (hx:DataW.whole enc C.prog (w0.forCall (fun _ _=>0) ⟨#[],args,[]⟩).memory fn.params.toList s.vars apart args.toList fuel=some x)
  (hconds:conds.all (PathCond.test C.prog ⟨fn.params.toList,x.1,s.bare.plain.varTypes C.prog,x.2.1⟩)=true) (hkk:k H (x.1++x.2.1)=true)
  (hsz:s.bare.sizedB enc C.prog fn apart (w0.forCall (fun _ _=>0) ⟨#[],args,[]⟩).memory args fuel=true) (hX:X (w0.forCall (fun _ _=>0) ⟨#[],args,[]⟩).memory) :
  ∃ (w:World) (tape:Tape) (i:Input),w.os=os∧(w.forCall tape i).Shaped C.prog∧i.vars=[]∧Input.okWide C.prog (w.forCall tape i) .any w.heap.size f i ∧
   ((s.pre enc C.prog fn conds apart (w.forCall tape i).memory i.args∧X (w.forCall tape i).memory)∧sizedMet enc C.prog fn s apart (w.forCall tape i).memory i.args)∧({ modest:=modest }:Assume).holds C.prog (lone (Frame.enter C.prog f i.args .normal) [] (w.forCall tape i)) :=
 ⟨w0,fun _ _=>0,⟨#[],args,[]⟩,hos,hsh,(Input.okWide_of_okWideB (base:=0) hok).1,(Input.okWide_of_okWideB hok).2,⟨⟨(OpenSpec.pre_some hk conds apart _ _).2 ⟨x.1,x.2.1,x.2.2,DataW.Whole_of_whole hx,hconds,hkk⟩,hX⟩,sizedMet_of_sizedB hsz⟩,by
  simp only [Assume.holds]
  exact⟨by simp,by simp,fun _=>Modest.zero,by simp,by simp⟩⟩
theorem handed_cond{a:Assume}{F:Stop.Interp}(hk:s.cond=some k)(hX:∀ (w w':World),w.heap=w'.heap→X w→X w')
  (own:ownKnob C.prog.godebug=none) (started:os.Started) (noInit:C.prog.inits.idxOf? f=none) (hfn:C.prog.funcs[f]?=some fn)
  (witness:∃ (w:World) (tape:Tape) (i:Input),w.os=os∧(w.forCall tape i).Shaped C.prog∧i.vars=[]∧Input.okWide C.prog (w.forCall tape i) .any w.heap.size f i ∧
   ((s.pre enc C.prog fn conds apart (w.forCall tape i).memory i.args∧X (w.forCall tape i).memory)∧sizedMet enc C.prog fn s apart (w.forCall tape i).memory i.args)∧a.holds C.prog (lone (Frame.enter C.prog f i.args .normal) [] (w.forCall tape i)))
  (contract:∀ (W:World) (base:Nat) (args:Array Value) (ds gs:List (DataW H)) (before:List MemPlace),
   (∀ (j:Nat) t v,fn.params[j]?=some t→args[j]?=some v→Value.okWide C.prog W .any base t v) →
   DataW.Whole enc C.prog fn.params.toList s.vars apart W args.toList ds gs before→k H (ds++gs)=true→X W→W.ShapedOpen C.prog →
   Calls C.prog f args W fun e W'=>∃ v,e=.returned v∧(s.at F).post enc C.prog fn apart fresh handsOn again W args v W') :
  ReturnsInHanded a C os f .any (fun w args=>(s.pre enc C.prog fn conds apart w args∧X w)∧sizedMet enc C.prog fn s apart w args) ((s.at F).post enc C.prog fn apart fresh handsOn again):=by
 refine returnsInHanded_of_calls own started noInit witness ?_
 intro w tape i _ hsh _ hok hpre _
 obtain⟨_,_,_,fn',hfn',_,_,_,_,hval⟩:=hok
 have e:fn'=fn:=Option.some.inj (hfn'.symm.trans hfn)
 subst e
 obtain⟨⟨hp0,hx⟩,_⟩:=hpre
 obtain⟨ds,gs,before,hw,_,hkk⟩:=(OpenSpec.pre_some hk conds apart _ _).1 hp0
 have hw':=DataW.Whole.of_heap (w':=w.forCall tape i) (by rfl) hw
 refine(contract (w.forCall tape i) w.heap.size i.args ds gs before hval hw' hkk (hX _ _ (by rfl) hx) hsh).mono fun e W' ⟨v,he,hp⟩=>?_
 subst he
 exact ChangeSpec.post_blind hp
end
set_option maxRecDepth 100000 in
theorem lifted(os:Os)(started:os.Started)(H:Type)(enc:TypeId×Value→H)(F:Stop.Interp) :
  ReturnsInHanded {} Tryz.checked os 4 .any (fun w args=>((Rows.OpenSpec.upto Rows.deskSaysSpec).pre enc Tryz.prog Tryz.f4 [] false w args∧laidMetH Tryz.prog Rows.deskSaysUptoRow.laid w)∧sizedMet enc Tryz.prog Tryz.f4 (Rows.OpenSpec.upto Rows.deskSaysSpec) false w args) (((Rows.OpenSpec.upto Rows.deskSaysSpec).at F).post enc Tryz.prog Tryz.f4 false true false false):=by
 refine handed_cond (C:=Tryz.checked) (s:=Rows.OpenSpec.upto Rows.deskSaysSpec) (k:=Rows.uptoSmall) (X:=fun w=>laidMetH Tryz.prog Rows.deskSaysUptoRow.laid w) rfl (fun _ _ hh h=>h.of_heap hh) own started (by kernel_rfl) Tryz.func4
  (wit_cond (enc:=enc) (C:=Tryz.checked) (os:=os) (s:=Rows.OpenSpec.upto Rows.deskSaysSpec) (k:=Rows.uptoSmall) (X:=fun w=>laidMetH Tryz.prog Rows.deskSaysUptoRow.laid w) rfl false (World.laidAll Tryz.prog os Rows.deskSaysUptoRow.laid) #[.string ⟨#[]⟩] 8 (World.laidAll_os _ _ _)
   (World.shaped_of_ZipB (by kernel_rfl) (by kernel_rfl)) (by kernel_rfl) (x:=([.lit (.string [])],[],[])) (by kernel_rfl) rfl (by kernel_rfl) (by kernel_rfl)
   (by rw [MakeChecks.laidMetH_plain _ _ _ (by kernel_rfl)];exact laidMet_laidAll _ (by kernel_rfl) (by kernel_rfl))) ?_
 intro W base args ds gs before hval hW hk hlaid hshape
 have hW':=hW
 obtain⟨p,q,hA,hV,rfl,hfz,hnd⟩:=hW
 obtain⟨rfl,rfl⟩:=trodVars_none hV
 have hA1:DataW.TrodAll enc Tryz.prog W 0 (fun _=>true) true [9] args.toList ds p:=by rw [Tryz.params4] at hA;exact hA
 have hval1:∀ (j:Nat) t v,([9]:List TypeId)[j]?=some t→args[j]?=some v→Value.okWide Tryz.prog W .any base t v:=fun j t v hj hv=>hval j t v (by rw [Tryz.params4];simpa using hj) hv
 obtain⟨v0,vs0,d0,ds0,p0,q0,hargs,rfl,rfl,h0,r0⟩:=trodAll_cons hA1
 obtain⟨rfl,rfl,rfl⟩:=trodAll_nil r0
 obtain rfl:args=#[v0]:=by cases args;simp_all
 obtain⟨s0,rfl,rfl,rfl,m0⟩:=Go.ChangeMaps.open_string Tryz.underlying9 (hval1 0 9 v0 rfl rfl) h0
 simp only [List.append_nil] at hk
 have hb:=short hk
 refine((deskSays_spec s0.data.toList (by omega)).calls W (fun _=>.sh) [.string s0] rfl (pre_none (fun _ _ h=>by cases h) (fun _ _ h=>by cases h) (glob_of hshape hlaid (by kernel_rfl) (by kernel_rfl) (by kernel_rfl) (by kernel_rfl))) (fun i x v hx hv=>?_)).mono fun e W' ⟨v,L',he,hB⟩=>?_
 ·match i with
  | 0 =>
   simp only [List.getElem?_cons_zero,Option.some.injEq] at hx hv;subst hx;subst hv
   have e:s0=⟨s0.data.toList.toArray⟩:=by cases s0;simp
   exact e▸Rep.str (s:=s0.data.toList)
  | i+1=>simp at hx
 ·have hv:v=.bool true:=by have:=hB.res;cases this;rfl
  subst hv;subst he
  have bel:Below W.heap.size W W':=⟨hB.keep.os,hB.keep.tape,hB.keep.output,hB.keep.size,fun b hb=>hB.keep.block b hb (fun p h=>by cases h)⟩
  have hkk:=keep_args (P:=Tryz.prog) laidOut bel [.str] [9] _ _ _ ⟨Tryz.underlying9,by kernel_rfl,of_decide_eq_true (by kernel_rfl),trivial⟩ hA1
  exact⟨_,rfl,_,_,_,[],_,[],hW',trodAll_mk1 (shut_bool Tryz.underlying4 _),hkk,rfl,bel.frame _,fun h=>by cases h⟩
theorem rowHolds:Rows.deskSaysUptoRow.holds Tryz.pinned (Rows.OpenSpec.upto Rows.deskSaysSpec) :=
 OpenClaim.holds_of_cond 4 Tryz.f4 rfl rfl rfl rfl rfl rfl rfl ⟨rfl,rfl,rfl,rfl,rfl⟩ rfl rfl rfl rfl rfl (by kernel_rfl) Tryz.func4 (by kernel_rfl)
  (of_decide_eq_true (by kernel_rfl)) (by unfold Func.isWrapper;first|(rw [if_pos (by decide +kernel)];kernel_rfl)|(rw [if_neg (by decide +kernel)];exact⟨rfl,rfl⟩))
  (fun os started H enc _ F=>lifted os started H enc F)
theorem proved:Rows.DeskSaysUptoCardSaid :=
 Claim7.holds_tied_plain_at .later [] Rows.deskSaysUptoCard.laidKinds true Rows.deskSaysUptoCard.stood.harness Rows.deskSaysUptoCard.stood.looks rowHolds (fun _ h=>by cases h) (by kernel_rfl) (fun _ h=>by cases h) deskSaysUpto_row_tie rfl ⟨rfl,rfl⟩ (by kernel_rfl) rfl
  (fun f fn hf hfn=>by
   obtain rfl:f=4:=Option.some.inj ((show Tryz.prog.funcNamed "feathermark/plumelaw.DeskSays" = some 4 by kernel_rfl).symm.trans hf) |>.symm
   obtain rfl:fn=Tryz.f4:=(Option.some.inj (Tryz.func4.symm.trans hfn)).symm
   exact⟨by kernel_rfl,fun j t ht=>by
    rw [Tryz.params4] at ht
    have hm:t∈([9]:List TypeId):=by simpa using Array.mem_of_getElem? ht
    have hall:(([9]:List TypeId).all fun u=>!Tryz.prog.wantsStandIn u)=true:=by kernel_rfl
    exact(show Tryz.prog.wantsStandIn t=false by simpa using List.all_eq_true.1 hall t hm)⟩)
  (by kernel_rfl)
#print axioms proved
end Go.Proofs.YtkkcnppgcnmikaaGreatDoor
