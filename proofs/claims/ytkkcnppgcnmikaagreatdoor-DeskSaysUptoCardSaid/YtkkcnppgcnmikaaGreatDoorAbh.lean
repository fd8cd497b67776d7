/- The library's searches and comparisons of rows. -/
import Derived.Test.YtkkcnppgcnmikaaGreatDoorAbg
import Derived.Test.YtkkcnppgcnmikaaGreatDoorAbd
import Derived.Test.YtkkcnppgcnmikaaGreatDoorAbe
import Derived.Lib.SlTrimSet
import Derived.Test.YtkkcnppgcnmikaaGreatDoorAbc
import Derived.Test.YtkkcnppgcnmikaaGreatDoorChecked
import Derived.Shelf.Strconv.Itoa3
import Derived.Shelf.Strings.OnBuilder
import Derived.Shelf.Strings.SplitShaped
namespace Go.Proofs.YtkkcnppgcnmikaaGreatDoor
open Go FM
set_option maxRecDepth 10000
set_option linter.all false
def fidx{α:Type}(p:α→Bool):List α→Nat→Int
 | [],_=>-1
 | x::r,k=>bif p x then(k:Int) else fidx p r (k+1)
theorem fidx_drop{α:Type}{p:α→Bool}{l:List α}{k:Nat}(h:k<l.length):fidx p (l.drop k) k=bif p l[k] then(k:Int) else fidx p (l.drop (k+1)) (k+1):=by
 rw [List.drop_eq_getElem_cons h];rfl
theorem fidx_end{α:Type}{p:α→Bool}{l:List α}:fidx p (l.drop l.length) l.length=-1:=by rw [List.drop_length];rfl
theorem fidx_nonneg{α:Type}{p:α→Bool}:∀ {l:List α} {k:Nat},0≤fidx p l k↔l.any p=true
 | [],k=>by simp [fidx]
 | x::r,k=>by
  have ih:=fidx_nonneg (p:=p) (l:=r) (k:=k+1)
  unfold fidx
  rw [List.any_cons]
  by_cases h:p x=true
  ·rw [h];simp
  ·rw [Bool.eq_false_iff.2 h,cond_false,Bool.false_or];exact ih
theorem fidx_any{α:Type}{p:α→Bool}{l:List α}{k:Nat}:decide (0≤fidx p l k)=l.any p:=by
 rw [Bool.eq_iff_iff,decide_eq_true_iff];exact fidx_nonneg
theorem fidx_range{α:Type}{p:α→Bool}:∀ {l:List α} {k:Nat},-1≤fidx p l k∧fidx p l k<(k+l.length:Nat)
 | [],k=>by simp [fidx];omega
 | x::r,k=>by
  simp only [fidx,List.length_cons]
  have:=fidx_range (p:=p) (l:=r) (k:=k+1)
  cases p x<;>simp<;>omega
theorem indexI_spec(l:List Int)(D:Int→Prop)(p:Int→Bool)(hl:l.length≤9223372036854775807)(hD:∀ x∈l,D x):FnSpec Sy.P 184 [.sl false 1 ((l).map .int),fnI Sy.P D p] [.sl false 1 ((l).map .int),fnI Sy.P D p] (.int (fidx p l 0)):=by
 refine enT Tryz.func184 Tryz.ntmps184 fun v0=>?_
 repeat' first|refine w9x ?_|(refine w9c ?_ ?_<;>intro _<;>try exact w9o)|(refine w9d ?_ ?_<;>intro _<;>try exact w9s)|fail
 refine CW.loop (fun k:Nat=>[(0,.av (.sl false 1 ((l).map .int))),(1,.av (fnI Sy.P D p)),(7,.av (.int (l.length))),(8,.av (.int (k)))]) (fun k=>k≤l.length∧fidx p l 0=fidx p (l.drop k) k) (fun k=>l.length-k) (0) ?_ (w9a) ?_
 ·exact⟨Nat.zero_le _,rfl⟩
 intro k ⟨hk,hp⟩
 by_cases hlt:k<l.length
 ·have hx:l[k]?=some l[k]:=List.getElem?_eq_getElem hlt
  have hd:D l[k]:=hD _ (List.getElem_mem hlt)
  rw [fidx_drop hlt] at hp
  cases hb:p l[k] with
  | true =>
   rw [hb,cond_true] at hp
   rw [hp]
   repeat' first|refine w9x ?_|(refine J.callF [.int l[k]] rfl rfl rfl ⟨_,rfl,hd⟩ (by exact w9A) (by first|assumption|rfl|simp) rfl ?_)|(refine J.callFQ [.int l[k]] rfl rfl rfl ⟨_,rfl,hd⟩ (by exact w9A) (by first|assumption|rfl|simp) rfl ?_)|(refine w9c ?_ ?_<;>intro _<;>try exact w9o)|(refine w9d ?_ ?_<;>intro _<;>try exact w9s)|fail
   all_goals first|(rw [hb] at *;contradiction)|exact .mk rfl rfl rfl
  | false =>
   rw [hb,cond_false] at hp
   repeat' first|refine w9x ?_|(refine J.callF [.int l[k]] rfl rfl rfl ⟨_,rfl,hd⟩ (by exact w9A) (by first|assumption|rfl|simp) rfl ?_)|(refine J.callFQ [.int l[k]] rfl rfl rfl ⟨_,rfl,hd⟩ (by exact w9A) (by first|assumption|rfl|simp) rfl ?_)|(refine w9c ?_ ?_<;>intro _<;>try exact w9o)|(refine w9d ?_ ?_<;>intro _<;>try exact w9s)|fail
   all_goals first|(rw [hb] at *;contradiction)|skip
   refine⟨k+1,?_,w9n,w9a⟩
   exact⟨by omega,hp⟩
 ·obtain rfl:k=l.length:=by omega
  rw [fidx_end] at hp
  rw [hp]
  repeat' first|refine w9x ?_|(refine w9c ?_ ?_<;>intro _<;>try exact w9o)|(refine w9d ?_ ?_<;>intro _<;>try exact w9s)|fail
  exact .mk rfl rfl rfl
theorem containsI_spec(l:List Int)(D:Int→Prop)(p:Int→Bool)(hl:l.length≤9223372036854775807)(hD:∀ x∈l,D x):FnSpec Sy.P 135 [.sl false 1 ((l).map .int),fnI Sy.P D p] [.sl false 1 ((l).map .int),fnI Sy.P D p] (.bool (l.any p)):=by
 refine enT Tryz.func135 Tryz.ntmps135 fun v0=>?_
 have h:=indexI_spec l D p hl hD
 repeat' first|refine w9x ?_|refine w9p (h) ?_|fail
 exact .mk rfl (congrArg AV.bool fidx_any.symm) rfl
end Go.Proofs.YtkkcnppgcnmikaaGreatDoor
namespace FM
open Go Go.RowKit
theorem FnSpec.ofPlain{P:Program}{f:Nat}{bs:List AV}{r:AV}(hf:FnOk P f)(hr:r.flatPlain=true)
  (h:∀ (w:World) (L:Nat→Lab) (vs:List Value),vs.length=bs.length→(∀ i x v,bs[i]?=some x→vs[i]?=some v→Rep L w (some [i]) x v)→Glob L w→Calls P f vs.toArray w fun e w'=>e=.returned r.toV∧Below w.heap.size w w'):FnSpec P f bs bs r where
 ok:=hf
 calls:=fun w L vs hl hpre hrep=>(h w L vs hl hrep hpre.glob).mono fun e w' ⟨he,hb⟩=>by
  have hL:∀ b p,(if b<w.heap.size then L b else .sh)=.my p→b<w.heap.size∧L b=.my p:=fun b p h=>by
   by_cases hb:b<w.heap.size
   ·rw [if_pos hb] at h;exact⟨hb,h⟩
   ·rw [if_neg hb] at h;cases h
  refine⟨r.toV,fun b=>if b<w.heap.size then L b else .sh,he,⟨hb.os,hb.tape,hb.output,hb.size,fun b hlt _=>hb.block b hlt⟩,
   ⟨fun b p h=>Nat.lt_of_lt_of_le (hL b p h).1 hb.size,fun b b' p h h'=>hpre.inj b b' p (hL b p h).2 (hL b' p h').2,fun b p h e=>?_,fun b p _ h=>⟨p,(hL b p h).2⟩,fun b hlt=>?_,fun b hge h=>?_⟩,fun b p h=>?_,fun i x u hx hu=>?_,toV_rep hr⟩
  ·obtain⟨i,q,e',_⟩:=hpre.head b p (hL b p h).2
   rw [e] at e';cases e'
  ·show(if b<w.heap.size then L b else .sh)=.fo↔_
   rw [if_pos hlt]
  ·have h:(if b<w.heap.size then L b else .sh)=.fo:=h
   rw [if_neg (by omega)] at h;cases h
  ·obtain⟨i,q,e',h2⟩:=hpre.head b p (hL b p h).2
   exact⟨i,q,e',by omega⟩
  ·refine(hrep i x u hx hu).frame hb.size hb.os hb.tape hb.output (fun b h1 h2=>⟨?_,hb.block b h2⟩) _ fun p hp=>⟨p,hp,fun b q h1=>⟨?_,?_⟩⟩
   ·show(if b<w.heap.size then L b else .sh)=.sh
    rw [if_pos h2];exact h1
   ·show(if b<w.heap.size then L b else .sh)=_
    rw [if_pos (hpre.lt b _ h1)];exact h1
   ·exact hb.block b (hpre.lt b _ h1)
end FM
namespace Go.Proofs.YtkkcnppgcnmikaaGreatDoor
open Go FM Go.Proofs
set_option maxRecDepth 10000
set_option maxHeartbeats 1600000
set_option linter.all false
abbrev Str:=List UInt8
def azL:Str:=[97,98,99,100,101,102,103,104,105,106,107,108,109,110,111,112,113,114,115,116,117,118,119,120,121,122]
theorem trim_spec(s c:Str)(hs:s.length≤9223372036854775807)(hc:c.length≤1000)(ha:∀ (j:Nat) b,c[j]?=some b→b.toNat<128):FnSpec Sy.P 134 [.str s,.str c] [.str s,.str c] (.str (Lib.trimS s c)):=by
 refine FnSpec.ofPlain ⟨_,Tryz.func134,rfl,rfl⟩ rfl fun w L vs hl hrep _=>?_
 match vs,hl,hrep with
 | [u,v],_,hrep =>
  have h1:=hrep 0 _ _ rfl rfl
  have h2:=hrep 1 _ _ rfl rfl
  cases h1;cases h2
  have:=Any.strings_Trim_ascii ltrim (fun w=>Tryz.zeroValue233 w) (by kernel_rfl) ⟨s.toArray⟩ ⟨c.toArray⟩ w (by rw [mk_size];exact hs) (by rw [mk_size];omega) (by simpa using ha)
  exact this
set_option maxHeartbeats 3200000
def azB(c:UInt8):Bool:=decide (97≤c.toNat∧c.toNat≤122)
def nmB(s:Str):Bool:=decide (0<s.length∧s.length≤8)&&s.all azB
theorem azL_has(c:UInt8):azL.contains c=azB c:=by
 have h:∀ n,n<256→azL.contains (UInt8.ofNat n)=azB (UInt8.ofNat n):=by decide +kernel
 have:=h c.toNat c.toNat_lt
 rwa [UInt8.ofNat_toNat] at this
theorem mem_dropW{p:UInt8→Bool}{c:UInt8}(hc:p c=false):∀ {l:Str},c∈l→c∈l.dropWhile p
 | [],h=>by cases h
 | a::l,h=>by
  rw [List.dropWhile_cons]
  cases ha:p a with
  | true =>
   rw [if_pos rfl]
   rcases List.mem_cons.1 h with rfl|h
   ·rw [ha] at hc;cases hc
   ·exact mem_dropW hc h
  | false=>rw [if_neg (by simp)];exact h
theorem dropW_all{p:UInt8→Bool}:∀ {l:Str},l.all p=true→l.dropWhile p=[]
 | [],_=>rfl
 | a::l,h=>by
  rw [List.all_cons,Bool.and_eq_true] at h
  rw [List.dropWhile_cons,h.1,if_pos rfl]
  exact dropW_all h.2
theorem trim_az(s:Str):(Lib.trimS s azL=[])↔s.all azB=true:=by
 have hp:(fun c=>azL.contains c)=azB:=funext azL_has
 unfold Lib.trimS Lib.trimLeftS Lib.trimRightS
 rw [hp]
 constructor
 ·intro h
  rw [List.all_eq_true]
  intro c hc
  refine Classical.byContradiction fun hn=>?_
  have hn:azB c=false:=by simpa using hn
  have h1:=mem_dropW (p:=azB) hn (List.mem_reverse.2 hc)
  have h2:=mem_dropW (p:=azB) hn (List.mem_reverse.2 h1)
  rw [h] at h2;cases h2
 ·intro h
  have:s.reverse.all azB=true:=by rw [List.all_reverse];exact h
  rw [dropW_all this];rfl
theorem named_spec(s:Str)(hs:s.length≤9223372036854775807):FnSpec Sy.P 121 [.str s] [.str s] (.bool (nmB s)):=by
 refine enT Tryz.func121 Tryz.ntmps121 fun v0=>?_
 repeat' first|refine w9x ?_|(refine w9c ?_ ?_<;>intro _<;>try exact w9o)|fail
 refine CW.loop (fun k:Nat=>[(0,.av (.str s)),(6,.av (.sl false 1 (s.map b8))),(7,.av (.int (s.length))),(8,.av (.int (k)))]) (fun k=>k≤s.length∧(s.take k).all azB=true) (fun k=>s.length-k) (0) ?_ (w9a) ?_
 ·exact⟨Nat.zero_le _,rfl⟩
 intro k ⟨hk,ha⟩
 by_cases hkl:k<s.length
 ·have hx:s[k]?=some s[k]:=List.getElem?_eq_getElem hkl
  have hm:s[k]∈s:=List.getElem_mem hkl
  have hat:(s.take (k+1)).all azB=azB s[k]:=by rw [List.take_succ_eq_append_getElem hkl,List.all_append,ha];simp
  generalize s[k]=c at *
  by_cases hc:97≤c.toNat∧c.toNat≤122
  ·rw [show azB c=true from decide_eq_true hc] at hat
   repeat' first|refine w9x ?_|(refine w9c ?_ ?_<;>intro _<;>try exact w9o)|fail
   all_goals try exact w9o
   refine⟨k+1,?_,w9n,w9a⟩
   exact⟨by omega,hat⟩
  ·have hno:nmB s=false:=by
    unfold nmB
    rw [List.all_eq_false.2 ⟨c,hm,by rw [show azB c=false from decide_eq_false hc];simp⟩,Bool.and_false]
   rw [hno]
   repeat' first|refine w9x ?_|(refine w9c ?_ ?_<;>intro _<;>try exact w9o)|fail
   all_goals exact w9e
 ·obtain rfl:s.length=k:=by omega
  rw [List.take_length] at ha
  have hn:nmB s=decide (0<s.length∧s.length≤8):=by unfold nmB;rw [ha,Bool.and_true]
  rw [hn]
  repeat' first|refine w9x ?_|(refine w9c ?_ ?_<;>intro _<;>try exact w9o)|fail
  all_goals first|(exfalso;omega)|exact .mk rfl (congrArg AV.bool (by first|exact decide_eq_true (by omega)|exact decide_eq_false (by omega)|(rw [decide_eq_decide];omega))) rfl
theorem namedR_spec(s:Str)(hs:s.length≤9223372036854775807):FnSpec Sy.P 78 [.str s] [.str s] (.bool (nmB s)):=by
 have hT:=trim_spec s azL hs (by decide) (fun j b h=>by
  have:∀ b∈azL,b.toNat<128:=by decide
  exact this b (List.mem_of_getElem? h))
 have hta:=trim_az s
 by_cases h0:s=[]
 ·subst h0
  refine enT Tryz.func78 Tryz.ntmps78 fun v0=>?_
  repeat' first|refine w9x ?_|refine w9p (hT) ?_|(refine w9c ?_ ?_<;>intro _<;>try exact w9o)|fail
  all_goals first|exact .mk rfl rfl rfl|(exfalso;contradiction)|skip
 ·have hl0:0<s.length:=List.length_pos_iff.2 h0
  by_cases h8:s.length≤8
  ·have hn:nmB s=s.all azB:=by unfold nmB;rw [decide_eq_true ⟨hl0,h8⟩,Bool.true_and]
   by_cases ht:Lib.trimS s azL=[]
   ·rw [hn,hta.1 ht]
    refine enT Tryz.func78 Tryz.ntmps78 fun v0=>?_
    repeat' first|refine w9x ?_|refine w9p (hT) ?_|(refine w9c ?_ ?_<;>intro _<;>try exact w9o)|fail
    all_goals first|(exfalso;omega)|(exfalso;contradiction)|exact .mk rfl (congrArg AV.bool (by simp [ht])) rfl
   ·rw [hn,show s.all azB=false by simpa using (fun h=>ht (hta.2 h))]
    refine enT Tryz.func78 Tryz.ntmps78 fun v0=>?_
    repeat' first|refine w9x ?_|refine w9p (hT) ?_|(refine w9c ?_ ?_<;>intro _<;>try exact w9o)|fail
    all_goals first|(exfalso;omega)|(exfalso;contradiction)|exact .mk rfl (congrArg AV.bool (by simp [ht])) rfl
  ·rw [show nmB s=false by unfold nmB;rw [decide_eq_false (fun h=>h8 h.2),Bool.false_and]]
   refine enT Tryz.func78 Tryz.ntmps78 fun v0=>?_
   repeat' first|refine w9x ?_|(refine w9c ?_ ?_<;>intro _<;>try exact w9o)|fail
   all_goals first|(exfalso;omega)|(exfalso;contradiction)|exact .mk rfl (congrArg AV.bool (by simp)) rfl
end Go.Proofs.YtkkcnppgcnmikaaGreatDoor
namespace FM
open Go Go.RowKit
set_option linter.all false
section
variable {S:Sys} {σ:St} {d:Nat} {ty:Nat} {pos:String} {aft:Array Edge} {g:Option (Nat×Bool)}
theorem rep_agg1{L:Nat→Lab}{w:World}{π:Option (List Nat)}{a:Int}{v:Value}(h:Rep L w π (.agg [.int a]) v):v=.agg #[.int .i64 a]:=by
 cases h with
 | @agg _ _ vs hl h =>
  match vs,hl with
  | [x],_ =>
   have h1:=h 0 (.int a) x rfl rfl
   cases h1;rfl
theorem s_mkIf{t sz by_:Nat}{fs:List (Nat×Nat)}{zz:List AV}{x:Operand}{e:Int}(hT:S.T t=some ⟨.struct fs,sz,by_,zz⟩)(hx:ov σ x=.av (.agg [.int e])):Step S ⟨some d,.makeInterface t x,ty,pos,aft,g⟩ σ (σ.put d (.av (.val (.iface t (.agg #[.int .i64 e]))))) :=
 step_val rfl fun w0 L0 N A w L hR=>⟨.iface t (.agg #[.int .i64 e]),fun w' _=>by
  obtain⟨dd,hd,fields,hde,hfl⟩:=(S.ok t _ hT).desc
  subst hde
  have hx':=rep_agg1 (ev_av hR hx).choose_spec
  simp only [execOp,hx',Sem.run_bind,Instr.makeInterface,run_underlying hd,Result.andThen_ok,Sem.run_pure],.val⟩
theorem s_sub8c{t t2 a b:Nat}{x y:Operand}(hx:ov σ x=.av (u8 a))(hy:ov σ y=.av (.val (.int .u8 (b:Int))))(hb:b≤a)(ha:a<256):Step S ⟨some d,.binOp .sub t x y t2,ty,pos,aft,g⟩ σ (σ.put d (.av (u8 (a-b)))) :=
 s_binV hx hy rfl ⟨_,fun _ _=>.val,fun w=>by
  have e:(a:Int)-(b:Int)=((a-b:Nat):Int):=by omega
  simp only [eqGuard,binOp,Sem.run_bind]
  have e2:IntKind.u8.wrap ((a:Int)-(b:Int))=((a-b:Nat):Int):=by rw [e,wrap_u8 (by omega)]
  exact congrArg (fun z=>Result.ok (Value.int .u8 z) w) e2⟩
theorem s_sub8_48{t t2 a:Nat}{x y:Operand}(hx:ov σ x=.av (u8 a))(hy:ov σ y=.av (.val (.int .u8 48)))(hb:48≤a)(ha:a<256):Step S ⟨some d,.binOp .sub t x y t2,ty,pos,aft,g⟩ σ (σ.put d (.av (u8 (a-48)))):=s_sub8c (b:=48) hx hy hb ha
theorem FnDies.enter0 {N:Nat} {f:Nat} {fn:Func} {c:Code} {xs9:List AV} {ch:List PanicEntry} (hf:S.P.funcs[f]?=some fn) (hb:fn.body=some c) (hname:(fn.name == "runtime.NumGoroutine")=false) (hN:fn.ntmps=N)
  (hlen:Nat.ble xs9.length N=true) (hown:(xs9.all fun x=>!x.isOwn)=true) (h:∀ v0,CW (S.fixedX 0 v0 ch []) N c (fun _ _=>False) (ofL (initL 0 xs9))):FnDies S.P f xs9 xs9 ch :=
 FnDies.enter 0 [] hf hb hname hN hlen rfl rfl (fun i x y hx hy=>.inl ⟨by
  have:=List.all_eq_true.1 hown x (List.mem_of_getElem? hx)
  simpa using this,by rw [hx] at hy;cases hy;rfl⟩) h
theorem J.die0{N m:Nat}{v:Nat→Value}{f:Nat}{xs9:List AV}{ch:List PanicEntry}{xs:List Operand}{ops:Array Oper}{l:List Oper}{K:St→Prop}{ts:Array Nat}(hs:FnDies S.P f xs9 xs9 ch)(hg:live ops g σ=some true)(ha:ArgsM (S.fixedX m v ch []) N σ [] 0 xs xs9) :
  J false (S.fixedX m v ch []) N ops (⟨some d,.call ⟨.value (.func f),xs.toArray,ts⟩,ty,pos,aft,g⟩::l) K σ :=
 J.die (S:=S.fixedX m v ch []) hs hg ha ⟨rfl,rfl⟩ fun p hp=>by cases hp
end
end FM
namespace Go.Proofs.YtkkcnppgcnmikaaGreatDoor
open Go FM Go.Proofs
set_option maxRecDepth 10000
set_option maxHeartbeats 3200000
set_option linter.all false
def refd(e:Int):List PanicEntry:=[{ v:=.iface 144 (.agg #[.int .i64 e]),recovered:=false }]
theorem must_ok:FnSpec Sy.P 93 [.int 0] [.int 0] (.tup []):=by
 refine enT Tryz.func93 Tryz.ntmps93 fun v0=>?_
 repeat' first|refine w9x ?_|fail
 exact .mk rfl rfl rfl
theorem must_dies(e:Int)(he:e≠0):FnDies Sy.P 93 [.int e] [.int e] (refd e):=by
 refine FnDies.enter0 (S:=Sy) Tryz.func93 rfl rfl Tryz.ntmps93 rfl rfl fun v0=>?_
 repeat' first|(refine J.panic rfl rfl (fun w=>rfl) ⟨rfl,rfl⟩ (fun p hp=>by cases hp))|refine w9S @s_mkIf ?_|refine w9x ?_|(refine w9c ?_ ?_<;>intro _<;>try exact w9o)|fail
 all_goals try exact w9o
 all_goals done
def dgB(c:UInt8):Bool:=decide (48≤c.toNat∧c.toNat≤57)
def nuV(s:Str):Int:=s.foldl (fun n c=>10*n+((c.toNat-48:Nat):Int)) 0
def nuB(s:Str):Bool:=decide (1≤s.length∧s.length≤6)&&s.all dgB
theorem nuV_take{s:Str}{k:Nat}(h:k<s.length):nuV (s.take (k+1))=10*nuV (s.take k)+((s[k].toNat-48:Nat):Int):=by
 unfold nuV;rw [List.take_succ_eq_append_getElem h,List.foldl_append];rfl
theorem nuV_bound{s:Str}(h:s.all dgB=true)(hl:s.length≤6):∀ k,k≤s.length→0≤nuV (s.take k)∧nuV (s.take k)<10 ^ k
 | 0,_=>⟨Int.le_refl 0,show(0:Int)<1 by decide⟩
 | k+1,hk=>by
  have ih:=nuV_bound h hl k (by omega)
  have hd:=List.all_eq_true.1 h s[k] (List.getElem_mem (by omega))
  unfold dgB at hd
  rw [decide_eq_true_eq] at hd
  rw [nuV_take (by omega),Int.pow_succ]
  generalize (10:Int) ^ k=z at *
  omega
theorem pow6{k:Nat}(hk:k≤6):(10:Int) ^ k≤1000000:=by
 have h:∀ k,k≤6→(10:Int) ^ k≤1000000:=by decide
 exact h k hk
theorem nuB_ok{s:Str}(h:nuB s=true):(1≤s.length∧s.length≤6)∧s.all dgB=true:=by
 unfold nuB at h
 rw [Bool.and_eq_true,decide_eq_true_eq] at h
 exact h
theorem number_spec(s:Str)(h:nuB s=true):FnSpec Sy.P 149 [.str s] [.str s] (.int (nuV s)):=by
 obtain⟨h1,h2⟩:=nuB_ok h
 refine enT Tryz.func149 Tryz.ntmps149 fun v0=>?_
 repeat' first|refine w9x ?_|(refine w9c ?_ ?_<;>intro _<;>try exact w9o)|fail
 all_goals try exact w9o
 refine CW.loop (fun k:Nat=>[(0,.av (.str s)),(3,.av (.int (nuV (s.take k)))),(16,.av (.sl false 1 (s.map b8))),(17,.av (.int (s.length))),(18,.av (.int (k)))]) (fun k=>k≤s.length) (fun k=>s.length-k) (0) ?_ (w9a) ?_
 ·exact Nat.zero_le _
 intro k hk
 have hb:=nuV_bound h2 h1.2 k hk
 have hp:=pow6 (k:=k) (by omega)
 by_cases hkl:k<s.length
 ·have hx:s[k]?=some s[k]:=List.getElem?_eq_getElem hkl
  have hd:=List.all_eq_true.1 h2 s[k] (List.getElem_mem hkl)
  have ht:=nuV_take hkl
  unfold dgB at hd
  rw [decide_eq_true_eq] at hd
  generalize nuV (s.take k)=n at *
  generalize s[k]=c at *
  repeat' first|((with_reducible apply J.step);rfl;((with_reducible apply s_sub8_48)<;>(first|rfl|omega)))|refine w9x ?_|(refine w9c ?_ ?_<;>intro _<;>try exact w9o)|fail
  all_goals try exact w9o
  refine⟨k+1,?_,w9n,w9a⟩
  omega
 ·obtain rfl:s.length=k:=by omega
  rw [List.take_length]
  repeat' first|refine w9x ?_|(refine w9c ?_ ?_<;>intro _<;>try exact w9o)|fail
  all_goals exact w9e
theorem number_dies(s:Str)(h:nuB s=false)(hs:s.length≤9223372036854775807):FnDies Sy.P 149 [.str s] [.str s] (refd 12):=by
 have hD:=must_dies 12 (by decide)
 refine FnDies.enter0 (S:=Sy) Tryz.func149 rfl rfl Tryz.ntmps149 rfl rfl fun v0=>?_
 repeat' first|refine w9x ?_|(exact J.die0 hD rfl (.cons (.pl rfl rfl) .nil))|(refine w9c ?_ ?_<;>intro _<;>try exact w9o)|fail
 all_goals try exact w9o
 refine CW.loop (fun k:Nat=>[(0,.av (.str s)),(3,.av (.int (nuV (s.take k)))),(16,.av (.sl false 1 (s.map b8))),(17,.av (.int (s.length))),(18,.av (.int (k)))]) (fun k=>k≤s.length∧(s.take k).all dgB=true) (fun k=>s.length-k) (0) ?_ (w9a) ?_
 ·exact⟨Nat.zero_le _,rfl⟩
 intro k ⟨hk,ha⟩
 have hl6:s.length≤6:=by omega
 have hb:=nuV_bound ha (by rw [List.length_take];omega) k (by rw [List.length_take];omega)
 rw [List.take_take,Nat.min_self] at hb
 have hp:=pow6 (k:=k) (by omega)
 by_cases hkl:k<s.length
 ·have hx:s[k]?=some s[k]:=List.getElem?_eq_getElem hkl
  have hat:(s.take (k+1)).all dgB=dgB s[k]:=by rw [List.take_succ_eq_append_getElem hkl,List.all_append,ha];simp
  have ht:=nuV_take hkl
  generalize nuV (s.take k)=n at *
  generalize s[k]=c at *
  by_cases hc:48≤c.toNat∧c.toNat≤57
  ·rw [show dgB c=true from decide_eq_true hc] at hat
   repeat' first|((with_reducible apply J.step);rfl;((with_reducible apply s_sub8_48)<;>(first|rfl|omega)))|refine w9x ?_|(exact J.die0 hD rfl (.cons (.pl rfl rfl) .nil))|(refine w9c ?_ ?_<;>intro _<;>try exact w9o)|fail
   all_goals try exact w9o
   refine⟨k+1,?_,w9n,w9a⟩
   exact⟨by omega,hat⟩
  ·repeat' first|refine w9x ?_|(exact J.die0 hD rfl (.cons (.pl rfl rfl) .nil))|(refine w9c ?_ ?_<;>intro _<;>try exact w9o)|fail
   all_goals try exact w9o
   all_goals done
 ·exfalso
  obtain rfl:s.length=k:=by omega
  rw [List.take_length] at ha
  unfold nuB at h
  rw [ha,Bool.and_true,decide_eq_false_iff_not] at h
  omega
end Go.Proofs.YtkkcnppgcnmikaaGreatDoor
namespace Go.Proofs.YtkkcnppgcnmikaaGreatDoor
open Go Go.Proofs
set_option linter.all false
def litoa_ren:Go.Shelf.Ren:=⟨fun|171=>38|243=>83|246=>143|283=>188|284=>189|285=>190|286=>191|129=>120|317=>233|318=>234|319=>235|320=>236|337=>254|338=>255|n=>n,fun|3=>3|9=>9|2=>2|4=>4|171=>240|0=>0|53=>174|37=>62|5=>5|173=>242|212=>280|51=>172|20=>20|213=>281|46=>120|232=>312|233=>313|n=>n,fun|17=>4|18=>8|19=>9|n=>n⟩
theorem litoa:LaysM.n171 Tryz.prog litoa_ren:={
 mixed:=by kernel_rfl,
 f129:=Tryz.func120.trans (congrArg some (by kernel_rfl)),
 f171:=Tryz.func38.trans (congrArg some (by kernel_rfl)),
 f243:=Tryz.func83.trans (congrArg some (by kernel_rfl)),
 f246:=Tryz.func143.trans (congrArg some (by kernel_rfl)),
 f283:=Tryz.func188.trans (congrArg some (by kernel_rfl)),
 f284:=Tryz.func189.trans (congrArg some (by kernel_rfl)),
 f285:=Tryz.func190.trans (congrArg some (by kernel_rfl)),
 f286:=Tryz.func191.trans (congrArg some (by kernel_rfl)),
 f317:=Tryz.func233.trans (congrArg some (by kernel_rfl)),
 f318:=Tryz.func234.trans (congrArg some (by kernel_rfl)),
 f319:=Tryz.func235.trans (congrArg some (by kernel_rfl)),
 f320:=Tryz.func236.trans (congrArg some (by kernel_rfl)),
 f337:=Tryz.func254.trans (congrArg some (by kernel_rfl)),
 f338:=Tryz.func255.trans (congrArg some (by kernel_rfl)),
 t0:=Tryz.underlying0,
 a0:=Tryz.isAgg0,
 z0:=Tryz.sizeOf0,
 v0:=Tryz.zeroValue0,
 t2:=Tryz.underlying2,
 a2:=Tryz.isAgg2,
 z2:=Tryz.sizeOf2,
 v2:=Tryz.zeroValue2,
 t3:=Tryz.underlying3,
 a3:=Tryz.isAgg3,
 z3:=Tryz.sizeOf3,
 v3:=Tryz.zeroValue3,
 t4:=Tryz.underlying4,
 a4:=Tryz.isAgg4,
 z4:=Tryz.sizeOf4,
 v4:=Tryz.zeroValue4,
 t5:=Tryz.underlying5,
 a5:=Tryz.isAgg5,
 z5:=Tryz.sizeOf5,
 v5:=Tryz.zeroValue5,
 t9:=Tryz.underlying9,
 a9:=Tryz.isAgg9,
 z9:=Tryz.sizeOf9,
 v9:=Tryz.zeroValue9,
 t20:=Tryz.underlying20,
 a20:=Tryz.isAgg20,
 z20:=Tryz.sizeOf20,
 v20:=Tryz.zeroValue20,
 t37:=Tryz.underlying62,
 a37:=Tryz.isAgg62,
 z37:=Tryz.sizeOf62,
 v37:=Tryz.zeroValue62,
 t46:=Tryz.underlying120,
 a46:=Tryz.isAgg120,
 z46:=Tryz.sizeOf120,
 v46:=Tryz.zeroValue120,
 t51:=Tryz.underlying172,
 a51:=Tryz.isAgg172,
 z51:=Tryz.sizeOf172,
 v51:=Tryz.zeroValue172,
 t53:=Tryz.underlying174,
 a53:=Tryz.isAgg174,
 z53:=Tryz.sizeOf174,
 v53:=Tryz.zeroValue174,
 t171:=Tryz.underlying240,
 a171:=Tryz.isAgg240,
 z171:=Tryz.sizeOf240,
 v171:=Tryz.zeroValue240,
 t173:=Tryz.underlying242,
 a173:=Tryz.isAgg242,
 z173:=Tryz.sizeOf242,
 v173:=Tryz.zeroValue242,
 t212:=Tryz.underlying280,
 a212:=Tryz.isAgg280,
 z212:=Tryz.sizeOf280,
 v212:=Tryz.zeroValue280,
 t213:=Tryz.underlying281,
 a213:=Tryz.isAgg281,
 z213:=Tryz.sizeOf281,
 t232:=Tryz.underlying312,
 a232:=Tryz.isAgg312,
 z232:=Tryz.sizeOf312,
 v232:=Tryz.zeroValue312,
 t233:=Tryz.underlying313,
 a233:=Tryz.isAgg313,
 z233:=Tryz.sizeOf313,
 v233:=Tryz.zeroValue313,
 g17:=by kernel_rfl,
 g18:=by kernel_rfl,
 g19:=by kernel_rfl,
 i0:=by kernel_rfl,
 i2:=by kernel_rfl,
 i3:=by kernel_rfl,
 i4:=by kernel_rfl,
 i5:=by kernel_rfl,
 i9:=by kernel_rfl,
 i20:=by kernel_rfl,
 i37:=by kernel_rfl,
 i46:=by kernel_rfl,
 i51:=by kernel_rfl,
 i53:=by kernel_rfl,
 i171:=by kernel_rfl,
 i173:=by kernel_rfl,
 i212:=by kernel_rfl,
 i232:=by kernel_rfl,
 i233:=by kernel_rfl,
 m17:=by kernel_rfl,
 m18:=by kernel_rfl,
 m19:=by kernel_rfl }
def ljoin_ren:Go.Shelf.Ren:=⟨fun|156=>82|165=>140|166=>141|169=>142|240=>186|241=>187|276=>231|277=>232|n=>n,fun|31=>51|9=>9|3=>3|4=>4|0=>0|20=>20|72=>192|76=>131|70=>190|37=>62|75=>130|127=>239|164=>276|5=>5|80=>194|n=>n,fun|n=>n⟩
theorem ljoin:Lays.n156 Tryz.prog ljoin_ren:={
 mixed:=by kernel_rfl,
 f156:=Tryz.func82.trans (congrArg some (by kernel_rfl)),
 f165:=Tryz.func140.trans (congrArg some (by kernel_rfl)),
 f166:=Tryz.func141.trans (congrArg some (by kernel_rfl)),
 f169:=Tryz.func142.trans (congrArg some (by kernel_rfl)),
 f240:=Tryz.func186.trans (congrArg some (by kernel_rfl)),
 f241:=Tryz.func187.trans (congrArg some (by kernel_rfl)),
 f276:=Tryz.func231.trans (congrArg some (by kernel_rfl)),
 f277:=Tryz.func232.trans (congrArg some (by kernel_rfl)),
 t0:=Tryz.underlying0,
 a0:=Tryz.isAgg0,
 z0:=Tryz.sizeOf0,
 v0:=Tryz.zeroValue0,
 t3:=Tryz.underlying3,
 a3:=Tryz.isAgg3,
 z3:=Tryz.sizeOf3,
 v3:=Tryz.zeroValue3,
 t4:=Tryz.underlying4,
 a4:=Tryz.isAgg4,
 z4:=Tryz.sizeOf4,
 v4:=Tryz.zeroValue4,
 t9:=Tryz.underlying9,
 a9:=Tryz.isAgg9,
 z9:=Tryz.sizeOf9,
 v9:=Tryz.zeroValue9,
 t20:=Tryz.underlying20,
 a20:=Tryz.isAgg20,
 z20:=Tryz.sizeOf20,
 v20:=Tryz.zeroValue20,
 t31:=Tryz.underlying51,
 a31:=Tryz.isAgg51,
 z31:=Tryz.sizeOf51,
 v31:=Tryz.zeroValue51,
 t37:=Tryz.underlying62,
 a37:=Tryz.isAgg62,
 z37:=Tryz.sizeOf62,
 v37:=Tryz.zeroValue62,
 t70:=Tryz.underlying190,
 a70:=Tryz.isAgg190,
 z70:=Tryz.sizeOf190,
 v70:=Tryz.zeroValue190,
 t72:=Tryz.underlying192,
 a72:=Tryz.isAgg192,
 z72:=Tryz.sizeOf192,
 v72:=Tryz.zeroValue192,
 t75:=Tryz.underlying130,
 a75:=Tryz.isAgg130,
 z75:=Tryz.sizeOf130,
 v75:=Tryz.zeroValue130,
 t76:=Tryz.underlying131,
 a76:=Tryz.isAgg131,
 z76:=Tryz.sizeOf131,
 v76:=Tryz.zeroValue131,
 t127:=Tryz.underlying239,
 a127:=Tryz.isAgg239,
 z127:=Tryz.sizeOf239,
 v127:=Tryz.zeroValue239,
 t164:=Tryz.underlying276,
 a164:=Tryz.isAgg276,
 z164:=Tryz.sizeOf276,
 v164:=Tryz.zeroValue276 }
def lfields_ren:Go.Shelf.Ren:=⟨fun|157=>90|229=>96|199=>145|261=>192|311=>237|312=>238|n=>n,fun|9=>9|31=>51|3=>3|5=>5|4=>4|119=>196|0=>0|40=>150|152=>206|21=>21|154=>208|51=>172|141=>245|196=>285|193=>282|198=>287|49=>183|194=>283|201=>290|226=>301|46=>120|227=>302|n=>n,fun|0=>0|6=>1|n=>n⟩
theorem lfields:LaysM.n157 Tryz.prog lfields_ren:={
 mixed:=by kernel_rfl,
 f157:=Tryz.func90.trans (congrArg some (by kernel_rfl)),
 f199:=Tryz.func145.trans (congrArg some (by kernel_rfl)),
 f229:=Tryz.func96.trans (congrArg some (by kernel_rfl)),
 f261:=Tryz.func192.trans (congrArg some (by kernel_rfl)),
 f311:=Tryz.func237.trans (congrArg some (by kernel_rfl)),
 f312:=Tryz.func238.trans (congrArg some (by kernel_rfl)),
 t0:=Tryz.underlying0,
 a0:=Tryz.isAgg0,
 z0:=Tryz.sizeOf0,
 v0:=Tryz.zeroValue0,
 t3:=Tryz.underlying3,
 a3:=Tryz.isAgg3,
 z3:=Tryz.sizeOf3,
 v3:=Tryz.zeroValue3,
 t4:=Tryz.underlying4,
 a4:=Tryz.isAgg4,
 z4:=Tryz.sizeOf4,
 v4:=Tryz.zeroValue4,
 t5:=Tryz.underlying5,
 a5:=Tryz.isAgg5,
 z5:=Tryz.sizeOf5,
 v5:=Tryz.zeroValue5,
 t9:=Tryz.underlying9,
 a9:=Tryz.isAgg9,
 z9:=Tryz.sizeOf9,
 v9:=Tryz.zeroValue9,
 t21:=Tryz.underlying21,
 a21:=Tryz.isAgg21,
 z21:=Tryz.sizeOf21,
 v21:=Tryz.zeroValue21,
 t31:=Tryz.underlying51,
 a31:=Tryz.isAgg51,
 z31:=Tryz.sizeOf51,
 v31:=Tryz.zeroValue51,
 t40:=Tryz.underlying150,
 a40:=Tryz.isAgg150,
 z40:=Tryz.sizeOf150,
 v40:=Tryz.zeroValue150,
 t46:=Tryz.underlying120,
 a46:=Tryz.isAgg120,
 z46:=Tryz.sizeOf120,
 v46:=Tryz.zeroValue120,
 t49:=Tryz.underlying183,
 a49:=Tryz.isAgg183,
 z49:=Tryz.sizeOf183,
 v49:=Tryz.zeroValue183,
 t51:=Tryz.underlying172,
 a51:=Tryz.isAgg172,
 z51:=Tryz.sizeOf172,
 v51:=Tryz.zeroValue172,
 t119:=Tryz.underlying196,
 a119:=Tryz.isAgg196,
 z119:=Tryz.sizeOf196,
 t141:=Tryz.underlying245,
 a141:=Tryz.isAgg245,
 z141:=Tryz.sizeOf245,
 v141:=Tryz.zeroValue245,
 t152:=Tryz.underlying206,
 a152:=Tryz.isAgg206,
 z152:=Tryz.sizeOf206,
 v152:=Tryz.zeroValue206,
 t154:=Tryz.underlying208,
 a154:=Tryz.isAgg208,
 z154:=Tryz.sizeOf208,
 v154:=Tryz.zeroValue208,
 t193:=Tryz.underlying282,
 a193:=Tryz.isAgg282,
 z193:=Tryz.sizeOf282,
 v193:=Tryz.zeroValue282,
 t194:=Tryz.underlying283,
 a194:=Tryz.isAgg283,
 z194:=Tryz.sizeOf283,
 v194:=Tryz.zeroValue283,
 t196:=Tryz.underlying285,
 a196:=Tryz.isAgg285,
 z196:=Tryz.sizeOf285,
 v196:=Tryz.zeroValue285,
 t198:=Tryz.underlying287,
 a198:=Tryz.isAgg287,
 z198:=Tryz.sizeOf287,
 v198:=Tryz.zeroValue287,
 t201:=Tryz.underlying290,
 a201:=Tryz.isAgg290,
 z201:=Tryz.sizeOf290,
 v201:=Tryz.zeroValue290,
 t226:=Tryz.underlying301,
 a226:=Tryz.isAgg301,
 z226:=Tryz.sizeOf301,
 v226:=Tryz.zeroValue301,
 t227:=Tryz.underlying302,
 a227:=Tryz.isAgg302,
 z227:=Tryz.sizeOf302,
 v227:=Tryz.zeroValue302,
 g0:=by kernel_rfl,
 g6:=by kernel_rfl,
 i0:=by kernel_rfl,
 i3:=by kernel_rfl,
 i4:=by kernel_rfl,
 i5:=by kernel_rfl,
 i9:=by kernel_rfl,
 i21:=by kernel_rfl,
 i31:=by kernel_rfl,
 i40:=by kernel_rfl,
 i46:=by kernel_rfl,
 i49:=by kernel_rfl,
 i51:=by kernel_rfl,
 i141:=by kernel_rfl,
 i152:=by kernel_rfl,
 i154:=by kernel_rfl,
 i193:=by kernel_rfl,
 i194:=by kernel_rfl,
 i196:=by kernel_rfl,
 i198:=by kernel_rfl,
 i201:=by kernel_rfl,
 i226:=by kernel_rfl,
 i227:=by kernel_rfl,
 m0:=by kernel_rfl,
 m6:=by kernel_rfl }
def lsplit_ren:Go.Shelf.Ren:=⟨fun|146=>51|221=>91|268=>146|138=>147|143=>148|195=>193|197=>194|218=>195|219=>196|260=>239|217=>240|225=>241|224=>242|267=>243|266=>256|314=>257|n=>n,fun|9=>9|31=>51|3=>3|4=>4|0=>0|105=>246|21=>21|5=>5|46=>120|119=>196|139=>305|138=>304|146=>306|51=>172|n=>n,fun|1=>5|3=>6|4=>7|n=>n⟩
theorem lsplit:LaysM.n146 Tryz.prog lsplit_ren:={
 mixed:=by kernel_rfl,
 f138:=Tryz.func147.trans (congrArg some (by kernel_rfl)),
 f143:=Tryz.func148.trans (congrArg some (by kernel_rfl)),
 f146:=Tryz.func51.trans (congrArg some (by kernel_rfl)),
 f195:=Tryz.func193.trans (congrArg some (by kernel_rfl)),
 f197:=Tryz.func194.trans (congrArg some (by kernel_rfl)),
 f217:=Tryz.func240.trans (congrArg some (by kernel_rfl)),
 f218:=Tryz.func195.trans (congrArg some (by kernel_rfl)),
 f219:=Tryz.func196.trans (congrArg some (by kernel_rfl)),
 f221:=Tryz.func91.trans (congrArg some (by kernel_rfl)),
 f224:=Tryz.func242.trans (congrArg some (by kernel_rfl)),
 f225:=Tryz.func241.trans (congrArg some (by kernel_rfl)),
 f260:=Tryz.func239.trans (congrArg some (by kernel_rfl)),
 f266:=Tryz.func256.trans (congrArg some (by kernel_rfl)),
 f267:=Tryz.func243.trans (congrArg some (by kernel_rfl)),
 f268:=Tryz.func146.trans (congrArg some (by kernel_rfl)),
 f314:=Tryz.func257.trans (congrArg some (by kernel_rfl)),
 t0:=Tryz.underlying0,
 a0:=Tryz.isAgg0,
 z0:=Tryz.sizeOf0,
 v0:=Tryz.zeroValue0,
 t3:=Tryz.underlying3,
 a3:=Tryz.isAgg3,
 z3:=Tryz.sizeOf3,
 v3:=Tryz.zeroValue3,
 t4:=Tryz.underlying4,
 a4:=Tryz.isAgg4,
 z4:=Tryz.sizeOf4,
 v4:=Tryz.zeroValue4,
 t5:=Tryz.underlying5,
 a5:=Tryz.isAgg5,
 z5:=Tryz.sizeOf5,
 v5:=Tryz.zeroValue5,
 t9:=Tryz.underlying9,
 a9:=Tryz.isAgg9,
 z9:=Tryz.sizeOf9,
 v9:=Tryz.zeroValue9,
 t21:=Tryz.underlying21,
 a21:=Tryz.isAgg21,
 z21:=Tryz.sizeOf21,
 v21:=Tryz.zeroValue21,
 t31:=Tryz.underlying51,
 a31:=Tryz.isAgg51,
 z31:=Tryz.sizeOf51,
 v31:=Tryz.zeroValue51,
 t46:=Tryz.underlying120,
 a46:=Tryz.isAgg120,
 z46:=Tryz.sizeOf120,
 v46:=Tryz.zeroValue120,
 t51:=Tryz.underlying172,
 a51:=Tryz.isAgg172,
 z51:=Tryz.sizeOf172,
 v51:=Tryz.zeroValue172,
 t105:=Tryz.underlying246,
 a105:=Tryz.isAgg246,
 z105:=Tryz.sizeOf246,
 v105:=Tryz.zeroValue246,
 t119:=Tryz.underlying196,
 a119:=Tryz.isAgg196,
 z119:=Tryz.sizeOf196,
 t138:=Tryz.underlying304,
 a138:=Tryz.isAgg304,
 z138:=Tryz.sizeOf304,
 v138:=Tryz.zeroValue304,
 t139:=Tryz.underlying305,
 a139:=Tryz.isAgg305,
 z139:=Tryz.sizeOf305,
 v139:=Tryz.zeroValue305,
 t146:=Tryz.underlying306,
 a146:=Tryz.isAgg306,
 z146:=Tryz.sizeOf306,
 v146:=Tryz.zeroValue306,
 g1:=by kernel_rfl,
 g3:=by kernel_rfl,
 g4:=by kernel_rfl,
 i0:=by kernel_rfl,
 i3:=by kernel_rfl,
 i4:=by kernel_rfl,
 i5:=by kernel_rfl,
 i9:=by kernel_rfl,
 i21:=by kernel_rfl,
 i31:=by kernel_rfl,
 i46:=by kernel_rfl,
 i51:=by kernel_rfl,
 i105:=by kernel_rfl,
 i138:=by kernel_rfl,
 i139:=by kernel_rfl,
 i146:=by kernel_rfl,
 m1:=by kernel_rfl,
 s1_3:=fun w h=>Go.Proofs.cell_of_shapedOpen_int (zero:=#[.int .i64 0]) (t:=3) h (of_decide_eq_true (by kernel_rfl)) (by kernel_rfl) rfl (by kernel_rfl) (by kernel_rfl) Tryz.underlying3,
 m3:=by kernel_rfl,
 m4:=by kernel_rfl }
end Go.Proofs.YtkkcnppgcnmikaaGreatDoor
