/- A log's methods, walked. -/
import Derived.Test.YtkkcnppgcnmikaaGreatDoorAce
import Derived.Test.YtkkcnppgcnmikaaGreatDoorAbe
import Derived.Test.YtkkcnppgcnmikaaGreatDoorAcd
import Derived.Test.YtkkcnppgcnmikaaGreatDoorAbi
import Derived.Test.YtkkcnppgcnmikaaGreatDoorAca
import Derived.Test.YtkkcnppgcnmikaaGreatDoorAcc
import Derived.Laws.IdiomCopy
import Derived.Lib.Overlaps
import Derived.Lib.AppendZerosOnto
namespace Go.Proofs.YtkkcnppgcnmikaaGreatDoor
open Go FM
set_option maxRecDepth 10000
set_option maxHeartbeats 1600000
set_option linter.all false
abbrev lgO(d:List UInt8)(n:Int):AV:=.pt true [.str d,.int n]
abbrev lgS(d:List UInt8)(n:Int):AV:=.pt false [.str d,.int n]
abbrev lgA(d:List UInt8)(n:Int):AV:=.agg [.str d,.int n]
theorem logNew_spec:FnSpec Sy.P 26 [] [] (lgO [] 0):=by
 refine enT Tryz.func26 Tryz.ntmps26 fun v0=>?_
 repeat' first|refine w9x ?_|fail
 exact .mk rfl rfl rfl
def appE(d rec:List UInt8):Int:=if 64<rec.length then 2 else if 4000<d.length+rec.length+3 then 8 else 0
def appD(d rec:List UInt8):List UInt8:=if 64<rec.length then d else if 4000<d.length+rec.length+3 then d else d++frm rec
theorem logAppend_spec(d rec:List UInt8)(n:Int)(hd:d.length≤4000)(hr:rec.length≤9223372036854775807):FnSpec Sy.P 65 [lgO d n,.str rec] [lgO (appD d rec) n,.str rec] (.int (appE d rec)):=by
 have h1:=logFrame_spec rec hr
 have hfl:=frm_length rec
 unfold appE appD
 refine FnSpec.enter (S:=Sy) 1 Tryz.func65 rfl rfl rfl Tryz.ntmps65 rfl rfl rfl rfl fun v0=>?_
 by_cases hc:64<rec.length
 ·rw [if_pos hc] at h1
  rw [if_pos hc,if_pos hc]
  repeat' first|refine w9x ?_|refine w9p (h1) ?_|(refine w9c ?_ ?_<;>intro _<;>try exact w9o)|fail
  all_goals exact w9e
 ·rw [if_neg hc] at h1
  rw [if_neg hc,if_neg hc]
  generalize frm rec=fr at *
  by_cases hc2:4000<d.length+rec.length+3
  ·rw [if_pos hc2,if_pos hc2]
   repeat' first|refine w9x ?_|refine w9p (h1) ?_|(refine w9c ?_ ?_<;>intro _<;>try exact w9o)|fail
   all_goals exact w9e
  ·rw [if_neg hc2,if_neg hc2]
   repeat' first|refine w9x ?_|refine w9p (h1) ?_|(refine w9c ?_ ?_<;>intro _<;>try exact w9o)|fail
   all_goals exact w9e
theorem appendOf_spec(d rec:List UInt8)(n:Int)(hd:d.length≤4000)(hr:rec.length≤9223372036854775807):FnSpec Sy.P 36 [lgA d n,.str rec] [lgA d n,.str rec] (.tup [lgA (appD d rec) n,.int (appE d rec)]):=by
 unfold appE appD
 refine enT Tryz.func36 Tryz.ntmps36 fun v0=>?_
 by_cases hc:64<rec.length
 ·rw [if_pos hc,if_pos hc]
  repeat' first|refine w9x ?_|(refine w9c ?_ ?_<;>intro _<;>try exact w9o)|fail
  all_goals exact w9e
 ·have h1:=frameOf_spec rec (by omega)
  have hfl:=frm_length rec
  rw [if_neg hc,if_neg hc]
  generalize frm rec=fr at *
  by_cases hc2:4000<d.length+rec.length+3
  ·rw [if_pos hc2,if_pos hc2]
   repeat' first|refine w9x ?_|refine w9p (h1) ?_|(refine w9c ?_ ?_<;>intro _<;>try exact w9o)|fail
   all_goals exact w9e
  ·rw [if_neg hc2,if_neg hc2]
   repeat' first|refine w9x ?_|refine w9p (h1) ?_|(refine w9c ?_ ?_<;>intro _<;>try exact w9o)|fail
   all_goals exact w9e
theorem logSync_spec(d:List UInt8)(n:Int):FnSpec Sy.P 30 [lgO d n] [lgO d d.length] (.tup []):=by
 refine FnSpec.enter (S:=Sy) 1 Tryz.func30 rfl rfl rfl Tryz.ntmps30 rfl rfl rfl rfl fun v0=>?_
 repeat' first|refine w9x ?_|fail
 exact⟨rfl,⟨_,rfl,.refl _⟩,rfl,args_start (args_mu rfl rfl args_nil)⟩
theorem logSize_spec(d:List UInt8)(n:Int):FnSpec Sy.P 48 [lgS d n] [lgS d n] (.tup [.int d.length,.int n]):=by
 refine enT Tryz.func48 Tryz.ntmps48 fun v0=>?_
 repeat' first|refine w9x ?_|fail
 exact .mk rfl rfl rfl
theorem logAll_spec(d:List UInt8)(n:Int)(hd:d.length≤4000):FnSpec Sy.P 72 [lgS d n] [lgS d n] (strs true (scan d).1):=by
 have h1:=logScan_spec d (by omega)
 generalize scan d=z at *
 obtain⟨zl,zk⟩:=z
 refine enT Tryz.func72 Tryz.ntmps72 fun v0=>?_
 repeat' first|refine w9x ?_|refine w9p (h1) ?_|fail
 exact .mk rfl rfl rfl
def crE(d:List UInt8)(n k:Int):Int:=if k<0∨(d.length:Int)-n<k then 1 else 0
def crD(d:List UInt8)(n k:Int):List UInt8:=if k<0∨(d.length:Int)-n<k then d else(d.take (n+k).toNat).take (scan (d.take (n+k).toNat)).2
def crN(d:List UInt8)(n k:Int):Int:=if k<0∨(d.length:Int)-n<k then n else((scan (d.take (n+k).toNat)).2:Nat)
theorem logCrash_spec(d:List UInt8)(n k:Int)(hd:d.length≤4000)(hn:0≤n∧n≤d.length):FnSpec Sy.P 31 [lgO d n,.int k] [lgO (crD d n k) (crN d n k),.int k] (.int (crE d n k)):=by
 unfold crE crD crN
 refine FnSpec.enter (S:=Sy) 1 Tryz.func31 rfl rfl rfl Tryz.ntmps31 rfl rfl rfl rfl fun v0=>?_
 by_cases hc:k<0∨(d.length:Int)-n<k
 ·rw [if_pos hc,if_pos hc,if_pos hc]
  repeat' first|refine w9x ?_|(refine w9c ?_ ?_<;>intro _<;>try exact w9o)|fail
  all_goals exact w9e
 ·rw [if_neg hc,if_neg hc,if_neg hc]
  have hl:(d.take (n+k).toNat).length≤4000:=by rw [List.length_take];omega
  have h1:=logScan_spec (d.take (n+k).toNat) (by omega)
  have h2:=scan_le _ (d.take (n+k).toNat) (Nat.le_refl _)
  generalize scan (d.take (n+k).toNat)=z at *
  obtain⟨zl,zk⟩:=z
  dsimp only at *
  repeat' first|refine w9x ?_|refine w9p (h1) ?_|(refine w9c ?_ ?_<;>intro _<;>try exact w9o)|fail
  all_goals exact w9e
theorem crashOf_spec(d:List UInt8)(n k:Int)(hd:d.length≤4000)(hn:0≤n∧n≤d.length):FnSpec Sy.P 44 [lgA d n,.int k] [lgA d n,.int k] (.tup [lgA (crD d n k) (crN d n k),.int (crE d n k)]):=by
 unfold crE crD crN
 refine enT Tryz.func44 Tryz.ntmps44 fun v0=>?_
 by_cases hc:k<0∨(d.length:Int)-n<k
 ·rw [if_pos hc,if_pos hc,if_pos hc]
  repeat' first|refine w9x ?_|(refine w9c ?_ ?_<;>intro _<;>try exact w9o)|fail
  all_goals exact w9e
 ·rw [if_neg hc,if_neg hc,if_neg hc]
  have hl:(d.take (n+k).toNat).length≤4000:=by rw [List.length_take];omega
  have h1:=scanOf_spec _ (d.take (n+k).toNat) (Nat.le_refl _) (by omega)
  have h2:=scan_le _ (d.take (n+k).toNat) (Nat.le_refl _)
  generalize scan (d.take (n+k).toNat)=z at *
  obtain⟨zl,zk⟩:=z
  dsimp only at *
  repeat' first|refine w9x ?_|refine w9p (h1) ?_|(refine w9c ?_ ?_<;>intro _<;>try exact w9o)|fail
  all_goals exact w9e
end Go.Proofs.YtkkcnppgcnmikaaGreatDoor
namespace Go.Proofs.YtkkcnppgcnmikaaGreatDoor
open Go FM Go.Proofs
set_option maxRecDepth 10000
set_option maxHeartbeats 1600000
set_option linter.all false
abbrev hsV(A:List Ac)(O:List Dl)(k:Str)(n:Int):AV:=.pt true [.sl false 3 (A.map acA),.sl false 6 (O.map dlA),lgO k n]
abbrev hsS(A:List Ac)(O:List Dl)(k:Str)(n:Int):AV:=.pt false [.sl false 3 (A.map acA),.sl false 6 (O.map dlA),lgS k n]
theorem sh_hs{A:List Ac}{O:List Dl}{k:Str}{n:Int}:(hsV A O k n).sh=hsS A O k n:=by
 simp only [AV.sh,AV.shL]
 rw [shL_map acA A acA fun x=>rfl,shL_map dlA O dlA fun x=>rfl]
theorem new_spec:FnSpec Sy.P 6 [] [] (hsV [] [] [] 0):=by
 refine enT Tryz.func6 Tryz.ntmps6 fun v0=>?_
 repeat' first|(apply J.bldBox (c1:=3) (c2:=6)<;>(first|rfl|skip))|refine w9x ?_|refine w9p (logNew_spec) ?_|fail
 exact .mk rfl rfl rfl
theorem hfind1_spec(a:Ac)(s:Str):FnSpec Sy.P 75 [acA a,.pt false [.str s]] [acA a,.pt false [.str s]] (.bool (decide (a.1=s))):=by
 refine enT Tryz.func75 Tryz.ntmps75 fun v0=>?_
 repeat' first|refine w9x ?_|fail
 exact .mk rfl rfl rfl
theorem hfind1_arg{s:Str}{m:Nat}{v:Nat→Value}{N:Nat}{σ:St}{t q:Nat}(ht:FM.get σ t=.clo 75 [q])(h1:FM.get σ q=.av (.pt true [.str s])):ArgOk (Sy.fixed m v) N σ (.tmp t) true (fnAc (fun _=>True) fun a=>decide (a.1=s)) :=
 cloAc (zs:=[.pt false [.str s]]) ht (.cons h1 rfl .nil) (hfind1_spec ([],0,0,()) []).ok fun x _=>hfind1_spec x s
theorem hfind_spec(A:List Ac)(O:List Dl)(k:Str)(n:Int)(s:Str)(hl:A.length≤1000):FnSpec Sy.P 33 [hsS A O k n,.str s] [hsS A O k n,.str s] (.int (fA A s)):=by
 have hI:=indexAc_spec A (fun _=>True) (fun a=>decide (a.1=s)) (by omega) (fun _ _=>trivial)
 refine enT Tryz.func33 Tryz.ntmps33 fun v0=>?_
 repeat' first|((with_reducible apply J.step);rfl;(exact s_mkf (caps:=[3]) rfl rfl))|refine w9x ?_|((with_reducible first|apply J.callP (hI)|apply J.callPQ (hI));rfl;rfl;(repeat' (first|exact ArgsOk.nil|exact hfind1_arg rfl rfl|apply ArgsOk.cons|exact ArgOk.pl rfl rfl|exact ArgOk.br rfl AV.noConfusion (by first|rfl|exact sh_int|exact sh_rows|exact sh_rowsO|exact sh_box|exact sh_map (fun _=>rfl))));(first|rfl|exact gn0|exact gnI))
 exact .mk rfl rfl rfl
theorem nm_len{s:Str}(h:nmB s=true):0<s.length∧s.length≤8:=by
 unfold nmB at h
 simp only [Bool.and_eq_true,decide_eq_true_eq] at h
 exact h.1
theorem nm_wd{s:Str}(h:nmB s=true):Zp.Wd s:=by
 have h1:=nm_len h
 unfold nmB at h
 simp only [Bool.and_eq_true,List.all_eq_true] at h
 refine⟨fun e=>by subst e;simp at h1,fun b hb=>?_⟩
 have:=h.2 b hb
 unfold azB at this
 simp only [decide_eq_true_eq] at this
 exact Zp.sp_digit (by omega) (by omega)
def dnums(d:Dl):List Int:=[d.2.2.1,d.2.2.2.1,d.2.2.2.2.1,d.2.2.2.2.2.1]
def recK(d:Dl):Nat→Str
 | 0=>[100,32]++d.1++[32]++d.2.1
 | k+1=>recK d k++([32]++Lib.itoa ((dnums d).getD k 0))
def recD(d:Dl)(w:Str):Str:=recK d 4++[32]++w
def recO(s:Str)(m:Int):Str:=[111,32]++s++[32]++Lib.itoa m
abbrev wsD(d:Dl)(w:Str):List Str:=[[100],d.1,d.2.1,Lib.itoa d.2.2.1,Lib.itoa d.2.2.2.1,Lib.itoa d.2.2.2.2.1,Lib.itoa d.2.2.2.2.2.1,w]
abbrev wsO(s:Str)(m:Int):List Str:=[[111],s,Lib.itoa m]
theorem recD_jn(d:Dl)(w:Str):recD d w=Zp.jn (wsD d w):=by simp [recD,recK,dnums,Zp.jn,wsD]
theorem recO_jn(s:Str)(m:Int):recO s m=Zp.jn (wsO s m):=by simp [recO,Zp.jn,wsO]
theorem dnums_ok{d:Dl}(h:DlOk d):∀ n∈dnums d,0≤n∧n≤1000000:=by
 intro n hn
 have h1:=h.num;have h2:=h.much;have h3:=h.fee;have h4:=h.size
 simp only [dnums,List.mem_cons,List.not_mem_nil,or_false] at hn
 rcases hn with rfl|rfl|rfl|rfl<;>omega
theorem recK_len{d:Dl}(h:DlOk d):∀ k,k≤4→(recK d k).length≤19+8*k
 | 0,_=>by
  have h1:=nm_len h.f
  have h2:=nm_len h.t
  simp only [recK,List.length_append,List.length_cons,List.length_nil] at *
  omega
 | k+1,hk=>by
  have ih:=recK_len h k (by omega)
  have hg:(dnums d)[k]?=some (dnums d)[k]:=List.getElem?_eq_getElem (by simp [dnums];omega)
  have hn:=dnums_ok h _ (List.mem_of_getElem? hg)
  have:=Zp.itoa_len _ hn.1 hn.2
  simp only [recK,List.getD_eq_getElem?_getD,hg,Option.getD_some,List.length_append,List.length_cons,List.length_nil] at *
  omega
theorem recD_len{d:Dl}{w:Str}(h:DlOk d)(hw:w.length≤8):(recD d w).length≤60:=by
 have:=recK_len h 4 (by omega)
 unfold recD
 simp only [List.length_append,List.length_cons,List.length_nil]
 omega
theorem recK_succ{d:Dl}{k:Nat}{n:Int}(h:(dnums d)[k]?=some n):recK d (k+1)=recK d k++([32]++Lib.itoa n):=by
 rw [recK,List.getD_eq_getElem?_getD,h];rfl
theorem deal_spec(d:Dl)(w:Str)(hd:DlOk d)(hw:w.length≤8):FnSpec Sy.P 69 [dlA d,.str w] [dlA d,.str w] (.str (recD d w)):=by
 have h1:=nm_len hd.f
 have h2:=nm_len hd.t
 refine enT Tryz.func69 Tryz.ntmps69 fun v0=>?_
 repeat' first|refine w9x ?_|(refine w9c ?_ ?_<;>intro _<;>try exact w9o)|fail
 refine CW.loop (fun k:Nat=>[(1,.av (.str w)),(5,.av (.str (recK d k))),(23,.av (.sl true 1 ((dnums d).map .int))),(24,.av (.int (4))),(25,.av (.int (k)))]) (fun k=>k≤4) (fun k=>4-k) (0) ?_ (w9a) ?_
 ·exact Nat.zero_le _
 intro k hk
 have hl:=recK_len hd k hk
 by_cases hlt:k<4
 ·have hg:(dnums d)[k]?=some (dnums d)[k]:=List.getElem?_eq_getElem hlt
  have hs:=recK_succ hg
  have hn:=dnums_ok hd _ (List.mem_of_getElem? hg)
  have hdl:(dnums d).length=4:=rfl
  generalize (dnums d)[k]=n at *
  have hI:=itoa_spec n (by omega) (by omega)
  have hil:=Zp.itoa_len n hn.1 hn.2
  generalize recK d k=r at *
  generalize Lib.itoa n=z at *
  generalize dnums d=ds at *
  repeat' first|refine w9x ?_|refine w9p (hI) ?_|(refine w9c ?_ ?_<;>intro _<;>try exact w9o)|fail
  all_goals try exact w9o
  refine⟨k+1,?_,w9n,by(repeat' (first|exact w9b|refine And.intro ?_ ?_|(rw [hs])))⟩
  exact hlt
 ·obtain rfl:k=4:=by omega
  have e:recD d w=recK d 4++[32]++w:=rfl
  rw [e]
  generalize recK d 4=r at *
  generalize dnums d=ds at *
  repeat' first|refine w9x ?_|(refine w9c ?_ ?_<;>intro _<;>try exact w9o)|fail
  all_goals exact w9e
theorem words_spec(l:List Str)(hN:l.length≤1000)(hl:(Zp.jn l).length≤1000):FnSpec Sy.P 37 [.sl false 1 (l.map .str)] [.sl false 1 (l.map .str)] (.str (Zp.jn l)):=by
 rw [← Zp.join_jn] at hl ⊢
 have hJ:=join_spec l [32] (by omega) (by omega)
 refine enT Tryz.func37 Tryz.ntmps37 fun v0=>?_
 repeat' first|refine w9x ?_|refine w9p (hJ) ?_|fail
 exact .mk rfl rfl rfl
theorem record_spec(d:Dl)(w:Str)(hd:DlOk d)(hw:w.length≤8):FnSpec Sy.P 42 [dlA d,.str w] [dlA d,.str w] (.str (recD d w)):=by
 have h0:=recD_len hd hw
 rw [recD_jn] at h0 ⊢
 have hW:=words_spec (wsD d w) (by simp) (by omega)
 have n1:=hd.num;have n2:=hd.much;have n3:=hd.fee;have n4:=hd.size
 have i1:=itoa_spec d.2.2.1 (by omega) (by omega)
 have i2:=itoa_spec d.2.2.2.1 (by omega) (by omega)
 have i3:=itoa_spec d.2.2.2.2.1 (by omega) (by omega)
 have i4:=itoa_spec d.2.2.2.2.2.1 (by omega) (by omega)
 refine enT Tryz.func42 Tryz.ntmps42 fun v0=>?_
 repeat' first|((with_reducible refine CW.regS 3 ?_ ?_ ?_);kernel_rfl;rfl;simp only [List.length_cons,List.length_nil,Nat.reduceAdd,Nat.reduceSub,List.take_succ_cons,List.take_zero,List.drop_succ_cons,List.drop_zero])|refine w9x ?_|refine w9p (i1) ?_|refine w9p (i2) ?_|refine w9p (i3) ?_|refine w9p (i4) ?_|refine w9p (hW) ?_|fail
 exact .mk rfl rfl rfl
end Go.Proofs.YtkkcnppgcnmikaaGreatDoor
namespace FM
open Go Go.RowKit
set_option linter.all false
theorem run_copyK{P:Program}(w:World)(dT sT ty elem:TypeId)(b o dLen dCap:Nat)(a:Addr)(sLen sCap c:Nat)(cs:List Value)
  (hu:P.underlying dT=some (.slice elem)) (hs:(P.info? elem).map (·.size)=some c) (hn:cs.length=Nat.min sLen dLen*c)
  (hsrc:∀ (j:Nat) v,cs[j]?=some v→w.cell? (a.add j)=some v) (hc:∀ j,j<cs.length→(w.cell? ⟨b,o+j,none⟩).isSome=true) (hf:∀ j,j<cs.length→w.frozen? ⟨b,o+j,none⟩=false) (h1:∀ v∈cs,v.oneCell'=true) :
  (Builtin.copy_ #[dT,sT] ty #[.slice (some ⟨b,o,none⟩) dLen dCap,.slice (some a) sLen sCap]).run P w=.ok (goInt (Nat.min sLen dLen:Nat)) (w.setCells b o cs):=by
 have hl:=run_loadCells_list (P:=P) w a cs hsrc
 have hst:=run_storeCells_cells (P:=P) b o cs 0 w (by simpa using hc) (by simpa using hf) h1
 cases hq:P.info? elem with
 | none=>simp [hq] at hs
 | some i =>
  have hi:i.size=c:=by simpa [hq] using hs
  simp [Builtin.copy_,run_underlying hu,Builtin.lenOf,Builtin.firstCells,Go.sizeOf,typeInfo,hq,hi,←hn,hl,hst]
theorem setCells_row(b:Nat)(e:TypeId):∀ (vs:List Value) (o:Nat) (w:World) (arr:Array Value),w.heap[b]?=some (.cells arr e (0,0))→o+vs.length≤arr.size →
  ∃ A,(w.setCells b o vs).heap[b]?=some (.cells A e (0,0))∧A.size=arr.size∧∀ j,A[j]?=if o≤j∧j<o+vs.length then vs[j-o]? else arr[j]?
 | [],o,w,arr,h,_=>⟨arr,h,rfl,fun j=>by rw [if_neg (by simp only [List.length_nil];omega)]⟩
 | v::r,o,w,arr,h,hl=>by
  rw [List.length_cons] at hl
  have h1:(w.setCell ⟨b,o,none⟩ v).heap[b]?=some (.cells (arr.setIfInBounds o v) e (0,0)):=by simp [World.setCell,Array.getElem?_modify,h]
  obtain⟨A,a1,a2,a3⟩:=setCells_row b e r (o+1) _ _ h1 (by simp;omega)
  refine⟨A,a1,by simpa using a2,fun j=>?_⟩
  rw [a3,List.length_cons]
  by_cases h2:o+1≤j∧j<o+1+r.length
  ·rw [if_pos h2,if_pos (by omega),show j-o=(j-(o+1))+1 by omega,List.getElem?_cons_succ]
  ·rw [if_neg h2,Array.getElem?_setIfInBounds]
   by_cases h3:o=j
   ·subst h3
    rw [if_pos rfl,if_pos (by omega),if_pos (by omega),Nat.sub_self];rfl
   ·rw [if_neg h3,if_neg (by omega)]
theorem setCells_keep(b:Nat):∀ (vs:List Value) (o:Nat) (w:World),(∀ k,k≠b→(w.setCells b o vs).heap[k]?=w.heap[k]?)∧(w.setCells b o vs).heap.size=w.heap.size∧(w.setCells b o vs).os=w.os∧(w.setCells b o vs).tape=w.tape∧(w.setCells b o vs).output=w.output
 | [],o,w=>⟨fun _ _=>rfl,rfl,rfl,rfl,rfl⟩
 | v::r,o,w=>by
  obtain⟨h1,h2,h3,h4,h5⟩:=setCells_keep b r (o+1) (w.setCell ⟨b,o,none⟩ v)
  refine⟨fun k hk=>(h1 k hk).trans ?_,h2.trans ?_,h3.trans rfl,h4.trans rfl,h5.trans rfl⟩
  ·simp [World.setCell,Array.getElem?_modify,Ne.symm hk]
  ·simp [World.setCell]
def RowOut(w:World)(b n c:Nat)(news:List Value)(v:Value)(w':World):Prop :=
 ∃ B C A et,v=.slice (some ⟨B,0,none⟩) n C∧(B=b∨w.heap.size≤B)∧n≤C∧A.size=C*c∧w'.heap[B]?=some (.cells A et (0,0))∧(∀ (j:Nat) u,news[j]?=some u→A[j]?=some u)∧w.heap.size≤w'.heap.size∧(∀ k,k≠b→k<w.heap.size→w'.heap[k]?=w.heap[k]?)∧w'.os=w.os∧w'.tape=w.tape∧w'.output=w.output
theorem back_out{L:Nat→Lab}{w:World}{b N n c:Nat}{vs:List Value}{news:List Value}{v:Value}{w':World}{ys xs9':List AV}(hpre:FM.Pre N L w)(hL:L b=.my [0])(hN:0<N)(hvs:vs.length=N)(h:RowOut w b n c news v w')(hys:ys.length=n)(hc:∀ x∈ys,x.cells.length=c)
  (hnews:∀ (o:Nat) y,(flat ys)[o]?=some y→∃ u,news[o]?=some u∧∀ (L:Nat→Lab) (w:World) π,Rep L w π y u) (has:∀ (i:Nat) x,xs9'[i]?=some x→x=.dead) :
  ∃ L',FM.Back N xs9' (.sl true c ys) L w vs v w' L':=by
 obtain⟨B,C,A,et,rfl,hB,hnC,hA,hH,hcells,hs,hk,ho,ht,hu⟩:=h
 have hlno:∀ b',L b'≠.my [N]:=fun b' h=>by obtain⟨i,q,e1,e2⟩:=hpre.head b' _ h;cases e1;omega
 have hBl:B<w'.heap.size:=(Array.getElem?_eq_some_iff.1 hH).1
 obtain⟨L',hL'⟩:∃ L':Nat→Lab,L'=fun b'=>if b'=B then .my [N] else L b':=⟨_,rfl⟩
 have l1:L' B=.my [N]:=by rw [hL'];simp
 have l2:∀ b',b'≠B→L' b'=L b':=fun b' h=>by rw [hL'];simp [h]
 clear hL'
 subst hys
 refine⟨L',⟨ho,ht,hu,hs,fun b' h1 h2=>hk b' (fun e=>by subst e;exact h2 _ hL) h1⟩,⟨fun b' p hp=>?_,fun b1 b2 p h1 h2=>?_,fun b' p hp e=>?_,fun b' p hlt hp=>?_,fun b' hlt=>?_,fun b' h1 h2=>?_⟩,fun b' p hp=>?_,fun i x u' hx hu=>?_,?_⟩
 ·by_cases e:b'=B
  ·subst e;exact hBl
  ·rw [l2 b' e] at hp;have:=hpre.lt b' p hp;omega
 ·by_cases e1:b1=B
  ·subst e1
   rw [l1] at h1;cases h1
   by_cases e2:b2=b1
   ·exact e2.symm
   ·rw [l2 b2 e2] at h2;exact absurd h2 (hlno b2)
  ·rw [l2 b1 e1] at h1
   by_cases e2:b2=B
   ·subst e2
    rw [l1] at h2;cases h2
    exact absurd h1 (hlno b1)
   ·rw [l2 b2 e2] at h2;exact hpre.inj b1 b2 p h1 h2
 ·subst e
  by_cases e:b'=B
  ·subst e;rw [l1] at hp;cases hp
  ·rw [l2 b' e] at hp;obtain⟨i,q,h,_⟩:=hpre.head b' [] hp;cases h
 ·by_cases e:b'=B
  ·subst e
   rcases hB with rfl|hB
   ·exact⟨_,hL⟩
   ·omega
  ·rw [l2 b' e] at hp;exact⟨p,hp⟩
 ·by_cases e:b'=B
  ·subst e
   rcases hB with rfl|hB
   ·rw [l1,hL];constructor<;>intro h<;>cases h
   ·omega
  ·rw [l2 b' e]
 ·by_cases e:b'=B
  ·subst e;rw [l1] at h2;cases h2
  ·rw [l2 b' e] at h2;exact hpre.new b' h1 h2
 ·by_cases e:b'=B
  ·subst e;rw [l1] at hp;cases hp;exact⟨N,[],rfl,Nat.le_refl _⟩
  ·rw [l2 b' e] at hp;obtain⟨i,q,h,h2⟩:=hpre.head b' p hp;exact⟨i,q,h,by omega⟩
 ·rw [has i x hx];exact .dead
 ·refine .slO (fun o=>(A[o]?).getD undef) l1 hH hnC hA hc (fun o ho=>?_) fun o y hy=>?_
  ·have:o<A.size:=by rw [hA];exact Nat.lt_of_lt_of_le ho (Nat.mul_le_mul_right _ hnC)
   rw [Array.getElem?_eq_getElem this];rfl
  ·obtain⟨u,h1,h2⟩:=hnews o y hy
   rw [hcells o u h1];exact h2 _ _ _
/-! ### rows of plain cells -/
def simp1:AV→Bool
 | .int _=>true
 | .str _=>true
 | _=>false
theorem toV_one{L:Nat→Lab}{w:World}{π:Option (List Nat)}{y:AV}{v:Value}(h:simp1 y=true)(hr:Rep L w π y v):v=y.toV:=by
 cases hr<;>first|rfl|(simp [simp1] at h)
theorem toV_any{L:Nat→Lab}{w:World}{π:Option (List Nat)}{y:AV}(h:simp1 y=true):Rep L w π y y.toV:=by
 cases y<;>first|exact .int|exact .str|(simp [simp1] at h)
theorem toV_cell{y:AV}(h:simp1 y=true):y.toV.oneCell'=true:=by
 cases y<;>first|rfl|(simp [simp1] at h)
theorem own_row{L:Nat→Lab}{w:World}{p c:Nat}{xs:List AV}{v:Value}(hrep:Rep L w (some [p]) (.sl true c xs) v)(hne:xs≠[])(hs:∀ y∈flat xs,simp1 y=true) :
  ∃ b cap arr e,v=.slice (some ⟨b,0,none⟩) xs.length cap∧L b=.my [p]∧w.heap[b]?=some (.cells arr e (0,0))∧xs.length≤cap∧arr.size=cap*c∧(∀ x∈xs,x.cells.length=c)∧∀ (j:Nat) u,((flat xs).map AV.toV)[j]?=some u→arr[j]?=some u:=by
 cases hrep with
 | slE h=>exact absurd rfl hne
 | @slO p c xs b cap arr e u hL hb hcap hsz hc hcell hr =>
  refine⟨b,cap,arr,e,rfl,hL,hb,hcap,hsz,hc,fun j x hj=>?_⟩
  rw [List.getElem?_map,Option.map_eq_some_iff] at hj
  obtain⟨y,hy,rfl⟩:=hj
  have hlt:j<xs.length*c:=by rw [← flat_length hc];exact(List.getElem?_eq_some_iff.1 hy).1
  rw [hcell j hlt,toV_one (hs y (List.mem_of_getElem? hy)) (hr j y hy)]
theorem flat_news{ys:List AV}(hs:∀ y∈flat ys,simp1 y=true):∀ (o:Nat) y,(flat ys)[o]?=some y→∃ u,((flat ys).map AV.toV)[o]?=some u∧∀ (L:Nat→Lab) (w:World) π,Rep L w π y u:=fun o y h =>
 ⟨y.toV,by rw [List.getElem?_map,h];rfl,fun L w π=>toV_any (hs y (List.mem_of_getElem? h))⟩
theorem flat_cells{ys:List AV}(hs:∀ y∈flat ys,simp1 y=true):∀ u∈(flat ys).map AV.toV,u.oneCell'=true:=fun u hu=>by
 obtain⟨y,hy,rfl⟩:=List.mem_map.1 hu
 exact toV_cell (hs y hy)
theorem flat_take{c:Nat}:∀ {xs:List AV} (_:∀ x∈xs,x.cells.length=c) (k:Nat),flat (xs.take k)=(flat xs).take (k*c)
 | [],_,k=>by simp [flat]
 | x::xs,h,0=>by simp [flat]
 | x::xs,h,k+1=>by
  have hx:=h x (List.mem_cons_self ..)
  have ih:=flat_take (xs:=xs) (fun y hy=>h y (List.mem_cons_of_mem _ hy)) k
  simp only [flat,List.take_succ_cons,List.flatMap_cons] at ih ⊢
  rw [ih,List.take_append,hx,List.take_of_length_le (l:=x.cells) (by rw [hx,Nat.add_mul];omega),show(k+1)*c-c=k*c by rw [Nat.add_mul];omega]
theorem flat_drop{c:Nat}:∀ {xs:List AV} (_:∀ x∈xs,x.cells.length=c) (k:Nat),flat (xs.drop k)=(flat xs).drop (k*c)
 | [],_,k=>by simp [flat]
 | x::xs,h,0=>by simp [flat]
 | x::xs,h,k+1=>by
  have hx:=h x (List.mem_cons_self ..)
  have ih:=flat_drop (xs:=xs) (fun y hy=>h y (List.mem_cons_of_mem _ hy)) k
  simp only [flat,List.drop_succ_cons,List.flatMap_cons] at ih ⊢
  rw [ih,List.drop_append,hx,@List.drop_eq_nil_of_le _ x.cells _ (by rw [hx,Nat.add_mul];omega),List.nil_append,show(k+1)*c-c=k*c by rw [Nat.add_mul];omega]
end FM
