/- The seat's numbers, for a contract of the library's. Written by a program of the prover's (lay.py). -/
import Derived.Test.YtkkcnppgcnmikaaGreatDoorChecked
import Derived.Shelf.Strconv.AtoiErr
import Derived.Test.YtkkcnppgcnmikaaGreatDoorAbh
import Derived.Lib.Walk
import Derived.Lib.AppendIntMem
import Derived.Shelf.Strconv.Atoi
import Derived.Lib.AtoiErrMem
import Derived.Lib.SplitLaws
import Derived.Shelf.Strings.BuilderX
import Derived.Lib.Join
import Derived.Lib.Split
import Derived.Lib.Fields
import Derived.Lib.Atoi
import Derived.Lib.ItoaNum
import Derived.Test.YtkkcnppgcnmikaaGreatDoorAbe
namespace Go.Proofs.YtkkcnppgcnmikaaGreatDoor
open Go Go.Proofs
set_option linter.all false
def latoi_ren:Go.Shelf.Ren:=⟨fun|172=>73|244=>132|245=>133|247=>172|279=>173|280=>174|281=>175|282=>176|287=>224|316=>225|171=>38|205=>226|321=>250|322=>251|243=>83|246=>143|283=>188|284=>189|285=>190|286=>191|129=>120|317=>233|318=>234|319=>235|320=>236|337=>254|338=>255|n=>n,fun|9=>9|3=>3|75=>130|76=>131|4=>4|5=>5|167=>225|37=>62|0=>0|85=>226|2=>2|168=>228|53=>174|175=>268|46=>120|210=>271|127=>239|145=>299|143=>297|21=>21|171=>240|173=>242|212=>280|51=>172|20=>20|213=>281|232=>312|233=>313|80=>194|n=>n,fun|15=>2|16=>3|17=>4|18=>8|19=>9|n=>n⟩
theorem latoi:LaysC.n172 Tryz.prog latoi_ren:={
 mixed:=by kernel_rfl,
 f129:=Tryz.func120.trans (congrArg some (by kernel_rfl)),
 f171:=Tryz.func38.trans (congrArg some (by kernel_rfl)),
 f172:=Tryz.func73.trans (congrArg some (by kernel_rfl)),
 f205:=Tryz.func226.trans (congrArg some (by kernel_rfl)),
 f243:=Tryz.func83.trans (congrArg some (by kernel_rfl)),
 f244:=Tryz.func132.trans (congrArg some (by kernel_rfl)),
 f245:=Tryz.func133.trans (congrArg some (by kernel_rfl)),
 f246:=Tryz.func143.trans (congrArg some (by kernel_rfl)),
 f247:=Tryz.func172.trans (congrArg some (by kernel_rfl)),
 f279:=Tryz.func173.trans (congrArg some (by kernel_rfl)),
 f280:=Tryz.func174.trans (congrArg some (by kernel_rfl)),
 f281:=Tryz.func175.trans (congrArg some (by kernel_rfl)),
 f282:=Tryz.func176.trans (congrArg some (by kernel_rfl)),
 f283:=Tryz.func188.trans (congrArg some (by kernel_rfl)),
 f284:=Tryz.func189.trans (congrArg some (by kernel_rfl)),
 f285:=Tryz.func190.trans (congrArg some (by kernel_rfl)),
 f286:=Tryz.func191.trans (congrArg some (by kernel_rfl)),
 f287:=Tryz.func224.trans (congrArg some (by kernel_rfl)),
 f316:=Tryz.func225.trans (congrArg some (by kernel_rfl)),
 f317:=Tryz.func233.trans (congrArg some (by kernel_rfl)),
 f318:=Tryz.func234.trans (congrArg some (by kernel_rfl)),
 f319:=Tryz.func235.trans (congrArg some (by kernel_rfl)),
 f320:=Tryz.func236.trans (congrArg some (by kernel_rfl)),
 f321:=Tryz.func250.trans (congrArg some (by kernel_rfl)),
 f322:=Tryz.func251.trans (congrArg some (by kernel_rfl)),
 f337:=Tryz.func254.trans (congrArg some (by kernel_rfl)),
 f338:=Tryz.func255.trans (congrArg some (by kernel_rfl)),
 t0:=Tryz.underlying0,
 a0:=Tryz.isAgg0,
 z0:=Tryz.sizeOf0,
 v0:=Tryz.zeroValue0,
 t2:=Tryz.underlying2,
 a2:=Tryz.isAgg2,
 z2:=Tryz.sizeOf2,
 v2:=Tryz.zeroValue2,
 t3:=Tryz.underlying3,
 a3:=Tryz.isAgg3,
 z3:=Tryz.sizeOf3,
 v3:=Tryz.zeroValue3,
 t4:=Tryz.underlying4,
 a4:=Tryz.isAgg4,
 z4:=Tryz.sizeOf4,
 v4:=Tryz.zeroValue4,
 t5:=Tryz.underlying5,
 a5:=Tryz.isAgg5,
 z5:=Tryz.sizeOf5,
 v5:=Tryz.zeroValue5,
 t9:=Tryz.underlying9,
 a9:=Tryz.isAgg9,
 z9:=Tryz.sizeOf9,
 v9:=Tryz.zeroValue9,
 t20:=Tryz.underlying20,
 a20:=Tryz.isAgg20,
 z20:=Tryz.sizeOf20,
 v20:=Tryz.zeroValue20,
 t21:=Tryz.underlying21,
 a21:=Tryz.isAgg21,
 z21:=Tryz.sizeOf21,
 v21:=Tryz.zeroValue21,
 t37:=Tryz.underlying62,
 a37:=Tryz.isAgg62,
 z37:=Tryz.sizeOf62,
 v37:=Tryz.zeroValue62,
 t46:=Tryz.underlying120,
 a46:=Tryz.isAgg120,
 z46:=Tryz.sizeOf120,
 v46:=Tryz.zeroValue120,
 t51:=Tryz.underlying172,
 a51:=Tryz.isAgg172,
 z51:=Tryz.sizeOf172,
 v51:=Tryz.zeroValue172,
 t53:=Tryz.underlying174,
 a53:=Tryz.isAgg174,
 z53:=Tryz.sizeOf174,
 v53:=Tryz.zeroValue174,
 t75:=Tryz.underlying130,
 a75:=Tryz.isAgg130,
 z75:=Tryz.sizeOf130,
 v75:=Tryz.zeroValue130,
 t76:=Tryz.underlying131,
 a76:=Tryz.isAgg131,
 z76:=Tryz.sizeOf131,
 v76:=Tryz.zeroValue131,
 t85:=Tryz.underlying226,
 a85:=Tryz.isAgg226,
 z85:=Tryz.sizeOf226,
 v85:=Tryz.zeroValue226,
 t127:=Tryz.underlying239,
 a127:=Tryz.isAgg239,
 z127:=Tryz.sizeOf239,
 v127:=Tryz.zeroValue239,
 t143:=Tryz.underlying297,
 a143:=Tryz.isAgg297,
 z143:=Tryz.sizeOf297,
 v143:=Tryz.zeroValue297,
 t145:=Tryz.underlying299,
 a145:=Tryz.isAgg299,
 z145:=Tryz.sizeOf299,
 v145:=Tryz.zeroValue299,
 t167:=Tryz.underlying225,
 a167:=Tryz.isAgg225,
 z167:=Tryz.sizeOf225,
 v167:=Tryz.zeroValue225,
 t168:=Tryz.underlying228,
 a168:=Tryz.isAgg228,
 z168:=Tryz.sizeOf228,
 v168:=Tryz.zeroValue228,
 t171:=Tryz.underlying240,
 a171:=Tryz.isAgg240,
 z171:=Tryz.sizeOf240,
 v171:=Tryz.zeroValue240,
 t173:=Tryz.underlying242,
 a173:=Tryz.isAgg242,
 z173:=Tryz.sizeOf242,
 v173:=Tryz.zeroValue242,
 t175:=Tryz.underlying268,
 a175:=Tryz.isAgg268,
 z175:=Tryz.sizeOf268,
 v175:=Tryz.zeroValue268,
 t210:=Tryz.underlying271,
 a210:=Tryz.isAgg271,
 z210:=Tryz.sizeOf271,
 v210:=Tryz.zeroValue271,
 t212:=Tryz.underlying280,
 a212:=Tryz.isAgg280,
 z212:=Tryz.sizeOf280,
 v212:=Tryz.zeroValue280,
 t213:=Tryz.underlying281,
 a213:=Tryz.isAgg281,
 z213:=Tryz.sizeOf281,
 t232:=Tryz.underlying312,
 a232:=Tryz.isAgg312,
 z232:=Tryz.sizeOf312,
 v232:=Tryz.zeroValue312,
 t233:=Tryz.underlying313,
 a233:=Tryz.isAgg313,
 z233:=Tryz.sizeOf313,
 v233:=Tryz.zeroValue313,
 g15:=by kernel_rfl,
 g16:=by kernel_rfl,
 g17:=by kernel_rfl,
 g18:=by kernel_rfl,
 g19:=by kernel_rfl,
 t80:=Tryz.underlying194,
 a80:=Tryz.isAgg194,
 z80:=Tryz.sizeOf194,
 v80:=Tryz.zeroValue194,
 i0:=by kernel_rfl,
 i2:=by kernel_rfl,
 i3:=by kernel_rfl,
 i4:=by kernel_rfl,
 i5:=by kernel_rfl,
 i9:=by kernel_rfl,
 i20:=by kernel_rfl,
 i21:=by kernel_rfl,
 i37:=by kernel_rfl,
 i46:=by kernel_rfl,
 i51:=by kernel_rfl,
 i53:=by kernel_rfl,
 i75:=by kernel_rfl,
 i76:=by kernel_rfl,
 i80:=by kernel_rfl,
 i85:=by kernel_rfl,
 i127:=by kernel_rfl,
 i143:=by kernel_rfl,
 i145:=by kernel_rfl,
 i167:=by kernel_rfl,
 i168:=by kernel_rfl,
 i171:=by kernel_rfl,
 i173:=by kernel_rfl,
 i175:=by kernel_rfl,
 i210:=by kernel_rfl,
 i212:=by kernel_rfl,
 i232:=by kernel_rfl,
 i233:=by kernel_rfl,
 m15:=by kernel_rfl,
 m16:=by kernel_rfl,
 m17:=by kernel_rfl,
 m18:=by kernel_rfl,
 m19:=by kernel_rfl,
 c0:=by kernel_rfl,
 c2:=by kernel_rfl,
 c3:=by kernel_rfl,
 c4:=by kernel_rfl,
 c5:=by kernel_rfl,
 c9:=by kernel_rfl,
 c20:=by kernel_rfl,
 c21:=by kernel_rfl,
 c37:=by kernel_rfl,
 c46:=by kernel_rfl,
 c51:=by kernel_rfl,
 c53:=by kernel_rfl,
 c75:=by kernel_rfl,
 c76:=by kernel_rfl,
 c80:=by kernel_rfl,
 c85:=by kernel_rfl,
 c127:=by kernel_rfl,
 c143:=by kernel_rfl,
 c145:=by kernel_rfl,
 c167:=by kernel_rfl,
 c168:=by kernel_rfl,
 c171:=by kernel_rfl,
 c173:=by kernel_rfl,
 c175:=by kernel_rfl,
 c210:=by kernel_rfl,
 c212:=by kernel_rfl,
 c213:=by kernel_rfl,
 c232:=by kernel_rfl,
 c233:=by kernel_rfl }
end Go.Proofs.YtkkcnppgcnmikaaGreatDoor
namespace FM
open Go Go.RowKit
set_option linter.all false
theorem FnSpec.ofVal{P:Program}{f:Nat}{bs:List AV}{r:AV}(hf:FnOk P f)
  (h:∀ (w:World) (L:Nat→Lab) (vs:List Value),vs.length=bs.length→(∀ i x v,bs[i]?=some x→vs[i]?=some v→Rep L w (some [i]) x v)→FM.Glob L w→Calls P f vs.toArray w fun e w'=>∃ v0,e=.returned v0∧(∀ (L:Nat→Lab) (w:World) π,Rep L w π r v0)∧Below w.heap.size w w'):FnSpec P f bs bs r where
 ok:=hf
 calls:=fun w L vs hl hpre hrep=>(h w L vs hl hrep hpre.glob).mono fun e w' ⟨v0,he,hr,hb⟩=>by
  have hL:∀ b p,(if b<w.heap.size then L b else .sh)=.my p→b<w.heap.size∧L b=.my p:=fun b p h=>by
   by_cases hb:b<w.heap.size
   ·rw [if_pos hb] at h;exact⟨hb,h⟩
   ·rw [if_neg hb] at h;cases h
  refine⟨v0,fun b=>if b<w.heap.size then L b else .sh,he,⟨hb.os,hb.tape,hb.output,hb.size,fun b hlt _=>hb.block b hlt⟩,
   ⟨fun b p h=>Nat.lt_of_lt_of_le (hL b p h).1 hb.size,fun b b' p h h'=>hpre.inj b b' p (hL b p h).2 (hL b' p h').2,fun b p h e=>?_,fun b p _ h=>⟨p,(hL b p h).2⟩,fun b hlt=>?_,fun b hge h=>?_⟩,fun b p h=>?_,fun i x u hx hu=>?_,hr _ _ _⟩
  ·obtain⟨i,q,e',_⟩:=hpre.head b p (hL b p h).2
   rw [e] at e';cases e'
  ·show(if b<w.heap.size then L b else .sh)=.fo↔_
   rw [if_pos hlt]
  ·have h:(if b<w.heap.size then L b else .sh)=.fo:=h
   rw [if_neg (by omega)] at h;cases h
  ·obtain⟨i,q,e',h2⟩:=hpre.head b p (hL b p h).2
   exact⟨i,q,e',by omega⟩
  ·refine(hrep i x u hx hu).frame hb.size hb.os hb.tape hb.output (fun b h1 h2=>⟨?_,hb.block b h2⟩) _ fun p hp=>⟨p,hp,fun b q h1=>⟨?_,?_⟩⟩
   ·show(if b<w.heap.size then L b else .sh)=.sh
    rw [if_pos h2];exact h1
   ·show(if b<w.heap.size then L b else .sh)=_
    rw [if_pos (hpre.lt b _ h1)];exact h1
   ·exact hb.block b (hpre.lt b _ h1)
theorem FnSpec.ofStrs{P:Program}{f:Nat}{bs:List AV}(ls:List (List UInt8))(hf:FnOk P f)(t:TypeId)
  (h:∀ (w:World) (L:Nat→Lab) (vs:List Value),vs.length=bs.length→(∀ i x v,bs[i]?=some x→vs[i]?=some v→Rep L w (some [i]) x v)→FM.Glob L w→Calls P f vs.toArray w fun e w'=>e=.returned (.slice (some ⟨w.heap.size,0,none⟩) ls.length ls.length)∧w'=w.alloc (.cells (ls.map fun l=>Value.string ⟨l.toArray⟩).toArray t)):FnSpec P f bs bs (.sl true 1 (ls.map .str)) where
 ok:=hf
 calls:=fun w L vs hl hpre hrep=>(h w L vs hl hrep hpre.glob).mono fun e w' ⟨he,hw⟩=>by
  have hnb:w'.heap[w.heap.size]?=some (.cells (ls.map fun l=>Value.string ⟨l.toArray⟩).toArray t (0,0)):=by rw [hw];exact heap_alloc_new w _
  have hws:w'.heap.size=w.heap.size+1:=by rw [hw];exact Array.size_push ..
  have hwk:∀ b,b<w.heap.size→w'.heap[b]?=w.heap[b]?:=fun b hb=>by
   rw [hw]
   show(w.heap.push _)[b]?=_
   rw [Array.getElem?_push_lt hb,Array.getElem?_eq_getElem hb]
  have hwo:w'.os=w.os:=by rw [hw];rfl
  have hwt:w'.tape=w.tape:=by rw [hw];rfl
  have hwu:w'.output=w.output:=by rw [hw];rfl
  clear hw
  obtain⟨L',hL'⟩:∃ L':Nat→Lab,L'=fun b'=>if b'=w.heap.size then .my [bs.length] else L b':=⟨_,rfl⟩
  have l1:L' w.heap.size=.my [bs.length]:=by rw [hL'];simp
  have l2:∀ b',b'≠w.heap.size→L' b'=L b':=fun b' h=>by rw [hL'];simp [h]
  clear hL'
  have lno:∀ b',L b'≠.my [bs.length]:=fun b' h=>by obtain⟨i,q,e1,e2⟩:=hpre.head b' _ h;cases e1;omega
  refine⟨_,L',he,⟨hwo,hwt,hwu,by omega,fun b hb _=>hwk b hb⟩,⟨fun b' p hp=>?_,fun b1 b2 p h1 h2=>?_,fun b' p hp e=>?_,fun b' p hlt hp=>?_,fun b' hlt=>?_,fun b' h1 h2=>?_⟩,fun b' p hp=>?_,fun i x u hx hu=>?_,?_⟩
  ·by_cases e:b'=w.heap.size
   ·omega
   ·rw [l2 b' e] at hp;have:=hpre.lt b' p hp;omega
  ·by_cases e1:b1=w.heap.size
   ·subst e1
    rw [l1] at h1;cases h1
    by_cases e2:b2=w.heap.size
    ·exact e2.symm
    ·rw [l2 b2 e2] at h2;exact absurd h2 (lno b2)
   ·rw [l2 b1 e1] at h1
    by_cases e2:b2=w.heap.size
    ·subst e2
     rw [l1] at h2;cases h2
     exact absurd h1 (lno b1)
    ·rw [l2 b2 e2] at h2;exact hpre.inj b1 b2 p h1 h2
  ·subst e
   by_cases e:b'=w.heap.size
   ·subst e;rw [l1] at hp;cases hp
   ·rw [l2 b' e] at hp;obtain⟨i,q,h,_⟩:=hpre.head b' [] hp;cases h
  ·rw [l2 b' (by omega)] at hp;exact⟨p,hp⟩
  ·rw [l2 b' (by omega)]
  ·by_cases e:b'=w.heap.size
   ·subst e;rw [l1] at h2;cases h2
   ·rw [l2 b' e] at h2;exact hpre.new b' h1 h2
  ·by_cases e:b'=w.heap.size
   ·subst e;rw [l1] at hp;cases hp;exact⟨_,[],rfl,Nat.le_refl _⟩
   ·rw [l2 b' e] at hp;obtain⟨i,q,h,h2⟩:=hpre.head b' p hp;exact⟨i,q,h,Nat.le_of_lt h2⟩
  ·refine(hrep i x u hx hu).frame (by omega) hwo hwt hwu (fun b h1 h2=>⟨by rw [l2 b (by omega)];exact h1,hwk b h2⟩) _ fun p hp=>⟨p,hp,fun b q h1=>?_⟩
   have hb:=hpre.lt b _ h1
   exact⟨by rw [l2 b (by omega)];exact h1,hwk b hb⟩
  ·have hsl:(ls.map AV.str).length=ls.length:=List.length_map _
   rw [← hsl]
   refine .slO (fun o=>.string ⟨(ls.getD o []).toArray⟩) l1 hnb (by rw [hsl];exact Nat.le_refl _) (by simp) (fun x hx=>by obtain⟨y,_,rfl⟩:=List.mem_map.1 hx;rfl) (fun o ho=>?_) fun o y hy=>?_
   ·rw [hsl,Nat.mul_one] at ho
    simp [ho,List.getD_eq_getElem?_getD]
   ·rw [flat_single (fun x hx=>by obtain⟨y,_,rfl⟩:=List.mem_map.1 hx;rfl),List.getElem?_map,Option.map_eq_some_iff] at hy
    obtain⟨z,hz,rfl⟩:=hy
    rw [List.getD_eq_getElem?_getD,hz];exact .str
end FM
namespace Go.Proofs.YtkkcnppgcnmikaaGreatDoor
open Go FM Go.Proofs
set_option maxRecDepth 10000
set_option maxHeartbeats 1600000
set_option linter.all false
theorem itoa_spec(n:Int)(h0:-9223372036854775808≤n)(h1:n≤9223372036854775807):FnSpec Sy.P 38 [.int n] [.int n] (.str (Lib.itoa n)):=by
 refine FnSpec.ofVal ⟨_,Tryz.func38,rfl,rfl⟩ fun w L vs hl hrep hg=>?_
 match vs,hl,hrep with
 | [u],_,hrep =>
  have e1:=hrep 0 _ _ rfl rfl
  cases e1
  refine(Any.strconv_Itoa litoa n h0 h1 w hg.ok.pow).mono fun e w' ⟨he,k,os,hw⟩=>⟨_,he,fun _ _ _=>.str,?_⟩
  rw [hw];exact Lib.below_grow _ _ (Nat.le_refl _) _ _
theorem pair_dead(n:Int)(v:Value)(L:Nat→Lab)(w:World)(π:Option (List Nat)):Rep L w π (.tup [.int n,.dead]) (.tuple #[.int .i64 n,v]):=by
 refine .tup (vs:=[_,_]) rfl fun i x u hx hv=>?_
 match i with
 | 0=>simp only [List.getElem?_cons_zero,Option.some.injEq] at hx hv;subst hx;subst hv;exact .int
 | 1=>simp only [List.getElem?_cons_succ,List.getElem?_cons_zero,Option.some.injEq] at hx hv;subst hx;subst hv;exact .dead
 | i+2=>simp at hx
def numOf(s:Str):Int:=(Lib.atoi s).getD 0
theorem atoi_spec(s:Str)(hs:s.length≤18):FnSpec Sy.P 73 [.str s] [.str s] (.tup [.int (numOf s),.dead]):=by
 refine FnSpec.ofVal ⟨_,Tryz.func73,rfl,rfl⟩ fun w L vs hl hrep hg=>?_
 match vs,hl,hrep with
 | [u],_,hrep =>
  have e1:=hrep 0 _ _ rfl rfl
  cases e1
  cases h:Lib.atoi s with
  | some n =>
   have e:numOf s=n:=by unfold numOf;rw [h];rfl
   rw [e]
   refine(Any.strconv_Atoi { latoi with } ⟨s.toArray⟩ n (by rw [mk_size];exact hs) h w).mono fun e w' ⟨he,t,hw⟩=>⟨_,he,pair_dead n _,?_⟩
   rw [hw];exact Lib.bytesWorld_below _ _ _
  | none =>
   have e:numOf s=0:=by unfold numOf;rw [h];rfl
   rw [e]
   obtain⟨tp,p,hv⟩:=hg.ok.syn
   exact(Any.strconv_Atoi_err latoi ⟨s.toArray⟩ (by rw [mk_size];exact hs) h _ w hv (.inr ⟨tp,p,rfl⟩)).mono fun e w' ⟨N,he,_,_,hb⟩=>⟨_,he,pair_dead 0 _,hb⟩
def pieces(s sep:Str):List Str:=(Lib.splitB ⟨sep.toArray⟩ 0 (Lib.countB ⟨s.toArray⟩ ⟨sep.toArray⟩) ⟨s.toArray⟩).map fun b=>b.data.toList
theorem split_spec(s sep:Str)(hs:s.length<4294967281)(h1:1≤sep.length):FnSpec Sy.P 51 [.str s,.str sep] [.str s,.str sep] (.sl true 1 ((pieces s sep).map .str)):=by
 refine FnSpec.ofStrs _ ⟨_,Tryz.func51,rfl,rfl⟩ 9 fun w L vs hl hrep hg=>?_
 match vs,hl,hrep with
 | [u,v],_,hrep =>
  have e1:=hrep 0 _ _ rfl rfl
  have e2:=hrep 1 _ _ rfl rfl
  cases e1;cases e2
  obtain⟨m,hm⟩:=hg.ok.mx
  have:=Any.strings_Split { lsplit with } (by kernel_rfl) ⟨s.toArray⟩ ⟨sep.toArray⟩ m w (by rw [mk_size];exact hs) hm (by rw [mk_size];exact h1)
  have hlen:=Lib.splitB_all ⟨sep.toArray⟩ (by rw [mk_size];exact h1) 0 _ ⟨s.toArray⟩ rfl
  refine this.mono fun e w' ⟨he,hw⟩=>⟨?_,?_⟩
  ·rw [he,pieces,List.length_map,hlen]
  ·rw [hw,pieces,List.map_map];rfl
theorem fields_spec(s:Str)(hs:s.length<4294967281)(ha:∀ b∈s,b.toNat<128):FnSpec Sy.P 90 [.str s] [.str s] (.sl true 1 ((Lib.fields s).map .str)):=by
 refine FnSpec.ofStrs _ ⟨_,Tryz.func90,rfl,rfl⟩ 9 fun w L vs hl hrep hg=>?_
 match vs,hl,hrep with
 | [u],_,hrep =>
  have e1:=hrep 0 _ _ rfl rfl
  cases e1
  exact Any.strings_Fields_laid lfields ⟨s.toArray⟩ w (by rw [mk_size];exact hs) (fun j b h=>ha b (List.mem_of_getElem? h)) hg.ok.spc
theorem joinX:Builder.Extra Tryz.prog ljoin_ren where
 sizeBuilder:=by kernel_rfl
 liesBuilder:=by kernel_rfl
 t5:=litoa.t5
 a5:=litoa.a5
 z5:=litoa.z5
 v5:=litoa.v5
 infoByte:=by kernel_rfl
 cellsByte:=by kernel_rfl
 sizeByte:=by kernel_rfl
 neB5:=by decide
theorem join_spec(l:List Str)(sep:Str)(hN:l.length≤140737488355328)(hlen:(Lib.join l sep).length≤140737488355328):FnSpec Sy.P 82 [.sl false 1 (l.map .str),.str sep] [.sl false 1 (l.map .str),.str sep] (.str (Lib.join l sep)):=by
 refine FnSpec.ofVal ⟨_,Tryz.func82,rfl,rfl⟩ fun w L vs hl hrep hg=>?_
 match vs,hl,hrep with
 | [u,v],_,hrep =>
  have e1:=hrep 0 _ _ rfl rfl
  have e2:=hrep 1 _ _ rfl rfl
  cases e2
  generalize hx:l.map AV.str=xs at e1
  have hm:(l.map fun s:Str=>(⟨s.toArray⟩:ByteArray)).map (·.data.toList)=l:=by rw [List.map_map];exact List.map_id' l
  cases e1 with
  | slE _ =>
   have:l=[]:=List.map_eq_nil_iff.1 hx
   subst this
   refine(Any.strings_Join_none ljoin joinX _ _ ⟨sep.toArray⟩ w).mono fun e w' ⟨he,hw⟩=>⟨_,he,fun _ _ _=>.str,hw▸RowKit.Below.refl _ _⟩
  | @slS _ _ _ b off cap q hcap hL hb hc hcell hr =>
   have hxl:xs.length=(l.map fun s:Str=>(⟨s.toArray⟩:ByteArray)).length:=by rw [← hx,List.length_map,List.length_map]
   have:=Any.strings_Join ljoin joinX b off cap (l.map fun s:Str=>(⟨s.toArray⟩:ByteArray)) ⟨sep.toArray⟩ w (fun j x hj=>?_) hb (by rw [List.length_map];exact hN) (by rw [← hxl];exact hcap) (by rw [hm];exact hlen)
   ·rw [hm,←hxl] at this
    exact this.mono fun e w' ⟨he,hb⟩=>⟨_,he,fun _ _ _=>.str,hb⟩
   ·rw [List.getElem?_map,Option.map_eq_some_iff] at hj
    obtain⟨s,hs,rfl⟩:=hj
    have hjl:j<xs.length:=by rw [hxl,List.length_map];exact(List.getElem?_eq_some_iff.1 hs).1
    have h1:=hcell j (by omega)
    have h2:=hr j (.str s) (by rw [← hx,flat_single (fun x hx=>by obtain⟨y,_,rfl⟩:=List.mem_map.1 hx;rfl),List.getElem?_map,hs];rfl)
    rw [h1]
    generalize q j=qq at h2
    cases h2
    rfl
end Go.Proofs.YtkkcnppgcnmikaaGreatDoor
namespace Zp
open Go
abbrev Str:=List UInt8
def jn:List Str→Str
 | []=>[]
 | [x]=>x
 | x::y::r=>x++32::jn (y::r)
theorem join_jn:∀ l:List Str,Lib.join l [32]=jn l
 | []=>rfl
 | [x]=>Lib.join_one x _
 | x::y::r=>by
  have ih:=join_jn (y::r)
  rw [Lib.join_cons] at ih ⊢
  show _=x++32::jn (y::r)
  rw [← ih]
  simp [Lib.joinTail]
structure Wd(s:Str):Prop where
 ne:s≠[]
 ns:∀ b∈s,b≠32∧Lib.isSp b=false∧b.toNat<128
theorem index_hit:∀ {s:Str} (r:Str),(∀ b∈s,b≠32)→Lib.index (s++32::r) [32]=(s.length:Int)
 | [],r,_=>by rw [List.nil_append,Lib.index];simp [List.isPrefixOf]
 | b::s,r,h=>by
  have hb:=h b (List.mem_cons_self ..)
  have ih:=index_hit (s:=s) r fun c hc=>h c (List.mem_cons_of_mem _ hc)
  have hp:([32]:List UInt8).isPrefixOf (b::(s++32::r))=false:=by simp [List.isPrefixOf,Ne.symm hb]
  rw [List.cons_append,Lib.index,hp,ih]
  have:((s.length:Int)==-1)=false:=by
   cases h:((s.length:Int)==-1) with
   | false=>rfl
   | true=>have:=eq_of_beq h;omega
  simp only [this,Bool.false_eq_true,if_false,List.length_cons]
  omega
theorem splitK_jn:∀ {l:List Str},l≠[]→(∀ s∈l,∀ b∈s,b≠32)→Lib.splitK [32] 0 (l.length-1) (jn l)=l
 | [],h,_=>absurd rfl h
 | [x],_,_=>rfl
 | x::y::r,_,h=>by
  have ih:=splitK_jn (l:=y::r) (by simp) fun s hs=>h s (List.mem_cons_of_mem _ hs)
  have hx:=index_hit (jn (y::r)) (h x (List.mem_cons_self ..))
  show Lib.splitK [32] 0 (r.length+1) (x++32::jn (y::r))=_
  rw [Lib.splitK,hx]
  have:((x.length:Int)==-1)=false:=by
   cases h:((x.length:Int)==-1) with
   | false=>rfl
   | true=>have:=eq_of_beq h;omega
  rw [this]
  simp only [Bool.false_eq_true,if_false,Int.toNat_natCast,Nat.add_zero,List.take_left',List.length_singleton]
  rw [show(x++32::jn (y::r)).drop (x.length+1)=jn (y::r) by rw [List.drop_append];simp]
  simp only [List.length_cons,Nat.add_sub_cancel] at ih
  rw [ih]
theorem count_jn:∀ {l:List Str},l≠[]→(∀ s∈l,∀ b∈s,b≠32)→Lib.count (jn l) [32]=l.length-1
 | [],h,_=>absurd rfl h
 | [x],_,h=>by
  rw [Lib.count_one]
  show x.count 32=0
  exact List.count_eq_zero.2 fun hm=>h x (by simp) 32 hm rfl
 | x::y::r,_,h=>by
  have ih:=count_jn (l:=y::r) (by simp) fun s hs=>h s (List.mem_cons_of_mem _ hs)
  rw [Lib.count_one] at ih ⊢
  show(x++32::jn (y::r)).count 32=_
  rw [List.count_append,List.count_cons_self,ih,List.count_eq_zero.2 fun hm=>h x (by simp) 32 hm rfl]
  simp
theorem fieldsGo_word:∀ {s:Str} (cur r:Str),(∀ b∈s,Lib.isSp b=false)→Lib.fieldsGo cur (s++r)=Lib.fieldsGo (cur++s) r
 | [],cur,r,_=>by simp
 | b::s,cur,r,h=>by
  rw [List.cons_append,Lib.fieldsGo,h b (List.mem_cons_self ..)]
  simp only [Bool.false_eq_true,if_false]
  rw [fieldsGo_word (cur++[b]) r fun c hc=>h c (List.mem_cons_of_mem _ hc)]
  simp
theorem fields_jn:∀ {l:List Str},(∀ s∈l,Wd s)→Lib.fields (jn l)=l
 | [],_=>rfl
 | [x],h=>by
  have hx:=h x (by simp)
  show Lib.fieldsGo [] x=[x]
  have:=fieldsGo_word (s:=x) [] [] fun b hb=>(hx.ns b hb).2.1
  rw [List.append_nil] at this
  rw [this,List.nil_append,Lib.fieldsGo]
  cases x with
  | nil=>exact absurd rfl hx.ne
  | cons _ _=>rfl
 | x::y::r,h=>by
  have hx:=h x (by simp)
  have ih:=fields_jn (l:=y::r) fun s hs=>h s (List.mem_cons_of_mem _ hs)
  show Lib.fieldsGo [] (x++32::jn (y::r))=_
  rw [fieldsGo_word [] _ fun b hb=>(hx.ns b hb).2.1,List.nil_append,Lib.fieldsGo]
  have:Lib.isSp 32=true:=rfl
  rw [this,if_pos rfl]
  cases x with
  | nil=>exact absurd rfl hx.ne
  | cons c x' =>
   simp only [List.isEmpty_cons,Bool.false_eq_true,if_false]
   rw [show Lib.fieldsGo [] (jn (y::r))=y::r from ih]
/-! ### numbers -/
theorem dig_byte{k:Nat}(h:k<10):(UInt8.ofNat (48+k)).toNat=48+k:=by rw [UInt8.toNat_ofNat'];omega
theorem digitVal_of{k:Nat}(h:k<10):Lib.digitVal (UInt8.ofNat (48+k))=some k:=by
 unfold Lib.digitVal
 rw [dig_byte h,if_pos (by omega)]
 congr 1;omega
theorem decFrom_append:∀ (a b:Str) (acc:Nat),Lib.decFrom acc (a++b)=(Lib.decFrom acc a).bind fun n=>Lib.decFrom n b
 | [],b,acc=>rfl
 | c::a,b,acc=>by
  rw [List.cons_append,Lib.decFrom,Lib.decFrom]
  cases Lib.digitVal c with
  | none=>rfl
  | some d=>exact decFrom_append a b _
theorem decFrom_digits(u:Nat):Lib.decFrom 0 (Lib.decDigits u)=some u:=by
 induction u using Nat.strongRecOn with
 | _ u ih =>
  rw [Lib.decDigits]
  by_cases h:u<10
  ·rw [dif_pos h,Lib.decFrom,digitVal_of h];simp [Lib.decFrom]
  ·rw [dif_neg h,decFrom_append,ih (u / 10) (by omega)]
   show Lib.decFrom (u / 10) [UInt8.ofNat (48+u%10)]=some u
   rw [Lib.decFrom,digitVal_of (by omega)]
   simp only [Lib.decFrom,Option.some.injEq];omega
theorem digits_byte(u:Nat):∀ b∈Lib.decDigits u,48≤b.toNat∧b.toNat≤57:=by
 induction u using Nat.strongRecOn with
 | _ u ih =>
  intro b hb
  rw [Lib.decDigits] at hb
  by_cases h:u<10
  ·rw [dif_pos h,List.mem_singleton] at hb;subst hb;rw [dig_byte h];omega
  ·rw [dif_neg h,List.mem_append,List.mem_singleton] at hb
   rcases hb with hb|rfl
   ·exact ih (u / 10) (by omega) b hb
   ·rw [dig_byte (by omega)];omega
theorem digits_ne(u:Nat):Lib.decDigits u≠[]:=by
 intro h
 have:=Lib.decDigits_length u
 rw [h] at this
 have:=Lib.nDigits_pos u
 simp at *;omega
theorem itoa_nat(n:Int)(h:0≤n):Lib.itoa n=Lib.decDigits n.toNat:=by unfold Lib.itoa;rw [if_neg (by omega)]
theorem atoi_itoa(n:Int)(h:0≤n):Lib.atoi (Lib.itoa n)=some n:=by
 rw [itoa_nat n h]
 have h1:=decFrom_digits n.toNat
 have h2:=digits_byte n.toNat
 cases hd:Lib.decDigits n.toNat with
 | nil=>exact absurd hd (digits_ne _)
 | cons b r =>
  rw [hd] at h1 h2
  have hb:=h2 b (List.mem_cons_self ..)
  have e1:(b==45)=false:=by
   cases h:b==45 with
   | false=>rfl
   | true=>rw [eq_of_beq h] at hb;revert hb;decide
  have e2:(b==43)=false:=by
   cases h:b==43 with
   | false=>rfl
   | true=>rw [eq_of_beq h] at hb;revert hb;decide
  rw [Lib.atoi,e1,e2]
  simp only [Bool.false_eq_true,if_false,Lib.decNat,List.isEmpty_cons,h1,Option.map_some,Option.some.injEq]
  omega
theorem itoa_len(n:Int)(h:0≤n)(h2:n≤1000000):(Lib.itoa n).length≤7:=by
 rw [itoa_nat n h,Lib.decDigits_length]
 have h3:=Lib.nDigits_pos n.toNat
 rcases Nat.lt_or_ge 7 (Lib.nDigits n.toNat) with h4|h4
 ·exfalso
  have key:∀ k u,u<10 ^ (k+1)→Lib.nDigits u≤k+1:=fun k=>by
   induction k with
   | zero=>intro u hu;rw [Lib.nDigits_small (by omega)];omega
   | succ k ih =>
    intro u hu
    by_cases h:u<10
    ·rw [Lib.nDigits_small h];omega
    ·rw [Lib.nDigits_big h]
     have:=ih (u / 10) (by rw [Nat.pow_succ] at hu;omega)
     omega
  have:=key 6 n.toNat (by omega)
  omega
 ·exact h4
theorem sp_digit{b:UInt8}(h:48≤b.toNat)(h2:b.toNat<128):b≠32∧Lib.isSp b=false∧b.toNat<128:=by
 have ne:∀ k:UInt8,k.toNat<48→b≠k:=fun k hk e=>by subst e;omega
 refine⟨ne 32 (by decide),?_,h2⟩
 unfold Lib.isSp
 have hb:∀ k:UInt8,k.toNat<48→(b==k)=false:=fun k hk=>by
  cases e:b==k with
  | false=>rfl
  | true=>exact absurd (eq_of_beq e) (ne k hk)
 rw [hb 9 (by decide),hb 10 (by decide),hb 11 (by decide),hb 12 (by decide),hb 13 (by decide),hb 32 (by decide)]
 rfl
theorem wd_itoa{n:Int}(h:0≤n):Wd (Lib.itoa n):=by
 rw [itoa_nat n h]
 exact⟨digits_ne _,fun b hb=>by obtain⟨h1,h2⟩:=digits_byte _ b hb;exact sp_digit h1 (by omega)⟩
end Zp
namespace FM
open Go Go.RowKit
set_option linter.all false
theorem J.callMP{S:Sys}{N:Nat}{σ:St}{P:Program}{f:Nat}{xs9':List AV}{r:AV}{x0:AV}{op:Operand}{xs:List Operand}{ops:Array Oper}{l:List Oper}{K:St→Prop}{d s ty:Nat}{ts:Array Nat}{pos:String}{aft:Array Edge}{g:Option (Nat×Bool)}(hok:FnOk P f)(hP:P=S.P)(hg:live ops g σ=some true)
  (h1:slotAt σ op=some s) (h2:FM.get σ s=.av x0) (h3:Nat.beq s d=false)
  (hs:∀ (w0:World) (L0:Nat→Lab) (a:Act) (w:World) (L:Nat→Lab),RelL S w0 L0 N σ a w L→FM.Pre (xs.length+1) (inM [(s,0)] L) w→Rep (inM [(s,0)] L) w (some [0]) x0 (a.eval op) →
   Calls P f ((op::xs).map a.eval).toArray w fun e w'=>∃ v L',e=.returned v∧FM.Back (xs.length+1) xs9' r (inM [(s,0)] L) w ((op::xs).map a.eval) v w' L')
  (hr:NoSh r) (hx:∃ y,xs9'[0]?=some y∧NoSh y) (h:J false S N ops l K (putM [(s,0)] xs9' (σ.put d (.av r)))) :
  J false S N ops (⟨some d,.call ⟨.value (.func f),(op::xs).toArray,ts⟩,ty,pos,aft,g⟩::l) K σ:=by
 subst hP
 unfold J at *
 intro hdo w0 L0 Q a w hQ hR
 obtain⟨hd1,hd2⟩:=dstOk_cons hdo
 have hd:=hd1 d rfl
 have hw:=live_wanted (o:=⟨some d,.call ⟨.value (.func f),(op::xs).toArray,ts⟩,ty,pos,aft,g⟩) hg hR
 simp only [wpList,hw,if_true]
 refine .inl ?_
 unfold Oper.wp
 rw [run_call hok rfl rfl w,Oper.upon_enter]
 obtain⟨L,hR⟩:=hR
 have hms:MOk d (xs.length+1) [(s,0)]:=.one h3 (by simp [Nat.blt])
 have hA:ArgM S N σ [(s,0)] 0 op x0:=.mu h1 h2 (by simp [idxM,Nat.beq_refl])
 refine(hs w0 L0 a w L hR ⟨fun b p hb=>?_,fun b p hb=>?_,fun b b' p hb hb'=>?_,fun b hge hf=>?_,hR.globNow.move (Nat.le_refl _) fun b _ h=>⟨inM_sh h,rfl⟩⟩ (hA.rep hR)).mono fun e w' ⟨v,L',he,hB⟩=>?_
 ·obtain⟨t,i,q,h3,_,_⟩:=inM_my hb;exact hR.lok.lt b _ h3
 ·obtain⟨t,i,q,_,h3,h4⟩:=inM_my hb;exact⟨i,q,h4,hms.lt _ _ h3⟩
 ·obtain⟨t,i,q,h3,h4,h5⟩:=inM_my hb
  obtain⟨t',i',q',h3',h4',h5'⟩:=inM_my hb'
  rw [h5] at h5';cases h5'
  have e1:=hms.inv _ _ h4
  have e2:=hms.inv _ _ h4'
  rw [e1] at e2;cases e2
  exact hR.lok.inj _ _ _ h3 h3'
 ·have:=inM_fo.1 hf
  exact hR.lok.new b (Nat.le_trans hR.keep.size hge) this
 ·subst he
  refine h hd2 w0 L0 Q _ w' hQ (after_callM hR hd hms hB hr fun s' i hi=>?_)
  simp only [idxM] at hi
  cases hb:Nat.beq s s' with
  | false=>rw [hb,cond_false] at hi;cases hi
  | true =>
   rw [hb,cond_true] at hi
   have:=Nat.eq_of_beq_eq_true hb
   subst this
   cases hi
   obtain⟨e1,e2,_⟩:=slotAt_ev h1 h2 hR
   exact⟨e1,by simp [e2],hx⟩
theorem FnSpec.le{P:Program}{f:Nat}{xs9 xs9':List AV}{r r':AV}(h:FnSpec P f xs9 xs9' r)(hl:AV.le r r'):FnSpec P f xs9 xs9' r' :=
 ⟨h.ok,fun w L vs h1 h2 h3=>(h.calls w L vs h1 h2 h3).mono fun e w' ⟨v,L',he,hB⟩=>⟨v,L',he,hB.keep,hB.lok,hB.head,hB.args,Rep.le hl hB.res⟩⟩
end FM
