/- Part of the proof. -/
import Derived.Shelf.Strconv.AtoiErr
import Derived.Test.YtmbbagbhmjaedaaGreatDoorCbg
import Derived.Lib.AppendIntMem
import Derived.Shelf.Strconv.Atoi
set_option linter.all false
set_option maxRecDepth 10000
set_option maxHeartbeats 1600000
namespace Go.Proofs.YtmbbagbhmjaedaaGreatDoor
open Go Go.Proofs Tryz
def FO:Go.Shelf.Ren:=⟨fun|172=>63|244=>92|245=>93|247=>125|279=>126|280=>127|281=>128|282=>129|287=>158|316=>159|171=>16|205=>160|321=>172|322=>173|243=>53|246=>87|283=>120|284=>121|285=>122|286=>123|129=>152|317=>151|318=>153|319=>154|320=>155|337=>170|338=>171|n=>n,fun|9=>9|3=>3|75=>123|76=>124|4=>4|5=>5|167=>187|37=>144|0=>0|85=>188|2=>2|168=>190|53=>54|175=>222|46=>92|210=>225|127=>176|145=>237|143=>235|21=>21|171=>177|173=>180|212=>209|51=>57|20=>20|213=>210|232=>250|233=>251|80=>150|n=>n,fun|15=>3|16=>4|17=>2|18=>8|19=>9|n=>n⟩
theorem Od:LaysC.n172 Tryz.prog FO:={
 mixed:=by kernel_rfl,
 f129:=func152.trans (congrArg some ah),
 f171:=func16.trans (congrArg some ah),
 f172:=func63.trans (congrArg some ah),
 f205:=func160.trans (congrArg some ah),
 f243:=func53.trans (congrArg some ah),
 f244:=func92.trans (congrArg some ah),
 f245:=func93.trans (congrArg some ah),
 f246:=func87.trans (congrArg some ah),
 f247:=func125.trans (congrArg some ah),
 f279:=func126.trans (congrArg some ah),
 f280:=func127.trans (congrArg some ah),
 f281:=func128.trans (congrArg some ah),
 f282:=func129.trans (congrArg some ah),
 f283:=func120.trans (congrArg some ah),
 f284:=func121.trans (congrArg some ah),
 f285:=func122.trans (congrArg some ah),
 f286:=func123.trans (congrArg some ah),
 f287:=func158.trans (congrArg some ah),
 f316:=func159.trans (congrArg some ah),
 f317:=func151.trans (congrArg some ah),
 f318:=func153.trans (congrArg some ah),
 f319:=func154.trans (congrArg some ah),
 f320:=func155.trans (congrArg some ah),
 f321:=func172.trans (congrArg some ah),
 f322:=func173.trans (congrArg some ah),
 f337:=func170.trans (congrArg some ah),
 f338:=func171.trans (congrArg some ah),
 t0:=underlying0,
 a0:=isAgg0,
 z0:=sizeOf0,
 v0:=zeroValue0,
 t2:=underlying2,
 a2:=isAgg2,
 z2:=sizeOf2,
 v2:=zeroValue2,
 t3:=underlying3,
 a3:=isAgg3,
 z3:=sizeOf3,
 v3:=zeroValue3,
 t4:=underlying4,
 a4:=isAgg4,
 z4:=sizeOf4,
 v4:=zeroValue4,
 t5:=underlying5,
 a5:=isAgg5,
 z5:=sizeOf5,
 v5:=zeroValue5,
 t9:=underlying9,
 a9:=isAgg9,
 z9:=sizeOf9,
 v9:=zeroValue9,
 t20:=underlying20,
 a20:=isAgg20,
 z20:=sizeOf20,
 v20:=zeroValue20,
 t21:=underlying21,
 a21:=isAgg21,
 z21:=sizeOf21,
 v21:=zeroValue21,
 t37:=underlying144,
 a37:=isAgg144,
 z37:=sizeOf144,
 v37:=zeroValue144,
 t46:=underlying92,
 a46:=isAgg92,
 z46:=sizeOf92,
 v46:=zeroValue92,
 t51:=underlying57,
 a51:=isAgg57,
 z51:=sizeOf57,
 v51:=zeroValue57,
 t53:=underlying54,
 a53:=isAgg54,
 z53:=sizeOf54,
 v53:=zeroValue54,
 t75:=underlying123,
 a75:=isAgg123,
 z75:=sizeOf123,
 v75:=zeroValue123,
 t76:=underlying124,
 a76:=isAgg124,
 z76:=sizeOf124,
 v76:=zeroValue124,
 t85:=underlying188,
 a85:=isAgg188,
 z85:=sizeOf188,
 v85:=zeroValue188,
 t127:=underlying176,
 a127:=isAgg176,
 z127:=sizeOf176,
 v127:=zeroValue176,
 t143:=underlying235,
 a143:=isAgg235,
 z143:=sizeOf235,
 v143:=zeroValue235,
 t145:=underlying237,
 a145:=isAgg237,
 z145:=sizeOf237,
 v145:=zeroValue237,
 t167:=underlying187,
 a167:=isAgg187,
 z167:=sizeOf187,
 v167:=zeroValue187,
 t168:=underlying190,
 a168:=isAgg190,
 z168:=sizeOf190,
 v168:=zeroValue190,
 t171:=underlying177,
 a171:=isAgg177,
 z171:=sizeOf177,
 v171:=zeroValue177,
 t173:=underlying180,
 a173:=isAgg180,
 z173:=sizeOf180,
 v173:=zeroValue180,
 t175:=underlying222,
 a175:=isAgg222,
 z175:=sizeOf222,
 v175:=zeroValue222,
 t210:=underlying225,
 a210:=isAgg225,
 z210:=sizeOf225,
 v210:=zeroValue225,
 t212:=underlying209,
 a212:=isAgg209,
 z212:=sizeOf209,
 v212:=zeroValue209,
 t213:=underlying210,
 a213:=isAgg210,
 z213:=sizeOf210,
 t232:=underlying250,
 a232:=isAgg250,
 z232:=sizeOf250,
 v232:=zeroValue250,
 t233:=underlying251,
 a233:=isAgg251,
 z233:=sizeOf251,
 v233:=zeroValue251,
 g15:=by kernel_rfl,
 g16:=by kernel_rfl,
 g17:=by kernel_rfl,
 g18:=by kernel_rfl,
 g19:=by kernel_rfl,
 t80:=underlying150,
 a80:=isAgg150,
 z80:=sizeOf150,
 v80:=zeroValue150,
 i0:=by kernel_rfl,
 i2:=by kernel_rfl,
 i3:=by kernel_rfl,
 i4:=by kernel_rfl,
 i5:=by kernel_rfl,
 i9:=by kernel_rfl,
 i20:=by kernel_rfl,
 i21:=by kernel_rfl,
 i37:=by kernel_rfl,
 i46:=by kernel_rfl,
 i51:=by kernel_rfl,
 i53:=by kernel_rfl,
 i75:=by kernel_rfl,
 i76:=by kernel_rfl,
 i80:=by kernel_rfl,
 i85:=by kernel_rfl,
 i127:=by kernel_rfl,
 i143:=by kernel_rfl,
 i145:=by kernel_rfl,
 i167:=by kernel_rfl,
 i168:=by kernel_rfl,
 i171:=by kernel_rfl,
 i173:=by kernel_rfl,
 i175:=by kernel_rfl,
 i210:=by kernel_rfl,
 i212:=by kernel_rfl,
 i232:=by kernel_rfl,
 i233:=by kernel_rfl,
 m15:=by kernel_rfl,
 m16:=by kernel_rfl,
 m17:=by kernel_rfl,
 m18:=by kernel_rfl,
 m19:=by kernel_rfl,
 c0:=by kernel_rfl,
 c2:=by kernel_rfl,
 c3:=by kernel_rfl,
 c4:=by kernel_rfl,
 c5:=by kernel_rfl,
 c9:=by kernel_rfl,
 c20:=by kernel_rfl,
 c21:=by kernel_rfl,
 c37:=by kernel_rfl,
 c46:=by kernel_rfl,
 c51:=by kernel_rfl,
 c53:=by kernel_rfl,
 c75:=by kernel_rfl,
 c76:=by kernel_rfl,
 c80:=by kernel_rfl,
 c85:=by kernel_rfl,
 c127:=by kernel_rfl,
 c143:=by kernel_rfl,
 c145:=by kernel_rfl,
 c167:=by kernel_rfl,
 c168:=by kernel_rfl,
 c171:=by kernel_rfl,
 c173:=by kernel_rfl,
 c175:=by kernel_rfl,
 c210:=by kernel_rfl,
 c212:=by kernel_rfl,
 c213:=by kernel_rfl,
 c232:=by kernel_rfl,
 c233:=by kernel_rfl }
end Go.Proofs.YtmbbagbhmjaedaaGreatDoor
namespace FM
open Go Go.RowKit
theorem FnSpec.Ik{P:Program}{f:Nat}{bs:List AV}{r:AV}(hf:jd P f)
  (h:∀ (w:World) (L:Nat->aO) (vs:List Value),vs.length=bs.length->(∀ i x v,bs[i]?=some x->vs[i]?=some v->Rep L w (some [i]) x v)->FM.kg L w->Calls P f vs.toArray w fun e w'=>∃ v0,e=.returned v0/\(∀ (L:Nat->aO) (w:World) π,Rep L w π r v0)/\Below w.heap.size w w'):FnSpec P f bs bs r where
 ok:=hf
 calls:=fun w L vs hl b7 bE=>(h w L vs hl bE b7.glob).mono fun e w' ⟨v0,he,hr,hb⟩=>by
  have hL:∀ b p,(if b<w.heap.size then L b else .sh)=.my p->b<w.heap.size/\L b=.my p:=fun b p h=>by
   by_cases hb:b<w.heap.size
   ·rw [if_pos hb] at h;exact⟨hb,h⟩
   ·rw [if_neg hb] at h;cases h
  refine⟨v0,fun b=>if b<w.heap.size then L b else .sh,he,⟨hb.os,hb.tape,hb.output,hb.size,fun b aA _=>hb.block b aA⟩,
   ⟨fun b p h=>ahv (hL b p h).1 hb.size,fun b b' p h h'=>b7.inj b b' p (hL b p h).2 (hL b' p h').2,fun b p h e=>?_,fun b p _ h=>⟨p,(hL b p h).2⟩,fun b aA=>?_,fun b hge h=>?_⟩,fun b p h=>?_,fun i x u hx hu=>?_,hr _ _ _⟩
  ·obtain⟨i,q,e',_⟩:=b7.head b p (hL b p h).2;rw [e] at e';cases e'
  ·show(if b<w.heap.size then L b else .sh)=.fo↔_;rw [if_pos aA]
  ·have h:(if b<w.heap.size then L b else .sh)=.fo:=h;rw [if_neg ae] at h;cases h
  ·obtain⟨i,q,e',h2⟩:=b7.head b p (hL b p h).2;exact⟨i,q,e',ae⟩
  ·refine(bE i x u hx hu).frame hb.size hb.os hb.tape hb.output (fun b h1 h2=>⟨?_,hb.block b h2⟩) _ fun p hp=>⟨p,hp,fun b q h1=>⟨?_,?_⟩⟩
   ·show(if b<w.heap.size then L b else .sh)=.sh;rw [if_pos h2];exact h1
   ·show(if b<w.heap.size then L b else .sh)=_;rw [if_pos (b7.lt b _ h1)];exact h1
   ·exact hb.block b (b7.lt b _ h1)
theorem FnSpec.Il{P:Program}{f:Nat}{bs:List AV}(ls:List (List UInt8))(hf:jd P f)(t:TypeId)
  (h:∀ (w:World) (L:Nat->aO) (vs:List Value),vs.length=bs.length->(∀ i x v,bs[i]?=some x->vs[i]?=some v->Rep L w (some [i]) x v)->FM.kg L w->Calls P f vs.toArray w fun e w'=>e=.returned (.slice (some ⟨w.heap.size,0,none⟩) ls.length ls.length)/\w'=w.alloc (.cells (ls.map fun l=>Value.string ⟨l.toArray⟩).toArray t)):FnSpec P f bs bs (.sl true 1 (ls.map .str)) where
 ok:=hf
 calls:=fun w L vs hl b7 bE=>(h w L vs hl bE b7.glob).mono fun e w' ⟨he,hw⟩=>by
  have Uz:w'.heap[w.heap.size]?=some (.cells (ls.map fun l=>Value.string ⟨l.toArray⟩).toArray t (0,0)):=by rw [hw];exact heap_alloc_new w _
  have Xc:w'.heap.size=w.heap.size+1:=by rw [hw];exact Array.size_push ..
  have QJ:∀ b,b<w.heap.size->w'.heap[b]?=w.heap[b]?:=fun b hb=>by
   rw [hw];show(w.heap.push _)[b]?=_;rw [Array.getElem?_push_lt hb,ahO hb]
  have hwo:w'.os=w.os:=by rw [hw];rfl
  have hwt:w'.tape=w.tape:=by rw [hw];rfl
  have hwu:w'.output=w.output:=by rw [hw];rfl
  clear hw;obtain⟨L',fS⟩:∃ L':Nat->aO,L'=fun b'=>if b'=w.heap.size then .my [bs.length] else L b':=⟨_,rfl⟩
  have l1:L' w.heap.size=.my [bs.length]:=by rw [fS];simp
  have l2:∀ b',b'≠w.heap.size->L' b'=L b':=fun b' h=>by rw [fS];simp [h]
  clear fS;have lno:∀ b',L b'≠.my [bs.length]:=fun b' h=>by obtain⟨i,q,e1,e2⟩:=b7.head b' _ h;cases e1;omega
  refine⟨_,L',he,⟨hwo,hwt,hwu,ae,fun b hb _=>QJ b hb⟩,⟨fun b' p hp=>?_,fun b1 b2 p h1 h2=>?_,fun b' p hp e=>?_,fun b' p aA hp=>?_,fun b' aA=>?_,fun b' h1 h2=>?_⟩,fun b' p hp=>?_,fun i x u hx hu=>?_,?_⟩
  ·by_cases e:b'=w.heap.size
   ·omega
   ·rw [l2 b' e] at hp;have:=b7.lt b' p hp;omega
  ·by_cases e1:b1=w.heap.size
   ·subst e1;rw [l1] at h1;cases h1;by_cases e2:b2=w.heap.size
    ·exact e2.symm
    ·rw [l2 b2 e2] at h2;exact absurd h2 (lno b2)
   ·rw [l2 b1 e1] at h1;by_cases e2:b2=w.heap.size
    ·subst e2;rw [l1] at h2;cases h2;exact absurd h1 (lno b1)
    ·rw [l2 b2 e2] at h2;exact b7.inj b1 b2 p h1 h2
  ·subst e;by_cases e:b'=w.heap.size
   ·subst e;rw [l1] at hp;cases hp
   ·rw [l2 b' e] at hp;obtain⟨i,q,h,_⟩:=b7.head b' [] hp;cases h
  ·rw [l2 b' ae] at hp;exact⟨p,hp⟩
  ·rw [l2 b' ae]
  ·by_cases e:b'=w.heap.size
   ·subst e;rw [l1] at h2;cases h2
   ·rw [l2 b' e] at h2;exact b7.new b' h1 h2
  ·by_cases e:b'=w.heap.size
   ·subst e;rw [l1] at hp;cases hp;exact⟨_,[],rfl,ahr _⟩
   ·rw [l2 b' e] at hp;obtain⟨i,q,h,h2⟩:=b7.head b' p hp;exact⟨i,q,h,Nat.le_of_lt h2⟩
  ·refine(bE i x u hx hu).frame ae hwo hwt hwu (fun b h1 h2=>⟨by rw [l2 b ae];exact h1,QJ b h2⟩) _ fun p hp=>⟨p,hp,fun b q h1=>?_⟩;have hb:=b7.lt b _ h1;exact⟨by rw [l2 b ae];exact h1,QJ b hb⟩
  ·have tO:(ls.map AV.str).length=ls.length:=ahu _;rw [<- tO];refine .slO (fun o=>.string ⟨(ls.getD o []).toArray⟩) l1 Uz (by rw [tO];exact ahr _) ag (fun x hx=>by obtain⟨y,_,rfl⟩:=ahY.1 hx;rfl) (fun o ho=>?_) fun o y hy=>?_
   ·rw [tO,Nat.mul_one] at ho;simp [ho,ahK]
   ·rw [cJ (fun x hx=>by obtain⟨y,_,rfl⟩:=ahY.1 hx;rfl),ahE,ahs] at hy;obtain⟨z,hz,rfl⟩:=hy;rw [ahK,hz];exact .str
end FM
namespace Go.Proofs.YtmbbagbhmjaedaaGreatDoor
open Go FM Go.Proofs Tryz
theorem e8(n:Int)(h0:-9223372036854775808<=n)(h1:n<=9223372036854775807):FnSpec Sy.P 16 [.int n] [.int n] (.str (Lib.itoa n)):=by
 refine FnSpec.Ik ⟨_,func16,rfl,rfl⟩ fun w L vs hl bE hg=>?_
 match vs,hl,bE with
 | [u],_,bE =>
  have e1:=bE 0 _ _ rfl rfl;cases e1;refine(Any.strconv_Itoa zi n h0 h1 w hg.ok.pow).mono fun e w' ⟨he,k,os,hw⟩=>⟨_,he,fun _ _ _=>.str,?_⟩;rw [hw];exact Lib.below_grow _ _ (ahr _) _ _
theorem u4(n:Int)(v:Value)(L:Nat->aO)(w:World)(π:Option (List Nat)):Rep L w π (.tup [.int n,.dead]) (.tuple #[.int .i64 n,v]):=by
 refine .tup (vs:=[_,_]) rfl fun i x u hx hv=>?_
 match i with
 | 0=>simp only [ahq,ahp] at hx hv;subst hx;subst hv;exact .int
 | 1=>simp only [ahP,ahq,ahp] at hx hv;subst hx;subst hv;exact .dead
 | i+2=>simp at hx
def numOf(s:bd):Int:=(Lib.atoi s).getD 0
theorem oR(s:bd)(hs:s.length<=18):FnSpec Sy.P 63 [.str s] [.str s] (.tup [.int (numOf s),.dead]):=by
 refine FnSpec.Ik ⟨_,func63,rfl,rfl⟩ fun w L vs hl bE hg=>?_
 match vs,hl,bE with
 | [u],_,bE =>
  have e1:=bE 0 _ _ rfl rfl;cases e1
  cases h:Lib.atoi s with
  | some n =>
   have e:numOf s=n:=by unfold numOf;rw [h];rfl
   rw [e];refine(Any.strconv_Atoi { Od with } ⟨s.toArray⟩ n (by rw [cK];exact hs) h w).mono fun e w' ⟨he,t,hw⟩=>⟨_,he,u4 n _,?_⟩;rw [hw];exact Lib.bytesWorld_below _ _ _
  | none =>
   have e:numOf s=0:=by unfold numOf;rw [h];rfl
   rw [e];obtain⟨tp,p,hv⟩:=hg.ok.syn;exact(Any.strconv_Atoi_err Od ⟨s.toArray⟩ (by rw [cK];exact hs) h _ w hv (.inr ⟨tp,p,rfl⟩)).mono fun e w' ⟨N,he,_,_,hb⟩=>⟨_,he,u4 0 _,hb⟩
def pieces(s sep:bd):List bd:=(Lib.splitB ⟨sep.toArray⟩ 0 (Lib.countB ⟨s.toArray⟩ ⟨sep.toArray⟩) ⟨s.toArray⟩).map fun b=>b.data.toList
theorem BT(s sep:bd)(hs:s.length<4294967281)(h1:1<=sep.length):FnSpec Sy.P 105 [.str s,.str sep] [.str s,.str sep] (.sl true 1 ((pieces s sep).map .str)):=by
 refine FnSpec.Il _ ⟨_,func105,rfl,rfl⟩ 9 fun w L vs hl bE hg=>?_
 match vs,hl,bE with
 | [u,v],_,bE =>
  have e1:=bE 0 _ _ rfl rfl;have e2:=bE 1 _ _ rfl rfl;cases e1;cases e2;obtain⟨m,hm⟩:=hg.ok.mx;have:=Any.strings_Split { QI with } ah ⟨s.toArray⟩ ⟨sep.toArray⟩ m w (by rw [cK];exact hs) hm (by rw [cK];exact h1);have hlen:=Lib.splitB_all ⟨sep.toArray⟩ (by rw [cK];exact h1) 0 _ ⟨s.toArray⟩ rfl;refine this.mono fun e w' ⟨he,hw⟩=>⟨?_,?_⟩
  ·rw [he,pieces,ahu,hlen]
  ·rw [hw,pieces,List.map_map];rfl
theorem zm(s:bd)(hs:s.length<4294967281)(ha:∀ b∈s,b.toNat<128):FnSpec Sy.P 62 [.str s] [.str s] (.sl true 1 ((Lib.fields s).map .str)):=by
 refine FnSpec.Il _ ⟨_,func62,rfl,rfl⟩ 9 fun w L vs hl bE hg=>?_
 match vs,hl,bE with
 | [u],_,bE =>
  have e1:=bE 0 _ _ rfl rfl;cases e1;exact Any.strings_Fields_laid Ml ⟨s.toArray⟩ w (by rw [cK];exact hs) (fun j b h=>ha b (ahH h)) hg.ok.spc
theorem Oe:Builder.Extra Tryz.prog u3 where
 sizeBuilder:=ah
 liesBuilder:=ah
 t5:=zi.t5
 a5:=zi.a5
 z5:=zi.z5
 v5:=zi.v5
 infoByte:=ah
 cellsByte:=ah
 sizeByte:=ah
 neB5:=af
theorem FP(l:List bd)(sep:bd)(hN:l.length<=140737488355328)(hlen:(Lib.join l sep).length<=140737488355328):FnSpec Sy.P 52 [.sl false 1 (l.map .str),.str sep] [.sl false 1 (l.map .str),.str sep] (.str (Lib.join l sep)):=by
 refine FnSpec.Ik ⟨_,func52,rfl,rfl⟩ fun w L vs hl bE hg=>?_
 match vs,hl,bE with
 | [u,v],_,bE =>
  have e1:=bE 0 _ _ rfl rfl;have e2:=bE 1 _ _ rfl rfl;cases e2;generalize hx:l.map AV.str=xs at e1;have hm:(l.map fun s:bd=>(⟨s.toArray⟩:ByteArray)).map (·.data.toList)=l:=by rw [List.map_map];exact List.map_id' l
  cases e1 with
  | slE _ =>
   have:l=[]:=List.map_eq_nil_iff.1 hx;subst this;refine(Any.strings_Join_none Oc Oe _ _ ⟨sep.toArray⟩ w).mono fun e w' ⟨he,hw⟩=>⟨_,he,fun _ _ _=>.str,hw▸RowKit.Below.refl _ _⟩
  | @slS _ _ _ b off cap q bK hL hb hc aH hr =>
   have QK:xs.length=(l.map fun s:bd=>(⟨s.toArray⟩:ByteArray)).length:=by rw [<- hx,ahu,ahu]
   have:=Any.strings_Join Oc Oe b off cap (l.map fun s:bd=>(⟨s.toArray⟩:ByteArray)) ⟨sep.toArray⟩ w (fun j x hj=>?_) hb (by rw [ahu];exact hN) (by rw [<- QK];exact bK) (by rw [hm];exact hlen)
   ·rw [hm,<-QK] at this;exact this.mono fun e w' ⟨he,hb⟩=>⟨_,he,fun _ _ _=>.str,hb⟩
   ·rw [ahE,ahs] at hj;obtain⟨s,hs,rfl⟩:=hj;have pI:j<xs.length:=by rw [QK,ahu];exact(aho.1 hs).1
    have h1:=aH j ae;have h2:=hr j (.str s) (by rw [<- hx,cJ (fun x hx=>by obtain⟨y,_,rfl⟩:=ahY.1 hx;rfl),ahE,hs];rfl);rw [h1];generalize q j=qq at h2;cases h2;rfl
end Go.Proofs.YtmbbagbhmjaedaaGreatDoor
namespace FM
open Go Go.RowKit
theorem RelL.wW{S:Sys}{N:Nat}{σ:St}{w0:World}{L0:Nat->aO}{a:Act}{w:World}{L:Nat->aO}(hR:RelL S w0 L0 N σ a w L){s i t0:Nat}{r:AV}{xs:List AV}(hs:FM.get σ s=.av (.pt true xs))(DK:FM.get σ t0=.av r)(NV:r.cells=[r])(cH:t0≠s)(hi:i<xs.length)
  (aH:∀ b,L b=.my [s]->w.cell? ⟨b,i,none⟩=some (a.tmps.getD t0 undef)):RelL S w0 L0 N ((σ.put t0 .none).upd false s (.av (.pt true (xs.set i r)))) a w (eC (eX s i t0) L):=by
 have ja:=aJ hR hs ag;have HT:=aJ hR DK ag;have BB:∀ b,L b=.my [s]->eC (eX s i t0) L b=.my [s]:=fun b hb=>dG hb (dS cH (by simp [strip]));refine⟨hR.defers,hR.size,hR.keep,hR.lok.eC rB,fun n hn=>?_,fun n hn=>?_,hR.fix,hR.glob⟩
 ·simp only [FM.get,aY];by_cases qy:s=n
  ·subst qy;rw [ahy,cond_true];have hh:=hR.hold s hn;rw [hs] at hh;have ht:=hR.hold t0 HT;rw [DK] at ht;simp only [Hold] at hh ht ⊢;generalize a.tmps.getD s undef=sv at hh
   cases hh with
   | @ptO p cs b arr e u hL hb bc fW hr =>
    have NW:=aH b hL;rw [cell_of_row w b i arr e (0,0) hb] at NW;refine .ptO (fun o=>if o=i then a.tmps.getD t0 undef else u o) (BB b hL) hb (by rw [aiy];exact bc) (fun o ho=>?_) (fun o y hy=>?_)
    ·split
     ·rename_i e;subst e;exact NW
     ·rw [aiy] at ho;exact fW o ho
    ·rw [aio] at hy;by_cases ho:i=o
     ·subst ho;rw [if_pos rfl,if_pos hi] at hy;cases hy;simp only [if_pos];refine Rep.frame (ahr _) rfl rfl rfl (fun k h1 _=>⟨eD h1,rfl⟩) ht _ fun p hp=>?_;cases hp;refine⟨_,rfl,fun k q hk=>⟨dG hk ?_,rfl⟩⟩;unfold eX;rw [dq.2 rfl];rfl
     ·rw [if_neg ho] at hy;simp only [if_neg (Ne.symm ho)];refine Rep.frame (ahr _) rfl rfl rfl (fun k h1 _=>⟨eD h1,rfl⟩) (hr o y hy) _ fun p hp=>?_;cases hp;refine⟨_,rfl,fun k q hk=>⟨dG hk ?_,rfl⟩⟩;refine dS cH ?_;simp [strip,au ho,ahy]
  ·rw [au qy,cond_false];by_cases Dr:t0=n
   ·subst Dr;rw [ahy,cond_true];trivial
   ·rw [au Dr,cond_false]
    cases hd:(FM.get σ n).dep t0 with
    | true=>trivial
    | false =>
     rw [cond_false];have hh:=hR.hold n hn;have key:∀ tv:TV,tv.dep s=false->tv.dep t0=false->Hold L w a.tmps n tv (a.tmps.getD n undef)->Hold (eC (eX s i t0) L) w a.tmps n tv (a.tmps.getD n undef):=fun tv P0 P1 hh =>
      Hold.cG (good:=fun m=>m≠s/\m≠t0) (ahr _) rfl rfl rfl (fun k h1 _=>⟨eD h1,rfl⟩) (fun k m q h1 h2=>⟨dG h1 (dS (fun e=>h2.2 e.symm) (by simp only [strip,au (fun e=>h2.1 e.symm:s≠m),cond_false])),rfl⟩)
       (fun _ _=>rfl) ⟨fun e=>qy e.symm,fun e=>Dr e.symm⟩ (fun m hm=>⟨fun e=>(by subst e;rw [P0] at hm;cases hm),fun e=>(by subst e;rw [P1] at hm;cases hm)⟩) hh
     generalize FM.get σ n=tv at hh hd
     cases tv with
     | none=>trivial
     | av x=>exact key _ rfl rfl hh
     | ref s'=>exact hh
     | rref s' q y =>
      simp only [TV.bk]
      cases bI:Nat.beq s' s with
      | false=>exact key _ bI hd hh
      | true=>trivial
     | ptr s' q c y =>
      simp only [TV.bk]
      cases bI:Nat.beq s' s with
      | false=>exact key _ bI hd hh
      | true =>
       have:=ahz bI;subst this;obtain⟨k,h1,h2,_⟩:=hh;exact⟨k,BB k h1,h2,fun h=>absurd rfl h⟩
     | fpt s' o y =>
      simp only [TV.bk]
      cases bI:Nat.beq s' s with
      | false=>exact key _ bI hd hh
      | true =>
       have:=ahz bI;subst this;obtain⟨k,h1,h2,_⟩:=hh;exact⟨k,BB k h1,h2,fun h=>absurd rfl h⟩
     | rptr s' q j y =>
      simp only [TV.bk]
      cases bI:Nat.beq s' s with
      | false=>exact key _ bI hd hh
      | true=>trivial
     | dptr x=>exact key _ rfl rfl hh
     | bdp s' x =>
      simp only [TV.bk]
      cases bI:Nat.beq s' s with
      | false=>exact key _ bI hd hh
      | true=>trivial
     | bor s' x =>
      simp only [TV.bk]
      cases bI:Nat.beq s' s with
      | false=>exact key _ bI hd hh
      | true=>trivial
     | clo f caps=>exact hh
 ·simp only [FM.get,aY];rw [au (show s≠n by omega),cond_false,au (show t0≠n by omega),cond_false,hR.out n hn];rfl
theorem RelL.wX{S:Sys}{N:Nat}{σ:St}{w0:World}{L0:Nat->aO}{a:Act}{w:World}{L:Nat->aO}(hR:RelL S w0 L0 N σ a w L){s i d:Nat}{y:AV}{xs:List AV}(hs:FM.get σ s=.av (.pt true xs))(hd:FM.get σ d=.rref s i y)(hy:y≠.dead)(c8:s≠d)(hi:i<xs.length):
  RelL S w0 L0 N ((σ.upd false s (.av (.pt true (xs.set i .dead)))).put d (.av y)) a w (lZ [s,i] d L):=by
 have ja:=aJ hR hs ag;have Pr:=aJ hR hd ag;have BB:∀ b,L b=.my [s]->lZ [s,i] d L b=.my [s]:=fun b hb=>cC hb c8 (by simp [strip]);refine⟨hR.defers,hR.size,hR.keep,hR.lok.lZ _ _,fun n hn=>?_,fun n hn=>?_,hR.fix,hR.glob⟩
 ·simp only [FM.get,aY];by_cases gP:d=n
  ·subst gP;rw [ahy,cond_true];have:=hR.hold d Pr;rw [hd] at this;obtain⟨b,h1,h2,h3⟩:=this;refine Rep.frame (ahr _) rfl rfl rfl (fun b h1 _=>⟨ew h1,rfl⟩) (h3 hy) _ fun p hp=>?_;cases hp;exact⟨[d],rfl,fun b q hb=>⟨qQ hb,rfl⟩⟩
  ·rw [au gP,cond_false];by_cases pv:s=n
   ·subst pv;rw [ahy,cond_true];simp only [TV.dep,cond_false];have hh:=hR.hold s hn;rw [hs] at hh;simp only [Hold] at hh ⊢;generalize a.tmps.getD s undef=sv at hh
    cases hh with
    | @ptO p cs b arr e u hL hb bc fW hr =>
     refine .ptO u (BB b hL) hb (by rw [aiy];exact bc) (fun o ho=>by rw [aiy] at ho;exact fW o ho) (fun o z hz=>?_);rw [aio] at hz;by_cases ho:i=o
     ·subst ho;rw [if_pos rfl,if_pos hi] at hz;cases hz;exact .dead
     ·rw [if_neg ho] at hz;refine Rep.frame (ahr _) rfl rfl rfl (fun k h1 _=>⟨ew h1,rfl⟩) (hr o z hz) _ fun p hp=>?_;cases hp;refine⟨_,rfl,fun k q hk=>⟨?_,rfl⟩⟩;exact cC (t:=s) (q:=o::q) hk c8 (by simp [strip,au ho,ahy])
   ·rw [au pv,cond_false];have hh:=hR.hold n hn;have key:∀ tv:TV,tv.dep s=false->tv.dep d=false->Hold L w a.tmps n tv (a.tmps.getD n undef)->Hold (lZ [s,i] d L) w a.tmps n tv (a.tmps.getD n undef):=fun tv P0 P1 hh =>
     Hold.cG (good:=fun m=>m≠s/\m≠d) (ahr _) rfl rfl rfl (fun k h1 _=>⟨ew h1,rfl⟩) (fun k m q h1 h2=>⟨cC h1 h2.2 (by simp only [strip,au (fun e=>h2.1 e.symm:s≠m),cond_false]),rfl⟩)
      (fun _ _=>rfl) ⟨fun e=>pv e.symm,fun e=>gP e.symm⟩ (fun m hm=>⟨fun e=>(by subst e;rw [P0] at hm;cases hm),fun e=>(by subst e;rw [P1] at hm;cases hm)⟩) hh
    generalize FM.get σ n=tv at hh
    cases tv with
    | none=>trivial
    | av x=>exact key _ rfl rfl hh
    | ref s' =>
     simp only [TV.bk,TV.dep];cases Nat.beq s' d<;>first|exact hh|trivial
    | rref s' q y =>
     simp only [TV.bk]
     cases bI:Nat.beq s' s with
     | true=>trivial
     | false =>
      simp only [cond_false,TV.dep]
      cases gT:Nat.beq s' d with
      | true=>trivial
      | false=>exact key _ bI gT hh
    | ptr s' q c y =>
     simp only [TV.bk]
     cases bI:Nat.beq s' s with
     | true =>
      have:=ahz bI;subst this;simp only [cond_true,TV.dep,au c8,cond_false];obtain⟨k,h1,h2,_⟩:=hh;exact⟨k,BB k h1,h2,fun h=>absurd rfl h⟩
     | false =>
      simp only [cond_false,TV.dep]
      cases gT:Nat.beq s' d with
      | true=>trivial
      | false=>exact key _ bI gT hh
    | fpt s' o y =>
     simp only [TV.bk]
     cases bI:Nat.beq s' s with
     | true =>
      have:=ahz bI;subst this;simp only [cond_true,TV.dep,au c8,cond_false];obtain⟨k,h1,h2,_⟩:=hh;exact⟨k,BB k h1,h2,fun h=>absurd rfl h⟩
     | false =>
      simp only [cond_false,TV.dep]
      cases gT:Nat.beq s' d with
      | true=>trivial
      | false=>exact key _ bI gT hh
    | rptr s' q j y =>
     simp only [TV.bk]
     cases bI:Nat.beq s' s with
     | true=>trivial
     | false =>
      simp only [cond_false,TV.dep]
      cases gT:Nat.beq s' d with
      | true=>trivial
      | false=>exact key _ bI gT hh
    | dptr x=>exact key _ rfl rfl hh
    | bdp s' x =>
     simp only [TV.bk]
     cases bI:Nat.beq s' s with
     | true=>trivial
     | false =>
      simp only [cond_false,TV.dep]
      cases gT:Nat.beq s' d with
      | true=>trivial
      | false=>exact key _ bI gT hh
    | bor s' x =>
     simp only [TV.bk]
     cases bI:Nat.beq s' s with
     | true=>trivial
     | false =>
      simp only [cond_false,TV.dep]
      cases gT:Nat.beq s' d with
      | true=>trivial
      | false=>exact key _ bI gT hh
    | clo f caps =>
     simp only [TV.bk,TV.dep];cases caps.any fun s=>Nat.beq s d<;>first|exact hh|trivial
 ·simp only [FM.get,aY];rw [au (show d≠n by omega),cond_false,au (show s≠n by omega),cond_false,hR.out n hn];rfl
end FM
