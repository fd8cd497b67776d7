/- Part of the proof. -/
import Derived.Test.YtmbbagbhmjaedaaGreatDoorCbd
import Derived.Shelf.Strconv.Itoa3
import Derived.Shelf.Strings.OnBuilder
import Derived.Shelf.Strings.SplitShaped
set_option linter.all false
set_option maxRecDepth 10000
set_option maxHeartbeats 1600000
namespace Go.Proofs.YtmbbagbhmjaedaaGreatDoor
open Go FM Tryz
theorem pG(s:List UInt8)(hl:s.length<=9223372036854775807):FnSpec Sy.P 142 [.str s] [.str s] (u16 (lR s)):=by
 refine bQ func142 ntmps142 fun v0=>?_;repeat' first|refine aG ?_|(refine aK ?_ ?_<;>intro _<;>try exact aE)|fail
 refine CW.loop (fun k:Nat=>[(0,.av (.str s)),(3,.av (u16 (lR (s.take k)))),(7,.av (.sl false 1 (s.map b8))),(8,.av (.int (s.length))),(9,.av (.int (k)))]) (fun k=>k<=s.length) (fun k=>s.length-k) (0) ?_ (ck) ?_
 ·exact ahQ _
 intro k hk;have hx:=mE (s.take k);by_cases aA:k<s.length
 ·have hg:s[k]?=some s[k]:=ahn aA;have ht:=FA aA;have hc:=s[k].toNat_lt;have hm:=qz s[k].toNat 8;generalize s[k]=c at *;generalize lR (s.take k)=x at *;repeat' first|refine aG ?_|(refine aK ?_ ?_<;>intro _<;>try exact aE)|fail
  have hy:=qA hx hm;generalize x ^^^ rC c.toNat 8=y at *;refine CW.loop (fun j:Nat=>[(0,.av (.str s)),(3,.av (u16 (ub y j))),(7,.av (.sl false 1 (s.map b8))),(8,.av (.int (s.length))),(9,.av (.int (k))),(18,.av (.int (j)))]) (fun j=>j<=8) (fun j=>8-j) (0) ?_ (ck) ?_
  ·exact ahQ _
  intro j hj;by_cases hj8:j<8
  ·have hz:=LQ hy j;have hs:ub y (j+1)=st1 (ub y j):=rfl;generalize ub y j=z at *;have Uw:=qz z 1;by_cases ht:shr z 15=1
   ·unfold st1 at hs;rw [if_pos ht] at hs;repeat' first|refine aG ?_|(refine aK ?_ ?_<;>intro _<;>try exact aE)|fail
    all_goals try exact aE
    refine⟨j+1,?_,fM,by(repeat' (first|exact ky|refine And.intro ?_ ?_|(rw [hs])))⟩;omega
   ·unfold st1 at hs;rw [if_neg ht] at hs;repeat' first|refine aG ?_|(refine aK ?_ ?_<;>intro _<;>try exact aE)|fail
    all_goals try exact aE
    refine⟨j+1,?_,fM,by(repeat' (first|exact ky|refine And.intro ?_ ?_|(rw [hs])))⟩;omega
  ·obtain rfl:j=8:=ae;rw [<- ht];repeat' first|refine aG ?_|(refine aK ?_ ?_<;>intro _<;>try exact aE)|fail
   refine⟨k+1,?_,fM,ck⟩;omega
 ·obtain rfl:k=s.length:=ae;rw [ah7];repeat' first|refine aG ?_|(refine aK ?_ ?_<;>intro _<;>try exact aE)|fail
  exact .mk rfl rfl rfl
section
variable {S:FM.Sys} {σ:FM.St} {d ty t t2 a:Nat} {pos:String} {aft:Array Edge} {g:Option (Nat×Bool)} {x y:Operand}
theorem rW(hx:ov σ x=.av (.int (a:Int)))(hy:ov σ y=.av (.int 32768))(ha:a<65536):Step S ⟨some d,.binOp .quo t x y t2,ty,pos,aft,g⟩ σ (σ.put d (.av (.int ((a / 32768:Nat):Int)))):=by
 have e:Int.tdiv (a:Int) 32768=((a / 32768:Nat):Int):=rfl;have:=NJ (S:=S) (d:=d) (ty:=ty) (t:=t) (t2:=t2) (pos:=pos) (aft:=aft) (g:=g) hx hy af (by rw [e];exact kC.mk ae)
 rwa [e] at this
theorem D8(hx:ov σ x=.av (.int (a:Int)))(hy:ov σ y=.av (.int 2))(ha:a<65536):Step S ⟨some d,.binOp .mul t x y t2,ty,pos,aft,g⟩ σ (σ.put d (.av (.int ((a*2:Nat):Int)))):=by
 have:=NI (S:=S) (d:=d) (ty:=ty) (t:=t) (t2:=t2) (pos:=pos) (aft:=aft) (g:=g) hx hy (kC.mk ae)
 rwa [show(a:Int)*2=((a*2:Nat):Int) by omega] at this
theorem rX(hx:ov σ x=.av (.int (a:Int)))(hy:ov σ y=.av (.int 65536)):Step S ⟨some d,.binOp .rem t x y t2,ty,pos,aft,g⟩ σ (σ.put d (.av (.int ((a%65536:Nat):Int)))):=by
 have e:Int.tmod (a:Int) 65536=((a%65536:Nat):Int):=rfl;have:=NK (S:=S) (d:=d) (ty:=ty) (t:=t) (t2:=t2) (pos:=pos) (aft:=aft) (g:=g) hx hy af
 rwa [e] at this
theorem uY(hx:ov σ x=.av (.int (a:Int)))(hy:ov σ y=.av (.int 4129))(ha:a<65536):Step S ⟨some d,.binOp .xor t x y t2,ty,pos,aft,g⟩ σ (σ.put d (.av (.int ((a ^^^ 4129:Nat):Int)))) :=
 s_xorN (b:=4129) hx hy (kC.mk ae) (kC.mk ae)
end
theorem BR(s:List UInt8)(hl:s.length<=9223372036854775807):FnSpec Sy.P 83 [.str s] [.str s] (u16 (lR s)):=by
 refine bQ func83 ntmps83 fun v0=>?_;repeat' first|refine aG ?_|(refine aK ?_ ?_<;>intro _<;>try exact aE)|fail
 refine CW.loop (fun k:Nat=>[(0,.av (.str s)),(3,.av (.int (((lR (s.take k):Nat):Int)))),(8,.av (.int (s.length))),(9,.av (.int (k)))]) (fun k=>k<=s.length) (fun k=>s.length-k) (0) ?_ (ck) ?_
 ·exact ahQ _
 intro k hk;have hx:=mE (s.take k);by_cases aA:k<s.length
 ·have hg:s[k]?=some s[k]:=ahn aA;have ht:=yN aA;have hc:=s[k].toNat_lt;generalize s[k]=c at *;generalize lR (s.take k)=x at *;repeat' first|refine aG ?_|(refine aK ?_ ?_<;>intro _<;>try exact aE)|fail
  refine CW.loop (fun j:Nat=>[(0,.av (.str s)),(3,.av (.int (((oJ c.toNat x j:Nat):Int)))),(4,.av (.int (k))),(5,.av (.int (7-(j:Int)))),(8,.av (.int (s.length))),(9,.av (.int (k)))]) (fun j=>j<=8) (fun j=>8-j) (0) ?_ (ck) ?_
  ·exact ahQ _
  intro j hj;by_cases hj8:j<8
  ·have hz:=wA (c:=c.toNat) hx j;have hs:oJ c.toNat x (j+1)=st2 c.toNat (oJ c.toNat x j) (7-j):=rfl;generalize oJ c.toNat x j=z at *;obtain⟨m,hm⟩:∃ m,m=7-j:=⟨_,rfl⟩;rw [<- hm] at hs;rw [show(7:Int)-(j:Int)=(m:Int) by omega];have adR:shr c.toNat m%2<2:=Nat.mod_lt _ af;have kK:=PY c.toNat m;have hmz:z*2%65536<65536:=Nat.mod_lt _ af;unfold st2 at hs;by_cases Ii:z / 32768 ^^^ (shr c.toNat m%2)=1
   ·rw [if_pos Ii] at hs;repeat' first|((with_reducible apply J.step);rfl;(exact rW rfl rfl hz))|((with_reducible apply J.step);rfl;(exact D8 rfl rfl hz))|((with_reducible apply J.step);rfl;(exact rX rfl rfl))|((with_reducible apply J.step);rfl;(exact uY rfl rfl hmz))|refine aG ?_|(refine aK ?_ ?_<;>intro _<;>try exact aE)|fail
    all_goals try exact aE
    refine⟨j+1,?_,fM,by(repeat' (first|exact ky|refine And.intro ?_ ?_|(rw [hs])))⟩;omega
   ·rw [if_neg Ii] at hs;repeat' first|((with_reducible apply J.step);rfl;(exact rW rfl rfl hz))|((with_reducible apply J.step);rfl;(exact D8 rfl rfl hz))|((with_reducible apply J.step);rfl;(exact rX rfl rfl))|((with_reducible apply J.step);rfl;(exact uY rfl rfl hmz))|refine aG ?_|(refine aK ?_ ?_<;>intro _<;>try exact aE)|fail
    all_goals try exact aE
    refine⟨j+1,?_,fM,by(repeat' (first|exact ky|refine And.intro ?_ ?_|(rw [hs])))⟩;omega
  ·obtain rfl:j=8:=ae;rw [<- ht];repeat' first|refine aG ?_|(refine aK ?_ ?_<;>intro _<;>try exact aE)|fail
   refine⟨k+1,?_,fM,ck⟩;omega
 ·obtain rfl:k=s.length:=ae;rw [ah7];have fW:=mE s;generalize lR s=x at *;repeat' first|refine aG ?_|(refine aK ?_ ?_<;>intro _<;>try exact aE)|fail
  exact .mk rfl (by rw [Nat.mod_eq_of_lt fW];rfl) rfl
theorem uh(rec:List UInt8)(hl:rec.length<=9223372036854775807):FnSpec Sy.P 135 [.str rec] [.str rec] (if 64<rec.length then .tup [.str [],.int 2] else .tup [.str (lF rec),.int 0]):=by
 refine bQ func135 ntmps135 fun v0=>?_;by_cases h:64<rec.length
 ·rw [if_pos h];repeat' first|refine aG ?_|(refine aK ?_ ?_<;>intro _<;>try exact aE)|fail
  exact .mk rfl rfl rfl
 ·rw [if_neg h];have hb:(body rec).length=rec.length+1:=by simp [body]
  have hS:=pG (body rec) ae;have hx:=mE (body rec);have hf:lF rec=body rec++[UInt8.ofNat (shr (lR (body rec)) 8%256),UInt8.ofNat (lR (body rec)%256)]:=rfl;rw [hf];have D9:[UInt8.ofNat (rec.length%256)]++rec=body rec:=rfl;generalize lR (body rec)=x at *;repeat' first|refine aG ?_|refine aF (hS) ?_|(refine aK ?_ ?_<;>intro _<;>try exact aE)|fail
  exact .mk rfl rfl rfl
theorem nK(rec:List UInt8)(hl:rec.length<=1000000):FnSpec Sy.P 51 [.str rec] [.str rec] (.str (lF rec)):=by
 refine bQ func51 ntmps51 fun v0=>?_;have hb:(body rec).length=rec.length+1:=by simp [body]
 have hS:=BR (body rec) ae;have hx:=mE (body rec);have hf:lF rec=body rec++[UInt8.ofNat (lR (body rec) / 256%256),UInt8.ofNat (lR (body rec)%256%256)]:=by rw [Nat.mod_mod];rfl
 rw [hf];generalize lR (body rec)=x at *;repeat' first|refine aG ?_|refine aF (hS) ?_|fail
 exact .mk rfl rfl rfl
abbrev strs(o:Bool)(l:List (List UInt8)):AV:=.sl o 1 (l.map .str)
theorem uZ{p:UInt8}{m:Nat}(h:m<256):p=UInt8.ofNat m↔((p.toNat:Nat):Int)=((m:Nat):Int):=by
 constructor
 ·rintro rfl;rw [UInt8.toNat_ofNat',Nat.mod_eq_of_lt h]
 ·intro e;have:p.toNat=m:=ae;rw [<- this];exact UInt8.ofNat_toNat.symm
theorem zb{s:List UInt8}{b:UInt8}(h0:s[0]?=some b)(h:64<b.toNat∨s.length<b.toNat+3):nx s=none:=by
 cases s with
 | nil=>cases h0
 | cons b' r =>
  simp only [ahq,ahp] at h0;subst h0;rw [ahI] at h;rw [lG,if_pos ae]
theorem nL(s:List UInt8)(hl:s.length<=1000000000):FnSpec Sy.P 103 [.str s] [.str s] (.tup [strs true (scan s).1,.int ((scan s).2:Nat)]):=by
 refine bQ func103 ntmps103 fun v0=>?_;repeat' first|refine aG ?_|(refine aK ?_ ?_<;>intro _<;>try exact aE)|fail
 refine CW.own 4 1 rfl ?_;refine CW.loop (fun z:Nat×List (List UInt8)=>[(0,.av (.str s)),(4,.av (strs true z.2)),(5,.av (.int (z.1)))]) (fun z=>z.1<=s.length/\z.2++(scan (s.drop z.1)).1=(scan s).1/\z.1+(scan (s.drop z.1)).2=(scan s).2/\z.2.length<=z.1) (fun z=>s.length-z.1) ((0,[])) ?_ (ck) ?_
 ·simp
 intro ⟨k,out⟩ ⟨hk,h1,h2,ho⟩;dsimp only at hk h1 h2 ho ⊢;by_cases aA:k<s.length
 ·have hg:s[k]?=some s[k]:=ahn aA;have YI:(s.drop k)[0]?=some s[k]:=by rw [ah5,aib];exact hg
  have qb:(s.drop k).length=s.length-k:=ahV;have hb:=s[k].toNat_lt;generalize s[k]=b at *;have Ux:b.toNat<256:=hb;by_cases hc:64<b.toNat∨s.length-k<b.toNat+3
  ·rw [eY (zb YI (by rw [qb];exact hc))] at h1 h2;simp only [ais,aib] at h1 h2;rw [<- h1,<-h2];repeat' first|refine aG ?_|(refine aK ?_ ?_<;>intro _<;>try exact aE)|fail
   all_goals exact bw
  ·have hp:s[((k:Int)+(b.toNat:Int)+1).toNat]?=some (s[k+b.toNat+1]' ae):=by
    rw [show((k:Int)+(b.toNat:Int)+1).toNat=k+b.toNat+1 by omega];exact ahn _
   have hq:s[((k:Int)+(b.toNat:Int)+2).toNat]?=some (s[k+b.toNat+2]' ae):=by
    rw [show((k:Int)+(b.toNat:Int)+2).toNat=k+b.toNat+2 by omega];exact ahn _
   have vU:(s.drop k)[b.toNat+1]?=some (s[k+b.toNat+1]' ae):=by
    rw [ah5,show k+(b.toNat+1)=k+b.toNat+1 by omega];exact ahn _
   have yd:(s.drop k)[b.toNat+2]?=some (s[k+b.toNat+2]' ae):=by
    rw [ah5,show k+(b.toNat+2)=k+b.toNat+2 by omega];exact ahn _
   obtain⟨t1,t2⟩:=LU YI ae ae vU yd;have hT:(s.take ((k:Int)+(b.toNat:Int)+1).toNat).drop (k:Int).toNat=(s.drop k).take (b.toNat+1):=by
    rw [show((k:Int)+(b.toNat:Int)+1).toNat=k+(b.toNat+1) by omega,ahN,List.take_add,List.drop_append];have:(List.take k s).length=k:=by rw [ahF];omega
    rw [List.drop_of_length_le ae,this,Nat.sub_self,List.drop_zero,List.nil_append]
   have hR:(s.take ((k:Int)+1+(b.toNat:Int)).toNat).drop ((k:Int)+1).toNat=((s.drop k).take (b.toNat+1)).drop 1:=by
    rw [<- hT,show((k:Int)+1+(b.toNat:Int)).toNat=((k:Int)+(b.toNat:Int)+1).toNat by omega,List.drop_drop];congr 1
   have YJ:((s.take ((k:Int)+(b.toNat:Int)+1).toNat).drop (k:Int).toNat).length<=9223372036854775807:=by rw [hT,ahF];omega
   have hS:=pG _ YJ;have hx:=mE ((s.take ((k:Int)+(b.toNat:Int)+1).toNat).drop (k:Int).toNat);rw [<- hT] at t1 t2;generalize s[k+b.toNat+1]' ae=p at *;generalize s[k+b.toNat+2]' ae=q at *;generalize hxx:lR ((s.take ((k:Int)+(b.toNat:Int)+1).toNat).drop (k:Int).toNat)=x at *;have ep:=uZ (p:=p) (m:=shr x 8%256) ae;have eq:=uZ (p:=q) (m:=x%256) ae;have YK:Qn x=UInt8.ofNat (shr x 8%256):=rfl;have YL:Qo x=UInt8.ofNat (x%256):=rfl;rw [YK,YL,ep,eq] at t1 t2;by_cases QG:((p.toNat:Nat):Int)=((shr x 8%256:Nat):Int)/\((q.toNat:Nat):Int)=((x%256:Nat):Int)
   ·have hn:=t1 QG;have QH:=nz hn;have Dy:(((s.take ((k:Int)+(b.toNat:Int)+1).toNat).drop (k:Int).toNat).drop 1).length=b.toNat:=by rw [hT,ahV,ahF];omega
    rw [jj hn,Dy] at h1 h2;have SY:(s.drop k).drop (b.toNat+3)=s.drop (k+b.toNat+3):=by rw [List.drop_drop,aix]
    rw [SY] at h1 h2;rw [hT,<-hR] at h1;obtain⟨adS,adT⟩:=QG;clear t1 t2 ep eq YK YL hn QH;repeat' first|refine aG ?_|refine aF (hS) ?_|(refine aK ?_ ?_<;>intro _<;>try exact aE)|fail
    all_goals try exact aE
    refine⟨(k+b.toNat+3,out++[(s.take ((k:Int)+1+(b.toNat:Int)).toNat).drop ((k:Int)+1).toNat]),?_,fM,ck⟩;refine⟨by simp only;omega,?_,?_,by simp only [ahC,ahI,aim];omega⟩
    ·simp only [ahX,List.singleton_append];exact h1
    ·simp only;omega
   ·rw [eY (t2 QG)] at h1 h2;simp only [ais,aib] at h1 h2;rw [<- h1,<-h2];clear t1 t2 ep eq YK YL;repeat' first|refine aG ?_|refine aF (hS) ?_|(refine aK ?_ ?_<;>intro _<;>try exact aE)|fail
    all_goals exact bw
 ·obtain rfl:k=s.length:=ae;rw [List.drop_length] at h1 h2;have:scan []=([],0):=rfl;rw [this] at h1 h2;simp only [ais,aib] at h1 h2;rw [<- h1,<-h2];repeat' first|refine aG ?_|(refine aK ?_ ?_<;>intro _<;>try exact aE)|fail
  exact .mk rfl rfl rfl
theorem ze:∀ (n:Nat) (s:List UInt8),s.length<=n->(scan s).1.length<=s.length
 | 0,s,h=>by
  have:s=[]:=ah4 ae;subst this;exact ahr _
 | n+1,s,h=>by
  cases hn:nx s with
  | none=>rw [eY hn];exact ahQ _
  | some rec =>
   have h1:=nz hn;have ih:=ze n (s.drop (rec.length+3)) (by rw [ahV];omega);rw [jj hn];rw [ahV] at ih;simp only [ahI];omega
theorem Ij{s:List UInt8}{b:UInt8}(h0:s[0]?=some b)(h1:¬ 64<b.toNat)(h2:b.toNat+3<=s.length):
  (lF ((s.take (b.toNat+1)).drop 1)=s.take (b.toNat+3)->nx s=some ((s.take (b.toNat+1)).drop 1))/\(lF ((s.take (b.toNat+1)).drop 1)≠s.take (b.toNat+3)->nx s=none):=by
 cases s with
 | nil=>cases h0
 | cons b' r =>
  simp only [ahq,ahp] at h0;subst h0;rw [ahI] at h2;have hd:((b'::r).take (b'.toNat+1)).drop 1=r.take b'.toNat:=by rw [aiu];rfl
  rw [lG,if_neg ae,hd];exact⟨fun h=>if_pos h,fun h=>if_neg h⟩
theorem pH:∀ (n:Nat) (s:List UInt8),s.length<=n->n<=1000000000->FnSpec Sy.P 23 [.str s] [.str s] (.tup [strs true (scan s).1,.int ((scan s).2:Nat)]):=by
 intro n
 induction n with
 | zero =>
  intro s hs _;have:s=[]:=ah4 ae;subst this;have e:scan []=([],0):=rfl;rw [e];refine bQ func23 ntmps23 fun v0=>?_;repeat' first|refine aG ?_|(refine aK ?_ ?_<;>intro _<;>try exact aE)|fail
  all_goals first|contradiction|(exact .KN rfl (nB .nil (.refl _)) rfl)
 | succ n ih =>
  intro s hs hn;by_cases h0:s=[]
  ·subst h0;exact ih [] ag ae
  have hpos:0<s.length:=List.length_pos_iff.2 h0;have hg:s[0]?=some s[0]:=ahn hpos;have hb:=s[0].toNat_lt;generalize s[0]=b at *;have Ux:b.toNat<256:=hb;refine bQ func23 ntmps23 fun v0=>?_;by_cases hc:64<b.toNat∨s.length<b.toNat+3
  ·rw [eY (zb hg hc)];repeat' first|refine aG ?_|(refine aK ?_ ?_<;>intro _<;>try exact aE)|fail
   all_goals first|(exfalso;omega)|contradiction|(exact .KN rfl (nB .nil (.refl _)) rfl)
  ·obtain⟨t1,t2⟩:=Ij hg ae ae;have hR:(s.take ((1:Int)+(b.toNat:Int)).toNat).drop (1:Int).toNat=(s.take (b.toNat+1)).drop 1:=by
    rw [show((1:Int)+(b.toNat:Int)).toNat=b.toNat+1 by omega];rfl
   have hT:s.take ((b.toNat:Int)+3).toNat=s.take (b.toNat+3):=by
    rw [show((b.toNat:Int)+3).toNat=b.toNat+3 by omega]
   have hD:s.drop ((b.toNat:Int)+3).toNat=s.drop (b.toNat+3):=by
    rw [show((b.toNat:Int)+3).toNat=b.toNat+3 by omega]
   have Dy:((s.take (b.toNat+1)).drop 1).length=b.toNat:=by rw [ahV,ahF];omega
   have hF:=nK ((s.take ((1:Int)+(b.toNat:Int)).toNat).drop (1:Int).toNat) (by rw [hR,Dy];omega);rw [<- hR,<-hT] at t1 t2;have hI:=ih (s.drop ((b.toNat:Int)+3).toNat) (by rw [hD,ahV];omega) ae;by_cases hf:lF ((s.take ((1:Int)+(b.toNat:Int)).toNat).drop (1:Int).toNat)=s.take ((b.toNat:Int)+3).toNat
   ·have YM:=jj (t1 hf);rw [hR,Dy,<-hD] at YM;have DD:=ze _ (s.drop ((b.toNat:Int)+3).toNat) (ahr _);have hle:=qB _ (s.drop ((b.toNat:Int)+3).toNat) (ahr _);have qb:(s.drop ((b.toNat:Int)+3).toNat).length<=s.length:=by rw [hD,ahV];omega
    rw [YM,<-hR];generalize scan (s.drop ((b.toNat:Int)+3).toNat)=z at *;obtain⟨zl,zk⟩:=z;dsimp only at *;clear t1 t2 YM;repeat' first|refine aG ?_|refine aF (hF) ?_|refine aF (hI) ?_|(refine aK ?_ ?_<;>intro _<;>try exact aE)|fail
    all_goals first|(exfalso;omega)|contradiction|skip
    exact .mk rfl (by rw [show(zk:Int)+(b.toNat:Int)+3=((zk+(b.toNat+3):Nat):Int) by omega];rfl) rfl
   ·rw [eY (t2 hf)];clear t1 t2;repeat' first|refine aG ?_|refine aF (hF) ?_|(refine aK ?_ ?_<;>intro _<;>try exact aE)|fail
    all_goals first|(exfalso;omega)|contradiction|(exact .KN rfl (nB .nil (.refl _)) rfl)
abbrev Ob(d:List UInt8)(n:Int):AV:=.pt true [.str d,.int n]
abbrev Uy(d:List UInt8)(n:Int):AV:=.pt false [.str d,.int n]
abbrev SZ(d:List UInt8)(n:Int):AV:=.agg [.str d,.int n]
theorem zf:FnSpec Sy.P 68 [] [] (Ob [] 0):=by
 refine bQ func68 ntmps68 fun v0=>?_;repeat' first|refine aG ?_|fail
 exact .mk rfl rfl rfl
def kS(d rec:List UInt8):Int:=if 64<rec.length then 2 else if 4000<d.length+rec.length+3 then 8 else 0
def wR(d rec:List UInt8):List UInt8:=if 64<rec.length then d else if 4000<d.length+rec.length+3 then d else d++lF rec
theorem kT(d rec:List UInt8)(n:Int)(hd:d.length<=4000)(hr:rec.length<=9223372036854775807):FnSpec Sy.P 95 [Ob d n,.str rec] [Ob (wR d rec) n,.str rec] (.int (kS d rec)):=by
 have h1:=uh rec hr;have DV:=bO rec;unfold kS wR;refine FnSpec.enter (S:=Sy) 1 func95 rfl rfl rfl ntmps95 rfl rfl rfl rfl fun v0=>?_;by_cases hc:64<rec.length
 ·rw [if_pos hc] at h1;rw [if_pos hc,if_pos hc];repeat' first|refine aG ?_|refine aF (h1) ?_|(refine aK ?_ ?_<;>intro _<;>try exact aE)|fail
  all_goals exact bw
 ·rw [if_neg hc] at h1;rw [if_neg hc,if_neg hc];generalize lF rec=fr at *;by_cases kK:4000<d.length+rec.length+3
  ·rw [if_pos kK,if_pos kK];repeat' first|refine aG ?_|refine aF (h1) ?_|(refine aK ?_ ?_<;>intro _<;>try exact aE)|fail
   all_goals exact bw
  ·rw [if_neg kK,if_neg kK];repeat' first|refine aG ?_|refine aF (h1) ?_|(refine aK ?_ ?_<;>intro _<;>try exact aE)|fail
   all_goals exact bw
theorem l8(d rec:List UInt8)(n:Int)(hd:d.length<=4000)(hr:rec.length<=9223372036854775807):FnSpec Sy.P 14 [SZ d n,.str rec] [SZ d n,.str rec] (.tup [SZ (wR d rec) n,.int (kS d rec)]):=by
 unfold kS wR;refine bQ func14 ntmps14 fun v0=>?_;by_cases hc:64<rec.length
 ·rw [if_pos hc,if_pos hc];repeat' first|refine aG ?_|(refine aK ?_ ?_<;>intro _<;>try exact aE)|fail
  all_goals exact bw
 ·have h1:=nK rec ae;have DV:=bO rec;rw [if_neg hc,if_neg hc];generalize lF rec=fr at *;by_cases kK:4000<d.length+rec.length+3
  ·rw [if_pos kK,if_pos kK];repeat' first|refine aG ?_|refine aF (h1) ?_|(refine aK ?_ ?_<;>intro _<;>try exact aE)|fail
   all_goals exact bw
  ·rw [if_neg kK,if_neg kK];repeat' first|refine aG ?_|refine aF (h1) ?_|(refine aK ?_ ?_<;>intro _<;>try exact aE)|fail
   all_goals exact bw
theorem wS(d:List UInt8)(n:Int):FnSpec Sy.P 72 [Ob d n] [Ob d d.length] (.tup []):=by
 refine FnSpec.enter (S:=Sy) 1 func72 rfl rfl rfl ntmps72 rfl rfl rfl rfl fun v0=>?_;repeat' first|refine aG ?_|fail
 exact⟨rfl,⟨_,rfl,.refl _⟩,rfl,gU (DY rfl rfl kM)⟩
theorem wT(d:List UInt8)(n:Int):FnSpec Sy.P 100 [Uy d n] [Uy d n] (.tup [.int d.length,.int n]):=by
 refine bQ func100 ntmps100 fun v0=>?_;repeat' first|refine aG ?_|fail
 exact .mk rfl rfl rfl
theorem zg(d:List UInt8)(n:Int)(hd:d.length<=4000):FnSpec Sy.P 104 [Uy d n] [Uy d n] (strs true (scan d).1):=by
 have h1:=nL d ae;generalize scan d=z at *;obtain⟨zl,zk⟩:=z;refine bQ func104 ntmps104 fun v0=>?_;repeat' first|refine aG ?_|refine aF (h1) ?_|fail
 exact .mk rfl rfl rfl
def wU(d:List UInt8)(n k:Int):Int:=if k<0∨(d.length:Int)-n<k then 1 else 0
def zh(d:List UInt8)(n k:Int):List UInt8:=if k<0∨(d.length:Int)-n<k then d else(d.take (n+k).toNat).take (scan (d.take (n+k).toNat)).2
def Ea(d:List UInt8)(n k:Int):Int:=if k<0∨(d.length:Int)-n<k then n else((scan (d.take (n+k).toNat)).2:Nat)
theorem ui(d:List UInt8)(n k:Int)(hd:d.length<=4000)(hn:0<=n/\n<=d.length):FnSpec Sy.P 73 [Ob d n,.int k] [Ob (zh d n k) (Ea d n k),.int k] (.int (wU d n k)):=by
 unfold wU zh Ea;refine FnSpec.enter (S:=Sy) 1 func73 rfl rfl rfl ntmps73 rfl rfl rfl rfl fun v0=>?_;by_cases hc:k<0∨(d.length:Int)-n<k
 ·rw [if_pos hc,if_pos hc,if_pos hc];repeat' first|refine aG ?_|(refine aK ?_ ?_<;>intro _<;>try exact aE)|fail
  all_goals exact bw
 ·rw [if_neg hc,if_neg hc,if_neg hc];have hl:(d.take (n+k).toNat).length<=4000:=by rw [ahF];omega
  have h1:=nL (d.take (n+k).toNat) ae;have h2:=qB _ (d.take (n+k).toNat) (ahr _);generalize scan (d.take (n+k).toNat)=z at *;obtain⟨zl,zk⟩:=z;dsimp only at *;repeat' first|refine aG ?_|refine aF (h1) ?_|(refine aK ?_ ?_<;>intro _<;>try exact aE)|fail
  all_goals exact bw
theorem wV(d:List UInt8)(n k:Int)(hd:d.length<=4000)(hn:0<=n/\n<=d.length):FnSpec Sy.P 22 [SZ d n,.int k] [SZ d n,.int k] (.tup [SZ (zh d n k) (Ea d n k),.int (wU d n k)]):=by
 unfold wU zh Ea;refine bQ func22 ntmps22 fun v0=>?_;by_cases hc:k<0∨(d.length:Int)-n<k
 ·rw [if_pos hc,if_pos hc,if_pos hc];repeat' first|refine aG ?_|(refine aK ?_ ?_<;>intro _<;>try exact aE)|fail
  all_goals exact bw
 ·rw [if_neg hc,if_neg hc,if_neg hc];have hl:(d.take (n+k).toNat).length<=4000:=by rw [ahF];omega
  have h1:=pH _ (d.take (n+k).toNat) (ahr _) ae;have h2:=qB _ (d.take (n+k).toNat) (ahr _);generalize scan (d.take (n+k).toNat)=z at *;obtain⟨zl,zk⟩:=z;dsimp only at *;repeat' first|refine aG ?_|refine aF (h1) ?_|(refine aK ?_ ?_<;>intro _<;>try exact aE)|fail
  all_goals exact bw
end Go.Proofs.YtmbbagbhmjaedaaGreatDoor
namespace Go.Proofs.YtmbbagbhmjaedaaGreatDoor
open Go Go.Proofs Tryz
def FN:Go.Shelf.Ren:=⟨fun|171=>16|243=>53|246=>87|283=>120|284=>121|285=>122|286=>123|129=>152|317=>151|318=>153|319=>154|320=>155|337=>170|338=>171|n=>n,fun|3=>3|9=>9|2=>2|4=>4|171=>177|0=>0|53=>54|37=>144|5=>5|173=>180|212=>209|51=>57|20=>20|213=>210|46=>92|232=>250|233=>251|n=>n,fun|17=>2|18=>8|19=>9|n=>n⟩
theorem zi:LaysM.n171 Tryz.prog FN:={
 mixed:=by kernel_rfl,
 f129:=func152.trans (congrArg some ah),
 f171:=func16.trans (congrArg some ah),
 f243:=func53.trans (congrArg some ah),
 f246:=func87.trans (congrArg some ah),
 f283:=func120.trans (congrArg some ah),
 f284:=func121.trans (congrArg some ah),
 f285:=func122.trans (congrArg some ah),
 f286:=func123.trans (congrArg some ah),
 f317:=func151.trans (congrArg some ah),
 f318:=func153.trans (congrArg some ah),
 f319:=func154.trans (congrArg some ah),
 f320:=func155.trans (congrArg some ah),
 f337:=func170.trans (congrArg some ah),
 f338:=func171.trans (congrArg some ah),
 t0:=underlying0,
 a0:=isAgg0,
 z0:=sizeOf0,
 v0:=zeroValue0,
 t2:=underlying2,
 a2:=isAgg2,
 z2:=sizeOf2,
 v2:=zeroValue2,
 t3:=underlying3,
 a3:=isAgg3,
 z3:=sizeOf3,
 v3:=zeroValue3,
 t4:=underlying4,
 a4:=isAgg4,
 z4:=sizeOf4,
 v4:=zeroValue4,
 t5:=underlying5,
 a5:=isAgg5,
 z5:=sizeOf5,
 v5:=zeroValue5,
 t9:=underlying9,
 a9:=isAgg9,
 z9:=sizeOf9,
 v9:=zeroValue9,
 t20:=underlying20,
 a20:=isAgg20,
 z20:=sizeOf20,
 v20:=zeroValue20,
 t37:=underlying144,
 a37:=isAgg144,
 z37:=sizeOf144,
 v37:=zeroValue144,
 t46:=underlying92,
 a46:=isAgg92,
 z46:=sizeOf92,
 v46:=zeroValue92,
 t51:=underlying57,
 a51:=isAgg57,
 z51:=sizeOf57,
 v51:=zeroValue57,
 t53:=underlying54,
 a53:=isAgg54,
 z53:=sizeOf54,
 v53:=zeroValue54,
 t171:=underlying177,
 a171:=isAgg177,
 z171:=sizeOf177,
 v171:=zeroValue177,
 t173:=underlying180,
 a173:=isAgg180,
 z173:=sizeOf180,
 v173:=zeroValue180,
 t212:=underlying209,
 a212:=isAgg209,
 z212:=sizeOf209,
 v212:=zeroValue209,
 t213:=underlying210,
 a213:=isAgg210,
 z213:=sizeOf210,
 t232:=underlying250,
 a232:=isAgg250,
 z232:=sizeOf250,
 v232:=zeroValue250,
 t233:=underlying251,
 a233:=isAgg251,
 z233:=sizeOf251,
 v233:=zeroValue251,
 g17:=by kernel_rfl,
 g18:=by kernel_rfl,
 g19:=by kernel_rfl,
 i0:=by kernel_rfl,
 i2:=by kernel_rfl,
 i3:=by kernel_rfl,
 i4:=by kernel_rfl,
 i5:=by kernel_rfl,
 i9:=by kernel_rfl,
 i20:=by kernel_rfl,
 i37:=by kernel_rfl,
 i46:=by kernel_rfl,
 i51:=by kernel_rfl,
 i53:=by kernel_rfl,
 i171:=by kernel_rfl,
 i173:=by kernel_rfl,
 i212:=by kernel_rfl,
 i232:=by kernel_rfl,
 i233:=by kernel_rfl,
 m17:=by kernel_rfl,
 m18:=by kernel_rfl,
 m19:=by kernel_rfl }
def u3:Go.Shelf.Ren:=⟨fun|156=>52|165=>84|166=>85|169=>86|240=>118|241=>119|276=>149|277=>150|n=>n,fun|31=>77|9=>9|3=>3|4=>4|0=>0|20=>20|72=>149|76=>124|70=>147|37=>144|75=>123|127=>176|164=>86|5=>5|80=>150|n=>n,fun|n=>n⟩
theorem Oc:Lays.n156 Tryz.prog u3:={
 mixed:=by kernel_rfl,
 f156:=func52.trans (congrArg some ah),
 f165:=func84.trans (congrArg some ah),
 f166:=func85.trans (congrArg some ah),
 f169:=func86.trans (congrArg some ah),
 f240:=func118.trans (congrArg some ah),
 f241:=func119.trans (congrArg some ah),
 f276:=func149.trans (congrArg some ah),
 f277:=func150.trans (congrArg some ah),
 t0:=underlying0,
 a0:=isAgg0,
 z0:=sizeOf0,
 v0:=zeroValue0,
 t3:=underlying3,
 a3:=isAgg3,
 z3:=sizeOf3,
 v3:=zeroValue3,
 t4:=underlying4,
 a4:=isAgg4,
 z4:=sizeOf4,
 v4:=zeroValue4,
 t9:=underlying9,
 a9:=isAgg9,
 z9:=sizeOf9,
 v9:=zeroValue9,
 t20:=underlying20,
 a20:=isAgg20,
 z20:=sizeOf20,
 v20:=zeroValue20,
 t31:=underlying77,
 a31:=isAgg77,
 z31:=sizeOf77,
 v31:=zeroValue77,
 t37:=underlying144,
 a37:=isAgg144,
 z37:=sizeOf144,
 v37:=zeroValue144,
 t70:=underlying147,
 a70:=isAgg147,
 z70:=sizeOf147,
 v70:=zeroValue147,
 t72:=underlying149,
 a72:=isAgg149,
 z72:=sizeOf149,
 v72:=zeroValue149,
 t75:=underlying123,
 a75:=isAgg123,
 z75:=sizeOf123,
 v75:=zeroValue123,
 t76:=underlying124,
 a76:=isAgg124,
 z76:=sizeOf124,
 v76:=zeroValue124,
 t127:=underlying176,
 a127:=isAgg176,
 z127:=sizeOf176,
 v127:=zeroValue176,
 t164:=underlying86,
 a164:=isAgg86,
 z164:=sizeOf86,
 v164:=zeroValue86 }
def zj:Go.Shelf.Ren:=⟨fun|157=>62|229=>90|199=>91|261=>124|311=>156|312=>157|n=>n,fun|9=>9|31=>77|3=>3|5=>5|4=>4|119=>154|0=>0|40=>156|152=>182|21=>21|154=>184|51=>57|141=>186|196=>215|193=>212|198=>217|49=>145|194=>213|201=>220|226=>232|46=>92|227=>233|n=>n,fun|0=>0|6=>1|n=>n⟩
theorem Ml:LaysM.n157 Tryz.prog zj:={
 mixed:=by kernel_rfl,
 f157:=func62.trans (congrArg some ah),
 f199:=func91.trans (congrArg some ah),
 f229:=func90.trans (congrArg some ah),
 f261:=func124.trans (congrArg some ah),
 f311:=func156.trans (congrArg some ah),
 f312:=func157.trans (congrArg some ah),
 t0:=underlying0,
 a0:=isAgg0,
 z0:=sizeOf0,
 v0:=zeroValue0,
 t3:=underlying3,
 a3:=isAgg3,
 z3:=sizeOf3,
 v3:=zeroValue3,
 t4:=underlying4,
 a4:=isAgg4,
 z4:=sizeOf4,
 v4:=zeroValue4,
 t5:=underlying5,
 a5:=isAgg5,
 z5:=sizeOf5,
 v5:=zeroValue5,
 t9:=underlying9,
 a9:=isAgg9,
 z9:=sizeOf9,
 v9:=zeroValue9,
 t21:=underlying21,
 a21:=isAgg21,
 z21:=sizeOf21,
 v21:=zeroValue21,
 t31:=underlying77,
 a31:=isAgg77,
 z31:=sizeOf77,
 v31:=zeroValue77,
 t40:=underlying156,
 a40:=isAgg156,
 z40:=sizeOf156,
 v40:=zeroValue156,
 t46:=underlying92,
 a46:=isAgg92,
 z46:=sizeOf92,
 v46:=zeroValue92,
 t49:=underlying145,
 a49:=isAgg145,
 z49:=sizeOf145,
 v49:=zeroValue145,
 t51:=underlying57,
 a51:=isAgg57,
 z51:=sizeOf57,
 v51:=zeroValue57,
 t119:=underlying154,
 a119:=isAgg154,
 z119:=sizeOf154,
 t141:=underlying186,
 a141:=isAgg186,
 z141:=sizeOf186,
 v141:=zeroValue186,
 t152:=underlying182,
 a152:=isAgg182,
 z152:=sizeOf182,
 v152:=zeroValue182,
 t154:=underlying184,
 a154:=isAgg184,
 z154:=sizeOf184,
 v154:=zeroValue184,
 t193:=underlying212,
 a193:=isAgg212,
 z193:=sizeOf212,
 v193:=zeroValue212,
 t194:=underlying213,
 a194:=isAgg213,
 z194:=sizeOf213,
 v194:=zeroValue213,
 t196:=underlying215,
 a196:=isAgg215,
 z196:=sizeOf215,
 v196:=zeroValue215,
 t198:=underlying217,
 a198:=isAgg217,
 z198:=sizeOf217,
 v198:=zeroValue217,
 t201:=underlying220,
 a201:=isAgg220,
 z201:=sizeOf220,
 v201:=zeroValue220,
 t226:=underlying232,
 a226:=isAgg232,
 z226:=sizeOf232,
 v226:=zeroValue232,
 t227:=underlying233,
 a227:=isAgg233,
 z227:=sizeOf233,
 v227:=zeroValue233,
 g0:=by kernel_rfl,
 g6:=by kernel_rfl,
 i0:=by kernel_rfl,
 i3:=by kernel_rfl,
 i4:=by kernel_rfl,
 i5:=by kernel_rfl,
 i9:=by kernel_rfl,
 i21:=by kernel_rfl,
 i31:=by kernel_rfl,
 i40:=by kernel_rfl,
 i46:=by kernel_rfl,
 i49:=by kernel_rfl,
 i51:=by kernel_rfl,
 i141:=by kernel_rfl,
 i152:=by kernel_rfl,
 i154:=by kernel_rfl,
 i193:=by kernel_rfl,
 i194:=by kernel_rfl,
 i196:=by kernel_rfl,
 i198:=by kernel_rfl,
 i201:=by kernel_rfl,
 i226:=by kernel_rfl,
 i227:=by kernel_rfl,
 m0:=by kernel_rfl,
 m6:=by kernel_rfl }
def BS:Go.Shelf.Ren:=⟨fun|146=>105|221=>143|268=>164|138=>165|143=>166|195=>183|197=>145|218=>184|219=>185|260=>167|217=>195|225=>189|224=>188|267=>196|266=>198|314=>199|n=>n,fun|9=>9|31=>77|3=>3|4=>4|0=>0|105=>201|21=>21|5=>5|46=>92|119=>154|139=>249|138=>248|146=>259|51=>57|n=>n,fun|1=>5|3=>6|4=>7|n=>n⟩
theorem QI:LaysM.n146 Tryz.prog BS:={
 mixed:=by kernel_rfl,
 f138:=func165.trans (congrArg some ah),
 f143:=func166.trans (congrArg some ah),
 f146:=func105.trans (congrArg some ah),
 f195:=func183.trans (congrArg some ah),
 f197:=func145.trans (congrArg some ah),
 f217:=func195.trans (congrArg some ah),
 f218:=func184.trans (congrArg some ah),
 f219:=func185.trans (congrArg some ah),
 f221:=func143.trans (congrArg some ah),
 f224:=func188.trans (congrArg some ah),
 f225:=func189.trans (congrArg some ah),
 f260:=func167.trans (congrArg some ah),
 f266:=func198.trans (congrArg some ah),
 f267:=func196.trans (congrArg some ah),
 f268:=func164.trans (congrArg some ah),
 f314:=func199.trans (congrArg some ah),
 t0:=underlying0,
 a0:=isAgg0,
 z0:=sizeOf0,
 v0:=zeroValue0,
 t3:=underlying3,
 a3:=isAgg3,
 z3:=sizeOf3,
 v3:=zeroValue3,
 t4:=underlying4,
 a4:=isAgg4,
 z4:=sizeOf4,
 v4:=zeroValue4,
 t5:=underlying5,
 a5:=isAgg5,
 z5:=sizeOf5,
 v5:=zeroValue5,
 t9:=underlying9,
 a9:=isAgg9,
 z9:=sizeOf9,
 v9:=zeroValue9,
 t21:=underlying21,
 a21:=isAgg21,
 z21:=sizeOf21,
 v21:=zeroValue21,
 t31:=underlying77,
 a31:=isAgg77,
 z31:=sizeOf77,
 v31:=zeroValue77,
 t46:=underlying92,
 a46:=isAgg92,
 z46:=sizeOf92,
 v46:=zeroValue92,
 t51:=underlying57,
 a51:=isAgg57,
 z51:=sizeOf57,
 v51:=zeroValue57,
 t105:=underlying201,
 a105:=isAgg201,
 z105:=sizeOf201,
 v105:=zeroValue201,
 t119:=underlying154,
 a119:=isAgg154,
 z119:=sizeOf154,
 t138:=underlying248,
 a138:=isAgg248,
 z138:=sizeOf248,
 v138:=zeroValue248,
 t139:=underlying249,
 a139:=isAgg249,
 z139:=sizeOf249,
 v139:=zeroValue249,
 t146:=underlying259,
 a146:=isAgg259,
 z146:=sizeOf259,
 v146:=zeroValue259,
 g1:=by kernel_rfl,
 g3:=by kernel_rfl,
 g4:=by kernel_rfl,
 i0:=by kernel_rfl,
 i3:=by kernel_rfl,
 i4:=by kernel_rfl,
 i5:=by kernel_rfl,
 i9:=by kernel_rfl,
 i21:=by kernel_rfl,
 i31:=by kernel_rfl,
 i46:=by kernel_rfl,
 i51:=by kernel_rfl,
 i105:=by kernel_rfl,
 i138:=by kernel_rfl,
 i139:=by kernel_rfl,
 i146:=by kernel_rfl,
 m1:=by kernel_rfl,
 s1_3:=fun w h=>Go.Proofs.cell_of_shapedOpen_int (zero:=#[.int .i64 0]) (t:=3) h (of_decide_eq_true ah) ah rfl ah ah underlying3,
 m3:=by kernel_rfl,
 m4:=by kernel_rfl }
end Go.Proofs.YtmbbagbhmjaedaaGreatDoor
