/- Seats: who is served next, by quotients, is who stands next in the sorted row. No program in sight. -/
import Derived.Test.YtkkcnppgcnmikaaGreatDoorAdi
import Derived.Test.YtkkcnppgcnmikaaGreatDoorAbe
import Derived.Test.YtkkcnppgcnmikaaGreatDoorAbh
namespace Go.Proofs.YtkkcnppgcnmikaaGreatDoor
set_option linter.all false
def cw(S:List Pt)(i:Nat):Nat:=(S.filter fun p=>decide (p.1=(i:Int))).length
theorem cw_nil(i:Nat):cw [] i=0:=rfl
theorem cw_le(S:List Pt)(i:Nat):cw S i≤S.length:=List.length_filter_le ..
theorem cw_snoc(S:List Pt)(p:Pt)(i:Nat):cw (S++[p]) i=cw S i+(if p.1=(i:Int) then 1 else 0):=by
 unfold cw
 rw [List.filter_append,List.length_append]
 by_cases h:p.1=(i:Int)<;>simp [List.filter_cons,h]
def cnts(n:Nat)(S:List Pt):List Int:=(List.range n).map fun i=>(cw S i:Int)
theorem cnts_len(n:Nat)(S:List Pt):(cnts n S).length=n:=by simp [cnts]
theorem cnts_get{n:Nat}{S:List Pt}{i:Nat}(h:i<n):(cnts n S)[i]?=some (cw S i:Int):=by simp [cnts,h]
theorem cnts_nil(n:Nat):cnts n []=List.replicate n 0:=by
 apply List.ext_getElem?
 intro j
 by_cases h:j<n
 ·rw [cnts_get h,cw_nil];simp [h]
 ·rw [List.getElem?_eq_none (by rw [cnts_len];omega),List.getElem?_eq_none (by simp;omega)]
theorem cnts_snoc{n:Nat}{S:List Pt}{p:Pt}{w:Nat}(hp:p.1=(w:Int))(hw:w<n):cnts n (S++[p])=(cnts n S).set w ((cw S w:Int)+1):=by
 apply List.ext_getElem?
 intro j
 rw [List.getElem?_set,cnts_len]
 by_cases h:j<n
 ·rw [cnts_get h,cw_snoc,hp]
  by_cases e:w=j
  ·subst e;simp [hw]
  ·rw [if_neg (by omega),if_neg e,cnts_get h];simp
 ·rw [List.getElem?_eq_none (by rw [cnts_len];omega),if_neg (by omega),List.getElem?_eq_none (by rw [cnts_len];omega)]
/-! ### the parts of each -/
def pl(way:Int)(k:Nat)(i:Nat)(x:Int):List Pt:=(List.range k).map fun(j:Nat)=>((i:Int),x,way*j+1)
def pts(way:Int)(H:Nat):Nat→List Int→List Pt
 | _,[]=>[]
 | i,x::r=>pl way H i x++pts way H (i+1) r
theorem pl_len(way:Int)(k i:Nat)(x:Int):(pl way k i x).length=k:=by simp [pl]
theorem pts_len(way:Int)(H:Nat):∀ (i:Nat) (l:List Int),(pts way H i l).length=H*l.length
 | _,[]=>by simp [pts]
 | i,x::r=>by rw [pts,List.length_append,pl_len,pts_len way H (i+1) r,List.length_cons,Nat.mul_add];omega
theorem pl_succ(way:Int)(k i:Nat)(x:Int):pl way (k+1) i x=pl way k i x++[((i:Int),x,way*(k:Nat)+1)]:=by
 unfold pl;rw [List.range_succ,List.map_append];rfl
theorem pts_snoc(way:Int)(H:Nat):∀ (i:Nat) (l:List Int) (x:Int),pts way H i (l++[x])=pts way H i l++pl way H (i+l.length) x
 | i,[],x=>by simp [pts]
 | i,y::r,x=>by
  rw [List.cons_append,pts,pts,pts_snoc way H (i+1) r x,List.append_assoc,List.length_cons,show i+1+r.length=i+(r.length+1) by omega]
theorem mem_pl{way:Int}{k i:Nat}{x:Int}{p:Pt}:p∈pl way k i x↔∃ j:Nat,j<k∧p=((i:Int),x,way*j+1):=by
 unfold pl
 rw [List.mem_map]
 constructor
 ·rintro⟨j,hj,rfl⟩;exact⟨j,List.mem_range.1 hj,rfl⟩
 ·rintro⟨j,hj,rfl⟩;exact⟨j,List.mem_range.2 hj,rfl⟩
theorem mem_pts{way:Int}{H:Nat}:∀ {i:Nat} {l:List Int} {p:Pt},p∈pts way H i l↔∃ j x k:Nat,∃ y,l[j]?=some y∧x=i+j∧k<H∧p=((x:Int),y,way*k+1)
 | i,[],p=>by simp [pts]
 | i,y::r,p=>by
  rw [pts,List.mem_append,mem_pl,mem_pts]
  constructor
  ·rintro(⟨k,hk,rfl⟩|⟨j,x,k,z,h1,h2,h3,rfl⟩)
   ·exact⟨0,i,k,y,rfl,rfl,hk,rfl⟩
   ·exact⟨j+1,x,k,z,h1,by omega,h3,rfl⟩
  ·rintro⟨j,x,k,z,h1,h2,h3,rfl⟩
   cases j with
   | zero=>simp only [List.getElem?_cons_zero,Option.some.injEq] at h1;subst h1;subst h2;exact .inl ⟨k,h3,rfl⟩
   | succ j=>exact .inr ⟨j,x,k,z,h1,by omega,h3,rfl⟩
theorem way_lt{way:Int}(hw:1≤way){a b:Nat}(h:a<b):way*a+1<way*b+1:=by
 have:=Int.mul_lt_mul_of_pos_left (show(a:Int)<b by omega) (show 0<way by omega)
 omega
theorem pl_lx{way:Int}(hw:1≤way)(k i:Nat)(x:Int):(pl way k i x).Pairwise lx:=by
 unfold pl
 rw [List.pairwise_map]
 exact List.pairwise_lt_range.imp fun h=>.inr ⟨rfl,way_lt hw h⟩
theorem pts_lx{way:Int}(hw:1≤way)(H:Nat):∀ (i:Nat) (l:List Int),(pts way H i l).Pairwise lx
 | _,[]=>by simp [pts]
 | i,x::r=>by
  rw [pts]
  refine List.pairwise_append.2 ⟨pl_lx hw H i x,pts_lx hw H (i+1) r,fun p hp q hq=>?_⟩
  obtain⟨j,_,rfl⟩:=mem_pl.1 hp
  obtain⟨j',x',k',y',_,h2,_,rfl⟩:=mem_pts.1 hq
  exact .inl (by show(i:Int)<(x':Int);omega)
theorem nodup_lx{l:List Pt}(h:l.Pairwise lx):l.Nodup:=h.imp fun{a b} h e=>by subst e;unfold lx at h;omega
theorem way_le{way:Int}(hw:1≤way∧way≤2){k:Nat}(h:k<100):1≤way*k+1∧way*k+1≤1000:=by
 rcases(show way=1∨way=2 by omega) with rfl|rfl<;>omega
theorem pts_ok{way:Int}(hw:1≤way∧way≤2){H:Nat}(hH:H≤100){l:List Int}(hl:∀ x∈l,0≤x∧x≤1000000):OkP (pts way H 0 l):=by
 refine⟨fun p hp=>?_,nodup_lx (pts_lx hw.1 H 0 l)⟩
 obtain⟨j,x,k,y,h1,_,h3,rfl⟩:=mem_pts.1 hp
 have:=hl y (List.mem_of_getElem? h1)
 have:=way_le hw (show k<100 by omega)
 exact⟨⟨by show 0≤y;omega,by show y≤1000000000;omega⟩,this⟩
/-! ### the best of a row of candidates -/
structure Mx(c:Nat→Pt)(i b:Nat):Prop where
 lt:b<i∨b=0
 le:∀ j,j<i→¬ kb (c j) (c b)
 st:∀ j,j<b→kb (c b) (c j)
theorem Mx.zero(c:Nat→Pt):Mx c 0 0:=⟨.inr rfl,fun j h=>by omega,fun j h=>by omega⟩
theorem Mx.stay{c:Nat→Pt}{i b:Nat}(h:Mx c i b)(hk:¬ kb (c i) (c b)):Mx c (i+1) b :=
 ⟨h.lt.imp (fun h=>by omega) id,fun j hj=>by
  by_cases e:j=i
  ·subst e;exact hk
  ·exact h.le j (by omega),h.st⟩
theorem Mx.move{c:Nat→Pt}(hc:∀ j,0<(c j).2.2){i b:Nat}(h:Mx c i b)(hk:kb (c i) (c b)):Mx c (i+1) i:=by
 have h1:=hc i
 have h2:=hc b
 refine⟨.inl (by omega),fun j hj=>?_,fun j hj=>?_⟩
 ·by_cases e:j=i
  ·subst e;unfold kb;omega
  ·intro hk'
   have:=h.le j (by omega)
   have h3:=hc j
   unfold kb at *
   exact this (q_lt1 h3 h1 h2 hk' (by omega))
 ·have:=h.le j hj
  have h3:=hc j
  unfold kb at *
  exact q_lt1 h1 h2 h3 hk (by omega)
theorem Mx.is{c:Nat→Pt}{n b w:Nat}(h:Mx c n b)(hn:0<n)(hw:w<n)(h1:∀ j,j<n→(c j).1=(j:Int))(hs:∀ j,j<n→j≠w→tl (c w) (c j)):b=w:=by
 have hb:b<n:=h.lt.elim id fun e=>by omega
 by_cases e:b=w
 ·exact e
 ·exfalso
  rcases hs b hb e with a|⟨a,a'⟩
  ·exact h.le w hw a
  ·have e1:=h1 w hw
   have e2:=h1 b hb
   unfold lx at a'
   rw [e1,e2] at a'
   have:=h.st w (by omega)
   unfold kb at this
   omega
/-! ### ways 1 and 2 -/
theorem down_count:∀ (H:Nat) (p:Nat→Bool),(∀ a b,a≤b→b<H→p b=true→p a=true)→∀ k,k<H→(p k=true↔k<((List.range H).filter p).length)
 | 0,_,_,k,hk=>by omega
 | H+1,p,hp,k,hk=>by
  have ih:=down_count H p fun a b h1 h2=>hp a b h1 (by omega)
  rw [List.range_succ,List.filter_append,List.length_append]
  have hle:((List.range H).filter p).length≤H:=by have:=List.length_filter_le p (List.range H);simpa using this
  cases hb:p H with
  | true =>
   have hall:∀ a,a<H→p a=true:=fun a ha=>hp a H (by omega) (by omega) hb
   have:((List.range H).filter p).length=H:=by
    rw [List.filter_eq_self.2 fun a ha=>hall a (List.mem_range.1 ha)];simp
   rw [this]
   simp only [List.filter_cons,hb,if_true,List.filter_nil,List.length_cons,List.length_nil]
   constructor
   ·intro _;omega
   ·intro _
    by_cases e:k=H
    ·subst e;exact hb
    ·exact hall k (by omega)
  | false =>
   simp only [List.filter_cons,hb,List.filter_nil]
   by_cases e:k=H
   ·subst e
    simp [hb]
    omega
   ·have:=ih k (by omega)
    simpa using this
section
variable {way:Int} (hw:1≤way∧way≤2) {H:Nat} (hH:H≤100) {l:List Int} (hl:∀ x∈l,0≤x∧x≤1000000)
abbrev cand(way:Int)(l:List Int)(T:List Pt)(j:Nat):Pt:=((j:Int),l.getD j 0,way*(cw T j:Nat)+1)
abbrev part(way:Int)(l:List Int)(j k:Nat):Pt:=((j:Int),l.getD j 0,way*(k:Nat)+1)
include hw hl
theorem part_tl{j a b:Nat}(hj:j<l.length)(h:a<b):tl (part way l j a) (part way l j b):=by
 have h1:=way_lt hw.1 h
 have hx:=hl l[j] (List.getElem_mem hj)
 have e:l.getD j 0=l[j]:=by rw [List.getD_eq_getElem?_getD,List.getElem?_eq_getElem hj];rfl
 unfold tl kb lx part
 dsimp only
 rw [e]
 by_cases c:l[j]=0
 ·right;rw [c];exact⟨by simp,.inr ⟨rfl,h1⟩⟩
 ·left;exact Int.mul_lt_mul_of_pos_left h1 (by omega)
theorem mem_part{p:Pt}:p∈pts way H 0 l↔∃ j k,j<l.length∧k<H∧p=part way l j k:=by
 rw [mem_pts]
 constructor
 ·rintro⟨j,x,k,y,h1,h2,h3,rfl⟩
  have hj:=(List.getElem?_eq_some_iff.1 h1).1
  refine⟨j,k,hj,h3,?_⟩
  unfold part
  rw [List.getD_eq_getElem?_getD,h1,show x=j by omega];rfl
 ·rintro⟨j,k,hj,hk,rfl⟩
  refine⟨j,j,k,l[j],List.getElem?_eq_getElem hj,by omega,hk,?_⟩
  unfold part
  rw [List.getD_eq_getElem?_getD,List.getElem?_eq_getElem hj];rfl
omit hl in
theorem part_inj{j a j' a':Nat}(h:part way l j a=part way l j' a'):j=j'∧a=a':=by
 unfold part at h
 injection h with h1 h2
 injection h2 with h2 h3
 have e:j=j':=by omega
 refine⟨e,?_⟩
 have:way*(a:Int)=way*a':=by omega
 have:=Int.eq_of_mul_eq_mul_left (show way≠0 by omega) this
 omega
theorem next_part(hH:H≤100){t:Nat}{s:Pt}(ht:t<H)(hs:(srtP (pts way H 0 l))[t]?=some s) :
  ∃ w:Nat,w<l.length∧s=cand way l ((srtP (pts way H 0 l)).take t) w∧∀ j,j<l.length→j≠w→tl (cand way l ((srtP (pts way H 0 l)).take t) w) (cand way l ((srtP (pts way H 0 l)).take t) j):=by
 have hok:=pts_ok hw hH hl
 have hS:=srt_sorted hok
 have hp:=srt_perm (pts way H 0 l)
 generalize hSe:srtP (pts way H 0 l)=S at *
 have hlt:=(List.getElem?_eq_some_iff.1 hs).1
 have hsplit:S=S.take t++s::S.drop (t+1):=by
  have e:=List.drop_eq_getElem_cons hlt
  rw [(List.getElem?_eq_some_iff.1 hs).2] at e
  rw [← e,List.take_append_drop]
 have hSnd:S.Nodup:=hp.nodup_iff.2 hok.nd
 have hTl:(S.take t).length=t:=by rw [List.length_take];omega
 generalize S.take t=T at *
 generalize S.drop (t+1)=D at *
 have hmS:∀ p,p∈S↔∃ j k,j<l.length∧k<H∧p=part way l j k:=fun p=>(hp.mem_iff).trans (mem_part hw hl)
 rw [hsplit] at hS hSnd hmS
 have hS':=List.pairwise_append.1 hS
 have hS2:=List.pairwise_cons.1 hS'.2.1
 have hnd:=List.nodup_append.1 hSnd
 -- what is ahead of a member of T is in T
 have hdown:∀ j a b,j<l.length→a≤b→b<H→part way l j b∈T→part way l j a∈T:=fun j a b hj hab hb hm=>by
  rcases Nat.lt_or_eq_of_le hab with h|h
  ·have h1:=part_tl hw hl hj h
   have h2:part way l j a∈T++s::D:=(hmS _).2 ⟨j,a,hj,by omega,rfl⟩
   rcases List.mem_append.1 h2 with h2|h2
   ·exact h2
   ·exact(tl_asymm h1 (hS'.2.2 _ hm _ h2)).elim
  ·subst h;exact hm
 have hcount:∀ j,j<l.length→cw T j=((List.range H).filter fun k=>decide (part way l j k∈T)).length:=fun j hj=>by
  have hperm:(T.filter fun p=>decide (p.1=(j:Int))).Perm (((List.range H).filter fun k=>decide (part way l j k∈T)).map (part way l j)):=by
   refine(List.perm_ext_iff_of_nodup (hnd.1.filter _) ?_).2 fun p=>?_
   ·refine List.Pairwise.map _ (fun a b hab e=>hab (part_inj hw e).2) ((List.nodup_range).filter _)
   ·rw [List.mem_filter,List.mem_map]
    constructor
    ·rintro⟨h1,h2⟩
     obtain⟨j',k,hj',hk,rfl⟩:=(hmS p).1 (List.mem_append_left _ h1)
     have:(j':Int)=j:=by simpa [part] using h2
     have:j'=j:=by omega
     subst this
     exact⟨k,List.mem_filter.2 ⟨List.mem_range.2 hk,by simpa using h1⟩,rfl⟩
    ·rintro⟨k,hk,rfl⟩
     have:=(List.mem_filter.1 hk).2
     exact⟨by simpa using this,by simp [part]⟩
  have:=hperm.length_eq
  rw [List.length_map] at this
  exact this
 have hin:∀ j k,j<l.length→k<H→(part way l j k∈T↔k<cw T j):=fun j k hj hk=>by
  rw [hcount j hj]
  have:=down_count H (fun k=>decide (part way l j k∈T)) (fun a b hab hb h=>by
   simp only [decide_eq_true_eq] at h ⊢;exact hdown j a b hj hab hb h) k hk
  simpa using this
 have hcle:∀ j,cw T j≤t:=fun j=>by have:=cw_le T j;omega
 obtain⟨w,k,hwl,hk,hse⟩:=(hmS s).1 (List.mem_append_right _ (List.mem_cons_self ..))
 have hsT:s ∉ T:=fun h=>hnd.2.2 s h s (List.mem_cons_self ..) rfl
 have hcs:∀ j,j<l.length→part way l j (cw T j)∈s::D:=fun j hj=>by
  have h1:part way l j (cw T j)∈T++s::D:=(hmS _).2 ⟨j,cw T j,hj,by have:=hcle j;omega,rfl⟩
  rcases List.mem_append.1 h1 with h1|h1
  ·have:=(hin j (cw T j) hj (by have:=hcle j;omega)).1 h1;omega
  ·exact h1
 have hkw:k=cw T w:=by
  have h1:¬ k<cw T w:=fun h=>hsT (hse▸(hin w k hwl hk).2 h)
  rcases Nat.lt_or_eq_of_le (Nat.le_of_not_lt h1) with h|h
  ·rcases List.mem_cons.1 (hcs w hwl) with e|e
   ·rw [hse] at e;exact(part_inj hw e).2.symm
   ·exact(tl_asymm (hS2.1 _ e) (hse▸part_tl hw hl hwl h)).elim
  ·exact h.symm
 subst hkw
 refine⟨w,hwl,hse,fun j hj hne=>?_⟩
 rcases List.mem_cons.1 (hcs j hj) with e|e
 ·rw [hse] at e;exact absurd (part_inj hw e).1 hne
 ·have:=hS2.1 _ e
  rw [hse] at this;exact this
end
/-! ### way 3 -/
def rm3:Nat→List Int→List Pt
 | _,[]=>[]
 | i,x::r=>((i:Int),x,1)::rm3 (i+1) r
theorem rm3_len:∀ (i:Nat) (l:List Int),(rm3 i l).length=l.length
 | _,[]=>rfl
 | i,x::r=>by rw [rm3,List.length_cons,rm3_len (i+1) r,List.length_cons]
theorem rm3_snoc:∀ (i:Nat) (l:List Int) (x:Int),rm3 i (l++[x])=rm3 i l++[(((i+l.length:Nat):Int),x,1)]
 | i,[],x=>by simp [rm3]
 | i,y::r,x=>by
  rw [List.cons_append,rm3,rm3,rm3_snoc (i+1) r x,List.cons_append,List.length_cons,show i+1+r.length=i+(r.length+1) by omega]
theorem mem_rm3:∀ {i:Nat} {l:List Int} {p:Pt},p∈rm3 i l↔∃ j:Nat,∃ y,l[j]?=some y∧p=(((i+j:Nat):Int),y,1)
 | i,[],p=>by simp [rm3]
 | i,y::r,p=>by
  rw [rm3,List.mem_cons,mem_rm3]
  constructor
  ·rintro(rfl|⟨j,z,h1,rfl⟩)
   ·exact⟨0,y,rfl,rfl⟩
   ·exact⟨j+1,z,h1,by rw [show i+1+j=i+(j+1) by omega]⟩
  ·rintro⟨j,z,h1,rfl⟩
   cases j with
   | zero=>simp only [List.getElem?_cons_zero,Option.some.injEq] at h1;subst h1;exact .inl rfl
   | succ j=>exact .inr ⟨j,z,h1,by rw [show i+1+j=i+(j+1) by omega]⟩
theorem rm3_lx:∀ (i:Nat) (l:List Int),(rm3 i l).Pairwise lx
 | _,[]=>by simp [rm3]
 | i,x::r=>by
  rw [rm3]
  refine .cons (fun p hp=>?_) (rm3_lx (i+1) r)
  obtain⟨j,y,_,rfl⟩:=mem_rm3.1 hp
  exact .inl (by show(i:Int)<((i+1+j:Nat):Int);omega)
theorem rm3_ok{l:List Int}(hl:∀ x∈l,0≤x∧x≤1000000000):OkP (rm3 0 l):=by
 refine⟨fun p hp=>?_,nodup_lx (rm3_lx 0 l)⟩
 obtain⟨j,y,h1,rfl⟩:=mem_rm3.1 hp
 exact⟨hl y (List.mem_of_getElem? h1),by show(1:Int)≤1;omega,by show(1:Int)≤1000;omega⟩
def rs3(l:List Int)(T:List Pt)(j:Nat):Int:=if cw T j=0 then l.getD j 0 else -1
abbrev cand3(l:List Int)(T:List Pt)(j:Nat):Pt:=((j:Int),rs3 l T j,1)
theorem next_rm3{l:List Int}(hl:∀ x∈l,0≤x∧x≤1000000000){t:Nat}{s:Pt}(hs:(srtP (rm3 0 l))[t]?=some s) :
  ∃ w:Nat,w<l.length∧s=cand3 l ((srtP (rm3 0 l)).take t) w∧cw ((srtP (rm3 0 l)).take t) w=0∧∀ j,j<l.length→j≠w→tl (cand3 l ((srtP (rm3 0 l)).take t) w) (cand3 l ((srtP (rm3 0 l)).take t) j):=by
 have hok:=rm3_ok hl
 have hS:=srt_sorted hok
 have hp:=srt_perm (rm3 0 l)
 generalize hSe:srtP (rm3 0 l)=S at *
 have hlt:=(List.getElem?_eq_some_iff.1 hs).1
 have hsplit:S=S.take t++s::S.drop (t+1):=by
  have e:=List.drop_eq_getElem_cons hlt
  rw [(List.getElem?_eq_some_iff.1 hs).2] at e
  rw [← e,List.take_append_drop]
 have hSnd:S.Nodup:=hp.nodup_iff.2 hok.nd
 generalize S.take t=T at *
 generalize S.drop (t+1)=D at *
 have hmS:∀ p,p∈S↔∃ j:Nat,j<l.length∧p=((j:Int),l.getD j 0,1):=fun p=>(hp.mem_iff).trans (mem_rm3.trans (by
  constructor
  ·rintro⟨j,y,h1,rfl⟩
   refine⟨j,(List.getElem?_eq_some_iff.1 h1).1,?_⟩
   rw [List.getD_eq_getElem?_getD,h1,Nat.zero_add];rfl
  ·rintro⟨j,hj,rfl⟩
   refine⟨j,l[j],List.getElem?_eq_getElem hj,?_⟩
   rw [List.getD_eq_getElem?_getD,List.getElem?_eq_getElem hj,Nat.zero_add];rfl))
 rw [hsplit] at hS hSnd hmS
 have hS':=List.pairwise_append.1 hS
 have hS2:=List.pairwise_cons.1 hS'.2.1
 have hnd:=List.nodup_append.1 hSnd
 obtain⟨w,hwl,hse⟩:=(hmS s).1 (List.mem_append_right _ (List.mem_cons_self ..))
 have hcw:∀ j,j<l.length→(cw T j=0↔((j:Int),l.getD j 0,(1:Int)) ∉ T):=fun j hj=>by
  unfold cw
  rw [List.length_eq_zero_iff,List.filter_eq_nil_iff]
  constructor
  ·intro h hm;exact h _ hm (by simp)
  ·intro h p hpm hc
   obtain⟨j',hj',rfl⟩:=(hmS p).1 (List.mem_append_left _ hpm)
   have:(j':Int)=j:=by simpa using hc
   have:j'=j:=by omega
   subst this
   exact h hpm
 have hw0:cw T w=0:=(hcw w hwl).2 fun h=>hnd.2.2 s (hse▸h) s (List.mem_cons_self ..) rfl
 have hcand:s=cand3 l T w:=by unfold cand3 rs3;rw [if_pos hw0];exact hse
 refine⟨w,hwl,hcand,hw0,fun j hj hne=>?_⟩
 have hwg:0≤l.getD w 0:=by
  rw [List.getD_eq_getElem?_getD,List.getElem?_eq_getElem hwl];exact(hl _ (List.getElem_mem hwl)).1
 by_cases c:cw T j=0
 ·have h1:((j:Int),l.getD j 0,(1:Int))∈T++s::D:=(hmS _).2 ⟨j,hj,rfl⟩
  rcases List.mem_append.1 h1 with h1|h1
  ·exact absurd h1 ((hcw j hj).1 c)
  ·rcases List.mem_cons.1 h1 with e|e
   ·rw [hse] at e;injection e with e;omega
   ·have:=hS2.1 _ e
    rw [hcand] at this
    unfold cand3 rs3 at this ⊢
    rw [if_pos c];exact this
 ·left
  unfold kb cand3 rs3
  rw [if_pos hw0,if_neg c]
  dsimp only
  omega
end Go.Proofs.YtkkcnppgcnmikaaGreatDoor
namespace Go.Proofs.YtkkcnppgcnmikaaGreatDoor
open Go FM Go.Proofs
set_option maxRecDepth 10000
set_option maxHeartbeats 3200000
set_option linter.all false
abbrev ptA(x:Pt):AV:=.agg [.int x.1,.int x.2.1,.int x.2.2]
abbrev ptO(l:List Pt):AV:=.sl true 3 (l.map ptA)
def cfE(p b q c:Int):Int:=q*b-p*c
theorem cfP_lt{x y:Pt}:cfE x.2.1 x.2.2 y.2.1 y.2.2<0↔kb x y:=by unfold cfE kb;omega
noncomputable abbrev fnP:AV:=.fn (BehA Sy.P (fun xs9=>∃ x y,xs9=[ptA x,ptA y]∧Gd x∧Gd y) (fun xs9=>match xs9 with|[.agg [.int _,.int p,.int b],.agg [.int _,.int q,.int c]]=>.int (cfE p b q c)|_=>.int 0))
theorem prodP{p b:Int}(h1:0≤p∧p≤1000000000)(h2:1≤b∧b≤1000):0≤p*b∧p*b≤1000000000000:=by
 have e1:=Int.mul_nonneg h1.1 (show 0≤b by omega)
 have e2:p*b≤1000000000*1000:=Int.mul_le_mul h1.2 h2.2 (by omega) (by omega)
 omega
theorem cmpP_spec(x y:Pt)(hx:Gd x)(hy:Gd y):FnSpec Sy.P 211 [ptA x,ptA y] [ptA x,ptA y] (.int (cfE x.2.1 x.2.2 y.2.1 y.2.2)):=by
 have m1:=prodP hy.1 hx.2
 have m2:=prodP hx.1 hy.2
 unfold cfE
 refine enT Tryz.func211 Tryz.ntmps211 fun v0=>?_
 repeat' first|refine w9x ?_|fail
 exact .mk rfl rfl rfl
/-! ### swaps -/
def dsw(L X M Y R:List Pt)(k:Nat):List Pt:=L++((Y.take k++X.drop k)++(M++((X.take k++Y.drop k)++R)))
theorem dsw_zero(L X M Y R:List Pt):dsw L X M Y R 0=L++(X++(M++(Y++R))):=by simp [dsw]
theorem dsw_end{L X M Y R:List Pt}(h:X.length=Y.length):dsw L X M Y R X.length=L++(Y++(M++(X++R))):=by
 unfold dsw
 rw [List.take_length,List.drop_length,h,List.take_length,List.drop_length,List.append_nil,List.append_nil]
theorem sw_one{X Y:List Pt}(h:X.length=Y.length){k:Nat}(hk:k<Y.length):(Y.take k++X.drop k).set k Y[k]=Y.take (k+1)++X.drop (k+1):=by
 have h1:(Y.take k).length=k:=by rw [List.length_take];omega
 rw [List.set_append_right _ _ (by omega),h1,Nat.sub_self,List.drop_eq_getElem_cons (by omega),List.set_cons_zero,←List.take_append_getElem hk,List.append_assoc];rfl
theorem sw_at{X Y:List Pt}(h:X.length=Y.length){k:Nat}(hk:k<X.length):(Y.take k++X.drop k)[k]?=some X[k]:=by
 have h1:(Y.take k).length=k:=by rw [List.length_take];omega
 rw [List.getElem?_append_right (by omega),h1,Nat.sub_self,List.drop_eq_getElem_cons hk];rfl
theorem sw_len{X Y:List Pt}(h:X.length=Y.length)(k:Nat):(Y.take k++X.drop k).length=X.length:=by rw [List.length_append,List.length_take,List.length_drop];omega
theorem dsw_step{L X M Y R:List Pt}(h:X.length=Y.length){k:Nat}(hk:k<X.length) :
  (dsw L X M Y R k)[L.length+k]?=some X[k]∧(dsw L X M Y R k)[L.length+X.length+M.length+k]?=some Y[k] ∧
  ((dsw L X M Y R k).set (L.length+k) Y[k]).set (L.length+X.length+M.length+k) X[k]=dsw L X M Y R (k+1)∧(dsw L X M Y R k).length=L.length+X.length+M.length+Y.length+R.length:=by
 have h1:=sw_len h k
 have h2:=sw_len h.symm k
 have hk':k<Y.length:=by omega
 have p1:=sw_at h hk
 have p2:=sw_at h.symm hk'
 have q1:=sw_one h hk'
 have q2:=sw_one h.symm hk
 unfold dsw
 generalize Y.take k++X.drop k=A at *
 generalize X.take k++Y.drop k=B at *
 rw [← q1,←q2]
 refine⟨?_,?_,?_,?_⟩
 ·rw [List.getElem?_append_right (by omega),List.getElem?_append_left (by omega),Nat.add_sub_cancel_left];exact p1
 ·rw [List.getElem?_append_right (by omega),List.getElem?_append_right (by omega),List.getElem?_append_right (by omega),List.getElem?_append_left (by omega),show L.length+X.length+M.length+k-L.length-A.length-M.length=k by omega];exact p2
 ·have s1:(L++(A++(M++(B++R)))).set (L.length+k) Y[k]=L++(A.set k Y[k]++(M++(B++R))):=by rw [List.set_append_right _ _ (by omega),Nat.add_sub_cancel_left,List.set_append_left _ _ (by omega)]
  have h3:(A.set k Y[k]).length=X.length:=by rw [List.length_set];exact h1
  rw [s1]
  generalize A.set k Y[k]=A' at *
  rw [List.set_append_right _ _ (by omega),List.set_append_right _ _ (by omega),List.set_append_right _ _ (by omega),List.set_append_left _ _ (by omega),show L.length+X.length+M.length+k-L.length-A'.length-M.length=k by omega]
 ·simp only [List.length_append];omega
theorem swapR_spec(L X M Y R:List Pt)(h:X.length=Y.length)(hn:L.length+X.length+M.length+Y.length+R.length≤1000000):FnSpec Sy.P 276 [ptO (L++(X++(M++(Y++R)))),.int L.length,.int ((L.length+X.length+M.length:Nat):Int),.int X.length,fnP] [ptO (L++(Y++(M++(X++R)))),.int L.length,.int ((L.length+X.length+M.length:Nat):Int),.int X.length,fnP] (.tup []):=by
 have e0:=dsw_zero L X M Y R
 have e1:=dsw_end (L:=L) (M:=M) (R:=R) h
 have hst:=fun k (hk:k<X.length)=>dsw_step (L:=L) (M:=M) (R:=R) h hk
 rw [← e0,←e1]
 generalize hb:L.length+X.length+M.length=b at *
 refine FnSpec.enter (S:=Sy) 1 Tryz.func276 rfl rfl rfl Tryz.ntmps276 rfl rfl rfl rfl fun v0=>?_
 repeat' first|refine w9x ?_|(refine w9c ?_ ?_<;>intro _<;>try exact w9o)|fail
 refine CW.loop (fun k:Nat=>[(0,.av (ptO (dsw L X M Y R k))),(1,.av (.int (L.length))),(2,.av (.int (b))),(3,.av (.int (X.length))),(4,.av fnP),(10,.av (.int (k)))]) (fun k=>k≤X.length) (fun k=>X.length-k) (0) ?_ (w9a) ?_
 ·exact Nat.zero_le _
 intro k hk
 by_cases hlt:k<X.length
 ·obtain⟨p1,p2,p3,p4⟩:=hst k hlt
  generalize dsw L X M Y R k=D at *
  generalize hD':dsw L X M Y R (k+1)=D' at *
  generalize X[k]=x at *
  have hky:k<Y.length:=by omega
  generalize Y[k]=y at *
  have g1:D[((L.length:Int)+k).toNat]?=some x:=by rw [show((L.length:Int)+k).toNat=L.length+k by omega];exact p1
  have g2:D[((b:Int)+k).toNat]?=some y:=by rw [show((b:Int)+k).toNat=b+k by omega];exact p2
  have g3:(D.set ((L.length:Int)+k).toNat y)[((b:Int)+k).toNat]?=some y:=by rw [List.getElem?_set_ne (by omega)];exact g2
  have hs:(D.set ((L.length:Int)+k).toNat y).set ((b:Int)+k).toNat x=D':=by rw [show((L.length:Int)+k).toNat=L.length+k by omega,show((b:Int)+k).toNat=b+k by omega];exact p3
  repeat' first|refine w9z ?_|(refine w9c ?_ ?_<;>intro _<;>try exact w9o)|fail
  refine CW.cutB [(0,.av (ptO D')),(1,.av (.int (L.length))),(2,.av (.int (b))),(3,.av (.int (X.length))),(4,.av fnP),(10,.av (.int (k)))] ?_ ?_
  ·refine CW.reg0 24 rfl [false,false,false,false,false,false,false,false,false,false,false,false,false,false,false,false,false,false,false,false,false,false,false,false] (by kernel_rfl) rfl ?_
   refine w9jt 0 ?_
   refine w9jt 1 ?_
   refine w9jt 2 ?_
   refine w9jt 4 ?_
   refine w9jt 5 ?_
   refine w9jt 6 ?_
   refine w9jt 8 ?_
   refine w9jt 9 ?_
   refine w9jt 10 ?_
   refine w9jt 14 ?_
   refine w9jt 15 ?_
   refine w9jt 16 ?_
   apply JA.takeW (i:=3);rfl;rfl;kernel_rfl;(first|((with_reducible apply w_add)<;>exact w9l)|((with_reducible apply w_sub)<;>exact w9l)|((with_reducible apply w_ixaO)<;>exact w9l))
   apply JA.takeW (i:=7);rfl;rfl;kernel_rfl;(first|((with_reducible apply w_add)<;>exact w9l)|((with_reducible apply w_sub)<;>exact w9l)|((with_reducible apply w_ixaO)<;>exact w9l))
   apply JA.takeW (i:=11);rfl;rfl;kernel_rfl;(first|((with_reducible apply w_add)<;>exact w9l)|((with_reducible apply w_sub)<;>exact w9l)|((with_reducible apply w_ixaO)<;>exact w9l))
   apply JA.takeW (i:=12);rfl;rfl;kernel_rfl;(first|((with_reducible apply w_add)<;>exact w9l)|((with_reducible apply w_sub)<;>exact w9l)|((with_reducible apply w_ixaO)<;>exact w9l))
   apply JA.takeW (i:=17);rfl;rfl;kernel_rfl;(first|((with_reducible apply w_add)<;>exact w9l)|((with_reducible apply w_sub)<;>exact w9l)|((with_reducible apply w_ixaO)<;>exact w9l))
   apply JA.takeW (i:=18);rfl;rfl;kernel_rfl;(first|((with_reducible apply w_add)<;>exact w9l)|((with_reducible apply w_sub)<;>exact w9l)|((with_reducible apply w_ixaO)<;>exact w9l))
   refine w9j2 13 19 ?_ ?_
   ·repeat' first|refine w9j ?_|fail
    refine w9j1 19 ?_
    repeat' first|refine w9j ?_|fail
    refine w9j1 20 ?_
    repeat' first|refine w9j ?_|fail
    refine w9j1 21 ?_
    repeat' first|refine w9j ?_|fail
    refine w9j1 22 ?_
    repeat' first|refine w9j ?_|fail
    refine w9j1 23 ?_
    repeat' first|refine w9j ?_|fail
    refine JA.done (by kernel_rfl) ?_
    exact⟨rfl,w9a⟩
   ·repeat' first|refine w9j ?_|fail
    refine w9j1 13 ?_
    repeat' first|refine w9j ?_|fail
    refine w9j1 20 ?_
    repeat' first|refine w9j ?_|fail
    refine w9j1 21 ?_
    repeat' first|refine w9j ?_|fail
    refine w9j1 22 ?_
    repeat' first|refine w9j ?_|fail
    refine w9j1 23 ?_
    repeat' first|refine w9j ?_|fail
    refine JA.done (by kernel_rfl) ?_
    exact⟨rfl,w9a⟩
  repeat' first|refine w9x ?_|(refine w9c ?_ ?_<;>intro _<;>try exact w9o)|fail
  refine⟨k+1,?_,w9n,w9a⟩
  omega
 ·obtain rfl:k=X.length:=by omega
  repeat' first|refine w9x ?_|(refine w9c ?_ ?_<;>intro _<;>try exact w9o)|fail
  exact⟨rfl,⟨_,rfl,.refl _⟩,rfl,args_start (args_mu rfl rfl (args_pl rfl (args_pl rfl (args_pl rfl (args_pl rfl args_nil)))))⟩
/-! ### rotations -/
structure Rt where
 L:List Pt
 X:List Pt
 Y:List Pt
 R:List Pt
structure RtOk(z:Rt)(m n:Nat)(T:List Pt):Prop where
 m:z.L.length+z.X.length=m
 n:z.L.length+z.X.length+z.Y.length+z.R.length=n
 x:0<z.X.length
 y:0<z.Y.length
 t:z.L++(z.Y++(z.X++z.R))=T
theorem rot_spec(L X Y R:List Pt)(hx:0<X.length)(hy:0<Y.length)(hn:L.length+X.length+Y.length+R.length≤1000000):FnSpec Sy.P 272 [ptO (L++(X++(Y++R))),.int L.length,.int ((L.length+X.length:Nat):Int),.int ((L.length+X.length+Y.length:Nat):Int),fnP] [ptO (L++(Y++(X++R))),.int L.length,.int ((L.length+X.length:Nat):Int),.int ((L.length+X.length+Y.length:Nat):Int),fnP] (.tup []):=by
 generalize hT:L++(Y++(X++R))=T
 generalize hm:L.length+X.length=m at *
 refine FnSpec.enter (S:=Sy) 1 Tryz.func272 rfl rfl rfl Tryz.ntmps272 rfl rfl rfl rfl fun v0=>?_
 repeat' first|refine w9x ?_|(refine w9c ?_ ?_<;>intro _<;>try exact w9o)|fail
 refine CW.loop (fun z:Rt=>[(0,.av (ptO (z.L++(z.X++(z.Y++z.R))))),(2,.av (.int (m))),(4,.av fnP),(10,.av (.int (z.X.length))),(11,.av (.int (z.Y.length)))]) (fun z=>RtOk z m (L.length+X.length+Y.length+R.length) T) (fun z=>z.X.length+z.Y.length) (⟨L,X,Y,R⟩) ?_ (w9a) ?_
 ·exact⟨hm,rfl,hx,hy,hT⟩
 rintro⟨L1,X1,Y1,R1⟩ ⟨h1,h2,h3,h4,h5⟩
 dsimp only at h1 h2 h3 h4 h5 ⊢
 rcases Nat.lt_trichotomy X1.length Y1.length with hc|hc|hc
 ·obtain⟨A,B,hAB,hB⟩:∃ A B,Y1=A++B∧B.length=X1.length:=⟨Y1.take (Y1.length-X1.length),Y1.drop (Y1.length-X1.length),(List.take_append_drop ..).symm,by rw [List.length_drop];omega⟩
  subst hAB
  rw [List.length_append] at *
  have hs:=swapR_spec L1 X1 A B R1 hB.symm (by omega)
  have i1:(m:Int)-(X1.length:Int)=(L1.length:Int):=by omega
  have i2:(m:Int)+((A.length+B.length:Nat):Int)-(X1.length:Int)=((L1.length+X1.length+A.length:Nat):Int):=by omega
  rw [← i1,←i2,←List.append_assoc A B R1] at hs
  repeat' first|refine w9x ?_|((with_reducible apply J.callM1 (hs));rfl;rfl;rfl;rfl;rfl;(repeat' (first|exact ArgsM.nil|apply ArgsM.cons|exact ArgM.pl rfl rfl|exact ArgM.br rfl rfl rfl (by first|rfl|exact sh_int|exact sh_rows|exact sh_rowsO|exact sh_box|exact sh_map (fun _=>rfl))));exact NoShI.out;exact NoShI.out)|(refine w9c ?_ ?_<;>intro _<;>try exact w9o)|fail
  all_goals try exact w9o
  refine⟨⟨L1,B,A,X1++R1⟩,?_,w9n,by(repeat' (first|exact w9b|refine And.intro ?_ ?_|exact map_congr' (by simp only [List.append_assoc])))⟩
  exact⟨by dsimp only;omega,by dsimp only;rw [List.length_append];omega,by dsimp only;omega,by dsimp only;omega,by dsimp only;rw [← h5];simp only [List.append_assoc]⟩
 ·have hs:=swapR_spec L1 X1 [] Y1 R1 hc (by simp;omega)
  have i1:(m:Int)-(X1.length:Int)=(L1.length:Int):=by omega
  have i2:(m:Int)=((L1.length+X1.length+([]:List Pt).length:Nat):Int):=by simp;omega
  rw [← i1,←i2,List.nil_append,List.nil_append,h5] at hs
  repeat' first|refine w9x ?_|((with_reducible apply J.callM1 (hs));rfl;rfl;rfl;rfl;rfl;(repeat' (first|exact ArgsM.nil|apply ArgsM.cons|exact ArgM.pl rfl rfl|exact ArgM.br rfl rfl rfl (by first|rfl|exact sh_int|exact sh_rows|exact sh_rowsO|exact sh_box|exact sh_map (fun _=>rfl))));exact NoShI.out;exact NoShI.out)|(refine w9c ?_ ?_<;>intro _<;>try exact w9o)|fail
  all_goals exact w9e
 ·obtain⟨A,B,hAB,hA⟩:∃ A B,X1=A++B∧A.length=Y1.length:=⟨X1.take Y1.length,X1.drop Y1.length,(List.take_append_drop ..).symm,by rw [List.length_take];omega⟩
  subst hAB
  rw [List.length_append] at *
  have hs:=swapR_spec L1 A B Y1 R1 hA (by omega)
  have i1:(m:Int)-((A.length+B.length:Nat):Int)=(L1.length:Int):=by omega
  have i2:(m:Int)=((L1.length+A.length+B.length:Nat):Int):=by omega
  have i3:(A.length:Int)=(Y1.length:Int):=by omega
  rw [i3,←i1,←i2,←List.append_assoc A B] at hs
  repeat' first|refine w9x ?_|((with_reducible apply J.callM1 (hs));rfl;rfl;rfl;rfl;rfl;(repeat' (first|exact ArgsM.nil|apply ArgsM.cons|exact ArgM.pl rfl rfl|exact ArgM.br rfl rfl rfl (by first|rfl|exact sh_int|exact sh_rows|exact sh_rowsO|exact sh_box|exact sh_map (fun _=>rfl))));exact NoShI.out;exact NoShI.out)|(refine w9c ?_ ?_<;>intro _<;>try exact w9o)|fail
  all_goals try exact w9o
  refine⟨⟨L1++Y1,B,A,R1⟩,?_,w9n,by(repeat' (first|exact w9b|refine And.intro ?_ ?_|exact map_congr' (by simp only [List.append_assoc])))⟩
  exact⟨by dsimp only;rw [List.length_append];omega,by dsimp only;rw [List.length_append];omega,by dsimp only;omega,by dsimp only;omega,by dsimp only;rw [← h5];simp only [List.append_assoc]⟩
end Go.Proofs.YtkkcnppgcnmikaaGreatDoor
