/- The words of a line: cut at blanks, without the empty ones; and by FieldsFunc. No program in sight. -/
import Derived.Test.YtkkcnppgcnmikaaGreatDoorAbi
import Derived.Lib.FieldsP
import Derived.Lib.SplitLaws
import Derived.Test.YtkkcnppgcnmikaaGreatDoorAdc
import Derived.Test.YtkkcnppgcnmikaaGreatDoorAdd
namespace Go.Proofs.YtkkcnppgcnmikaaGreatDoor.Xf
open Go FM Go.Proofs
set_option maxRecDepth 10000
set_option maxHeartbeats 3200000
set_option linter.all false
def wg:Str→Str→List Str
 | cur,[]=>if cur=[] then [] else [cur]
 | cur,b::r=>if b=32 then(if cur=[] then wg [] r else cur::wg [] r) else wg (cur++[b]) r
theorem wg_skip:∀ (u cur r:Str),(∀ b∈u,b≠32)→wg cur (u++r)=wg (cur++u) r
 | [],cur,r,_=>by simp
 | b::u,cur,r,h=>by
  have hb:=h b (List.mem_cons_self ..)
  rw [List.cons_append,wg,if_neg hb,wg_skip u _ r fun c hc=>h c (List.mem_cons_of_mem _ hc),List.append_assoc];rfl
theorem split32(s:Str):(∀ b∈s,b≠32)∨∃ u r,s=u++32::r∧∀ b∈u,b≠32:=by
 induction s with
 | nil=>exact .inl fun b hb=>by cases hb
 | cons b s ih =>
  by_cases hb:b=32
  ·subst hb;exact .inr ⟨[],s,rfl,fun c hc=>by cases hc⟩
  ·rcases ih with h|⟨u,r,e,h⟩
   ·exact .inl fun c hc=>(by
    rcases List.mem_cons.1 hc with rfl|hc
    ·exact hb
    ·exact h c hc)
   ·exact .inr ⟨b::u,r,by rw [e];rfl,fun c hc=>(by
    rcases List.mem_cons.1 hc with rfl|hc
    ·exact hb
    ·exact h c hc)⟩
def ne0(s:Str):Bool:=decide (s≠[])
theorem splitK_wg:∀ (n:Nat) (s:Str),s.length≤n→(Lib.splitK [32] 0 (Lib.count s [32]) s).filter ne0=wg [] s
 | n,s,hn=>by
  rw [Lib.count_one]
  rcases split32 s with h|⟨u,r,e,h⟩
  ·rw [List.count_eq_zero.2 fun hm=>h 32 hm rfl]
   have:=wg_skip s [] [] h
   rw [List.append_nil,List.nil_append] at this
   rw [this]
   show [s].filter ne0=if s=[] then [] else [s]
   unfold ne0
   by_cases hs:s=[]
   ·rw [if_pos hs];simp [hs]
   ·rw [if_neg hs];simp [hs]
  ·subst e
   match n,hn with
   | 0,hn=>simp at hn
   | n+1,hn =>
    have hc:(u++32::r).count 32=r.count 32+1:=by
     rw [List.count_append,List.count_cons_self,List.count_eq_zero.2 fun hm=>h 32 hm rfl];omega
    have hx:=Zp.index_hit r h
    have ih:=splitK_wg n r (by simp only [List.length_append,List.length_cons] at hn;omega)
    rw [Lib.count_one] at ih
    rw [hc,Lib.splitK,hx]
    have:((u.length:Int)==-1)=false:=by
     cases h:((u.length:Int)==-1) with
     | false=>rfl
     | true=>have:=eq_of_beq h;omega
    rw [this]
    simp only [Bool.false_eq_true,if_false,Int.toNat_natCast,Nat.add_zero,List.take_left',List.length_singleton]
    rw [show(u++32::r).drop (u.length+1)=r by rw [List.drop_append];simp,wg_skip u [] _ h,List.nil_append,wg,if_pos rfl,List.filter_cons,ih]
    unfold ne0
    by_cases hu:u=[]
    ·rw [if_pos hu];simp [hu]
    ·rw [if_neg hu];simp [hu]
/-! ### FieldsFunc -/
def isB(x:Nat):Bool:=decide (x=32)
abbrev by_(s:ByteArray)(i:Nat):Nat:=(s.get! i).toNat
theorem cont_ne{b:Nat}(h:(b / 64==2)=true):b≠32∧128≤b:=by
 have:=eq_of_beq h;omega
theorem decode_sp(s:ByteArray)(i:Nat):(by_ s i=32→Utf8.decode s i=(32,1))∧(by_ s i≠32→(Utf8.decode s i).1≠32∧1≤(Utf8.decode s i).2∧∀ k,k<(Utf8.decode s i).2→by_ s (i+k)≠32∧(k=0∨i+k<s.size)):=by
 have h0:by_ s (i+0)=by_ s i:=rfl
 constructor
 ·intro h
  unfold Utf8.decode
  simp only [show(s.get! (i+0)).toNat=32 from h]
  rfl
 ·intro h
  unfold Utf8.decode
  simp only [Utf8.runeError]
  have one:∀ (c:Nat),c≠32→c≠32∧1≤1∧∀ k,k<1→by_ s (i+k)≠32∧(k=0∨i+k<s.size):=fun c hc=>⟨hc,Nat.le_refl _,fun k hk=>by
   obtain rfl:k=0:=by omega
   exact⟨h,.inl rfl⟩⟩
  split
  ·exact one _ h
  ·rename_i h1
   split
   ·rename_i h2
    simp only [Bool.and_eq_true,decide_eq_true_eq] at h2
    split
    ·rename_i h3
     refine⟨by simp only at h3 ⊢;omega,show(1:Nat)≤2 by decide,fun k hk=>?_⟩
     match k,hk with
     | 0,_=>exact⟨h,.inl rfl⟩
     | 1,_=>exact⟨(cont_ne h2.2.2).1,.inr h2.2.1⟩
    ·exact one _ (by decide)
   ·split
    ·rename_i h2
     simp only [Bool.and_eq_true,decide_eq_true_eq] at h2
     split
     ·rename_i h3
      simp only [Bool.and_eq_true,decide_eq_true_eq] at h3
      refine⟨by have:=h3.1;simp only at this ⊢;omega,show(1:Nat)≤3 by decide,fun k hk=>?_⟩
      match k,hk with
      | 0,_=>exact⟨h,.inl rfl⟩
      | 1,_=>exact⟨(cont_ne h2.1.2.2).1,.inr h2.1.2.1⟩
      | 2,_=>exact⟨(cont_ne h2.2.2).1,.inr h2.2.1⟩
     ·exact one _ (by decide)
    ·split
     ·rename_i h2
      simp only [Bool.and_eq_true,decide_eq_true_eq] at h2
      split
      ·rename_i h3
       simp only [Bool.and_eq_true,decide_eq_true_eq] at h3
       refine⟨by have:=h3.1;simp only at this ⊢;omega,show(1:Nat)≤4 by decide,fun k hk=>?_⟩
       match k,hk with
       | 0,_=>exact⟨h,.inl rfl⟩
       | 1,_=>exact⟨(cont_ne h2.1.1.2.2).1,.inr h2.1.1.2.1⟩
       | 2,_=>exact⟨(cont_ne h2.1.2.2).1,.inr h2.1.2.1⟩
       | 3,_=>exact⟨(cont_ne h2.2.2).1,.inr h2.2.1⟩
      ·exact one _ (by decide)
     ·exact one _ (by decide)
theorem get_list(s:Str){i:Nat}(h:i<s.length):(ByteArray.mk s.toArray).get! i=s[i]:=by
 show(s.toArray)[i]! = s[i]
 simp [h]
abbrev cutS(s:Str)(p:Nat×Nat):Str:=(s.take p.2).drop p.1
def curOf(s:Str)(pos:Nat):Option Nat→Str
 | some a=>cutS s (a,pos)
 | none=>[]
structure Okst(pos:Nat)(st:Option Nat):Prop where
 lt:∀ a,st=some a→a<pos
theorem cut_more(s:Str){a pos w:Nat}(ha:a≤pos)(hw:pos+w≤s.length):cutS s (a,pos+w)=cutS s (a,pos)++(s.drop pos).take w:=by
 unfold cutS
 simp only
 rw [List.take_add,List.drop_append,List.length_take]
 congr 1
 rw [show a-min pos s.length=0 by omega,List.drop_zero]
theorem cut_ne(s:Str){a pos:Nat}(ha:a<pos)(hp:pos≤s.length):cutS s (a,pos)≠[]:=by
 intro e
 have:=congrArg List.length e
 simp only [cutS,List.length_drop,List.length_take,List.length_nil] at this
 omega
theorem spans_wg(s:Str):∀ (f pos:Nat) (st:Option Nat) (acc:List (Nat×Nat)),pos≤s.length→s.length-pos≤f→Okst pos st →
  (Lib.closeSpans ⟨s.toArray⟩ (Lib.spansFromP isB ⟨s.toArray⟩ f pos st acc)).map (cutS s)=acc.map (cutS s)++wg (curOf s pos st) (s.drop pos)
 | f,pos,st,acc,hp,hf,hok=>by
  have hsz:(ByteArray.mk s.toArray).size=s.length:=by simp [ByteArray.size]
  by_cases hlt:pos<s.length
  ·match f,hf with
   | 0,hf=>omega
   | f+1,hf =>
    have hd:=decode_sp ⟨s.toArray⟩ pos
    have hb:by_ ⟨s.toArray⟩ pos=s[pos].toNat:=by unfold by_;rw [get_list s hlt]
    have hdr:s.drop pos=s[pos]::s.drop (pos+1):=List.drop_eq_getElem_cons hlt
    unfold Lib.spansFromP
    rw [if_pos (by rw [hsz];exact hlt)]
    by_cases h32:by_ ⟨s.toArray⟩ pos=32
    ·have h1:=hd.1 h32
     rw [h1]
     have hs32:s[pos]=32:=by
      rw [hb] at h32
      exact UInt8.toNat_inj.1 h32
     rw [show isB ((32,1):Nat×Nat).1=true from rfl,if_pos rfl]
     cases st with
     | none =>
      simp only
      rw [spans_wg s f (pos+1) none acc (by omega) (by omega) ⟨fun a h=>by cases h⟩,hdr,hs32]
      show _=_++wg [] (32::s.drop (pos+1))
      rw [wg,if_pos rfl,if_pos rfl];rfl
     | some a =>
      simp only
      have ha:=hok.lt a rfl
      rw [spans_wg s f (pos+1) none _ (by omega) (by omega) ⟨fun a h=>by cases h⟩,hdr,hs32,List.map_append,List.append_assoc]
      show _=_++wg (cutS s (a,pos)) (32::s.drop (pos+1))
      rw [wg,if_pos rfl,if_neg (cut_ne s ha hp)];rfl
    ·obtain⟨h1,h2,h3⟩:=hd.2 h32
     rw [show isB (Utf8.decode ⟨s.toArray⟩ pos).1=false from decide_eq_false h1,if_neg (by decide)]
     generalize Utf8.decode ⟨s.toArray⟩ pos=D at *
     obtain⟨c,w⟩:=D
     simp only at h1 h2 h3 ⊢
     have hw:pos+w≤s.length:=by
      rcases(h3 (w-1) (by omega)).2 with h|h
      ·omega
      ·rw [hsz] at h;omega
     have hu:∀ b∈(s.drop pos).take w,b≠32:=fun b hb2=>by
      obtain⟨k,hk,rfl⟩:=List.mem_iff_getElem.1 hb2
      rw [List.length_take,List.length_drop] at hk
      rw [List.getElem_take,List.getElem_drop]
      have:=(h3 k (by omega)).1
      unfold by_ at this
      rw [get_list s (by omega)] at this
      intro e
      rw [e] at this
      exact this rfl
     have hsp:s.drop pos=(s.drop pos).take w++s.drop (pos+w):=by rw [← List.drop_drop,List.take_append_drop]
     cases st with
     | none =>
      rw [spans_wg s f (pos+w) (some pos) acc hw (by omega) ⟨fun a h=>by cases h;omega⟩]
      show _=_++wg [] (s.drop pos)
      rw [hsp,wg_skip _ _ _ hu,List.nil_append]
      show _++wg (cutS s (pos,pos+w)) _=_
      rw [cut_more s (Nat.le_refl _) hw]
      have:cutS s (pos,pos)=[]:=by unfold cutS;simp
      rw [this,List.nil_append]
     | some a =>
      have ha:=hok.lt a rfl
      rw [spans_wg s f (pos+w) (some a) acc hw (by omega) ⟨fun a' h=>by cases h;omega⟩]
      show _=_++wg (cutS s (a,pos)) (s.drop pos)
      rw [hsp,wg_skip _ _ _ hu]
      show _++wg (cutS s (a,pos+w)) _=_
      rw [cut_more s (by omega) hw]
  ·obtain rfl:pos=s.length:=by omega
   rw [Lib.spansFromP_end _ _ _ _ _ _ (by rw [hsz];omega),List.drop_length]
   unfold Lib.closeSpans
   cases st with
   | none=>simp [wg,curOf]
   | some a =>
    have ha:=hok.lt a rfl
    simp only [List.map_append,List.map_cons,List.map_nil,hsz]
    show _=_++wg (cutS s (a,s.length)) []
    rw [wg,if_neg (cut_ne s ha (Nat.le_refl _))]
theorem ext_list(s:Str)(a b:Nat):((ByteArray.mk s.toArray).extract a b).data.toList=cutS s (a,b):=by
 simp [ByteArray.data_extract,cutS,List.drop_take]
theorem fields_wg(s:Str):(Lib.goFieldsP isB ⟨s.toArray⟩).map (fun b=>b.data.toList)=wg [] s:=by
 unfold Lib.goFieldsP Lib.spansOfP
 have hsz:(ByteArray.mk s.toArray).size=s.length:=by simp [ByteArray.size]
 have:=spans_wg s s.length 0 none [] (Nat.zero_le _) (by omega) ⟨fun a h=>by cases h⟩
 rw [List.map_map,hsz]
 rw [show((fun b:ByteArray=>b.data.toList) ∘ fun x:Nat×Nat=>(ByteArray.mk s.toArray).extract x.1 x.2)=cutS s from funext fun x=>ext_list s x.1 x.2]
 simpa [curOf] using this
end Go.Proofs.YtkkcnppgcnmikaaGreatDoor.Xf
namespace FM
open Go Go.RowKit
set_option linter.all false
theorem has_put{σ:St}{r n:Nat}{x:AV}(hn:Nat.beq r n=false)(h:get σ n=.av x):get (σ.put r .none) n=.av x:=by
 simp [FM.get,hn,h,kill_eq,TV.kill]
end FM
namespace Go.Proofs.YtkkcnppgcnmikaaGreatDoor
open Go FM Go.Proofs
set_option maxRecDepth 10000
set_option maxHeartbeats 6400000
set_option linter.all false
theorem pieces_wg(s:Str):(pieces s [32]).filter Xf.ne0=Xf.wg [] s:=by
 unfold pieces
 rw [Lib.splitB_data]
 exact Xf.splitK_wg s.length s (Nat.le_refl _)
theorem pieces_len(s:Str)(c:UInt8):(pieces s [c]).length≤s.length+1:=by
 unfold pieces
 rw [List.length_map]
 have h1:=Lib.splitB_length_le ⟨[c].toArray⟩ 0 (Lib.countB ⟨s.toArray⟩ ⟨[c].toArray⟩) ⟨s.toArray⟩
 have h2:Lib.countB ⟨s.toArray⟩ ⟨[c].toArray⟩≤s.length:=by
  show Lib.count s [c]≤_
  rw [Lib.count_one];exact List.count_le_length
 omega
theorem filter_take{l:List Str}{k:Nat}(h:k<l.length):(l.take (k+1)).filter Xf.ne0=(l.take k).filter Xf.ne0++(if l[k]=[] then [] else [l[k]]):=by
 rw [List.take_succ_eq_append_getElem h,List.filter_append]
 congr 1
 unfold Xf.ne0
 by_cases hx:l[k]=[]
 ·rw [if_pos hx];simp [hx]
 ·rw [if_neg hx];simp [hx]
section
variable (A:List Ac) (O:List Dl) (k:Str) (n:Int) (A':List Ac) (O':List Dl) (k':Str) (n':Int)
theorem ans_deed(line:Str)(hl:line.length≤5000)(w:Str)(l:List Str)(hw:Xf.wg [] line=w::l)(t:Str)(hD:FnSpec Sy.P 94 [dkV A O k n,.str w,swS l] [dkV A' O' k' n',.str w,swS l] (.tup [.str t,.bool true])):FnSpec Sy.P 52 [dkV A O k n,.str line] [dkV A' O' k' n',.str line] (.str t):=by
 refine FnSpec.enterD (S:=Sy) (m:=1) (q:=4) (r:=10) (g:=92) (N:=47) Tryz.func52 rfl rfl rfl Tryz.ntmps52 rfl rfl rfl rfl (by decide) (by decide) (by decide) (Nat.le_of_ble_eq_true rfl) clo_ok [(0,.av (dkV A O k n)),(1,.av (.str line)),(4,.av (.pt true [.str []]))] (fun σ' h=>by obtain⟨h0,h1,h2,_⟩:=h;exact⟨has_put (by decide) h0,has_put (by decide) h1,has_put (by decide) h2,trivial⟩) (fun v0=>?_) (fun v0 d=>?_) clo_ret
 ·repeat' first|refine w9x ?_|(refine w9c ?_ ?_<;>intro _<;>try exact w9o)|fail
  all_goals exact⟨rfl,rfl,rfl,rfl,trivial⟩
 ·have hSp:=split_spec line [32] (by omega) (by decide)
  have hpl:=pieces_len line 32
  have hpw:=pieces_wg line
  rw [hw] at hpw
  generalize pieces line [32]=ps at *
  repeat' first|refine w9x ?_|refine w9p (hSp) ?_|(refine w9c ?_ ?_<;>intro _<;>try exact w9o)|fail
  refine CW.leS (x:=.nil) 5 rfl (AV.le.nil (o:=true) (c:=1)) ?_
  refine CW.loop (fun j:Nat=>[(0,.av (dkV A O k n)),(4,.av (.pt true [.str []])),(5,.av (.sl true 1 (((ps.take j).filter Xf.ne0).map .str))),(12,.av (.sl true 1 (ps.map .str))),(13,.av (.int (ps.length))),(14,.av (.int (j)))]) (fun j=>j≤ps.length) (fun j=>ps.length-j) (0) ?_ (w9a) ?_
  ·exact Nat.zero_le _
  intro j hj
  by_cases hjl:j<ps.length
  ·have hx:ps[j]?=some ps[j]:=List.getElem?_eq_getElem hjl
   have ht:=filter_take hjl
   have hfl:((ps.take j).filter Xf.ne0).length≤100000:=by
    have:=List.length_filter_le Xf.ne0 (ps.take j)
    rw [List.length_take] at this;omega
   generalize (ps.take j).filter Xf.ne0=B at *
   generalize ps[j]=s at *
   by_cases hs:s=[]
   ·rw [if_pos hs,List.append_nil] at ht
    subst hs
    repeat' first|refine w9x ?_|(refine w9c ?_ ?_<;>intro _<;>try exact w9o)|fail
    all_goals first|(exfalso;omega)|(exfalso;contradiction)|skip
    all_goals
     refine⟨j+1,?_,w9n,by(repeat' (first|exact w9b|refine And.intro ?_ ?_))⟩
     omega
   ·rw [if_neg hs] at ht
    repeat' first|refine w9x ?_|(refine w9c ?_ ?_<;>intro _<;>try exact w9o)|fail
    all_goals first|(exfalso;omega)|(exfalso;contradiction)|skip
    all_goals
     refine⟨j+1,?_,w9n,by(repeat' (first|exact w9b|refine And.intro ?_ ?_))⟩
     omega
  ·obtain rfl:j=ps.length:=by omega
   rw [List.take_length,hpw]
   refine CW.freeze 5 rfl (sh_map fun _=>rfl) rfl ?_
   repeat' first|((with_reducible refine w9i ?_);first|refine w9J1 5 6 ?_|refine w9Jt 4 7 ?_|refine w9Jw 3 8 ?_|refine w9Jt 2 10 ?_|refine w9Jw 1 9 ?_|refine w9Jt 0 11 ?_|refine w9J0 ?_|refine w9J1 1 5 ?_|refine w9J1 0 6 ?_|refine w9J0 ?_)|refine w9U 6 6 ?_|refine w9U 5 2 ?_|refine w9x ?_|refine w9h (hD) ?_|(refine w9c ?_ ?_<;>intro _<;>try exact w9o)|fail
   all_goals exact w9e
theorem ans_asked(line:Str)(hl:line.length≤5000)(w:Str)(l:List Str)(hw:Xf.wg [] line=w::l)(t:Str)(hD:FnSpec Sy.P 94 [dkV A O k n,.str w,swS l] [dkV A' O' k' n',.str w,swS l] (.tup [.str [],.bool false]))(hA:FnSpec Sy.P 95 [.str w,swS l] [.str w,swS l] (.str t)):FnSpec Sy.P 52 [dkV A O k n,.str line] [dkV A' O' k' n',.str line] (.str t):=by
 refine FnSpec.enterD (S:=Sy) (m:=1) (q:=4) (r:=10) (g:=92) (N:=47) Tryz.func52 rfl rfl rfl Tryz.ntmps52 rfl rfl rfl rfl (by decide) (by decide) (by decide) (Nat.le_of_ble_eq_true rfl) clo_ok [(0,.av (dkV A O k n)),(1,.av (.str line)),(4,.av (.pt true [.str []]))] (fun σ' h=>by obtain⟨h0,h1,h2,_⟩:=h;exact⟨has_put (by decide) h0,has_put (by decide) h1,has_put (by decide) h2,trivial⟩) (fun v0=>?_) (fun v0 d=>?_) clo_ret
 ·repeat' first|refine w9x ?_|(refine w9c ?_ ?_<;>intro _<;>try exact w9o)|fail
  all_goals exact⟨rfl,rfl,rfl,rfl,trivial⟩
 ·have hSp:=split_spec line [32] (by omega) (by decide)
  have hpl:=pieces_len line 32
  have hpw:=pieces_wg line
  rw [hw] at hpw
  generalize pieces line [32]=ps at *
  repeat' first|refine w9x ?_|refine w9p (hSp) ?_|(refine w9c ?_ ?_<;>intro _<;>try exact w9o)|fail
  refine CW.leS (x:=.nil) 5 rfl (AV.le.nil (o:=true) (c:=1)) ?_
  refine CW.loop (fun j:Nat=>[(0,.av (dkV A O k n)),(4,.av (.pt true [.str []])),(5,.av (.sl true 1 (((ps.take j).filter Xf.ne0).map .str))),(12,.av (.sl true 1 (ps.map .str))),(13,.av (.int (ps.length))),(14,.av (.int (j)))]) (fun j=>j≤ps.length) (fun j=>ps.length-j) (0) ?_ (w9a) ?_
  ·exact Nat.zero_le _
  intro j hj
  by_cases hjl:j<ps.length
  ·have hx:ps[j]?=some ps[j]:=List.getElem?_eq_getElem hjl
   have ht:=filter_take hjl
   have hfl:((ps.take j).filter Xf.ne0).length≤100000:=by
    have:=List.length_filter_le Xf.ne0 (ps.take j)
    rw [List.length_take] at this;omega
   generalize (ps.take j).filter Xf.ne0=B at *
   generalize ps[j]=s at *
   by_cases hs:s=[]
   ·rw [if_pos hs,List.append_nil] at ht
    subst hs
    repeat' first|refine w9x ?_|(refine w9c ?_ ?_<;>intro _<;>try exact w9o)|fail
    all_goals first|(exfalso;omega)|(exfalso;contradiction)|skip
    all_goals
     refine⟨j+1,?_,w9n,by(repeat' (first|exact w9b|refine And.intro ?_ ?_))⟩
     omega
   ·rw [if_neg hs] at ht
    repeat' first|refine w9x ?_|(refine w9c ?_ ?_<;>intro _<;>try exact w9o)|fail
    all_goals first|(exfalso;omega)|(exfalso;contradiction)|skip
    all_goals
     refine⟨j+1,?_,w9n,by(repeat' (first|exact w9b|refine And.intro ?_ ?_))⟩
     omega
  ·obtain rfl:j=ps.length:=by omega
   rw [List.take_length,hpw]
   refine CW.freeze 5 rfl (sh_map fun _=>rfl) rfl ?_
   repeat' first|((with_reducible refine w9i ?_);first|refine w9J1 5 6 ?_|refine w9Jt 4 7 ?_|refine w9Jw 3 8 ?_|refine w9Jt 2 10 ?_|refine w9Jw 1 9 ?_|refine w9Jt 0 11 ?_|refine w9J0 ?_|refine w9J1 1 5 ?_|refine w9J1 0 6 ?_|refine w9J0 ?_)|refine w9U 6 6 ?_|refine w9U 5 2 ?_|refine w9x ?_|refine w9h (hD) ?_|refine w9p (hA) ?_|(refine w9c ?_ ?_<;>intro _<;>try exact w9o)|fail
   all_goals exact w9e
variable (e:Int) (he:0≤e∧e≤100)
include he
theorem ans_deed_e(line:Str)(hl:line.length≤5000)(w:Str)(l:List Str)(hw:Xf.wg [] line=w::l)(hD:FnDies Sy.P 94 [dkV A O k n,.str w,swS l] [dkV A' O' k' n',.str w,swS l] (refd e)):FnSpec Sy.P 52 [dkV A O k n,.str line] [dkV A' O' k' n',.str line] (.str (rfS e)):=by
 refine FnSpec.enterDX (S:=Sy) (q:=4) (r:=10) (g:=92) (N:=47) (ch:=refd e) (cs1:=[.str []]) (cs2:=[.str (rfS e)]) Tryz.func52 rfl rfl rfl Tryz.ntmps52 rfl rfl rfl (by decide) (by decide) (by decide) (by decide) (Nat.le_of_ble_eq_true rfl) (by decide) clo_ok [(0,.av (dkV A O k n)),(1,.av (.str line)),(4,.av (.pt true [.str []]))] (fun σ' h=>by obtain⟨h0,h1,h2,_⟩:=h;exact⟨has_put (by decide) h0,has_put (by decide) h1,has_put (by decide) h2,trivial⟩) (fun v0=>?_) (fun v0 d=>?_) (fun v0 d=>?_) NoShI.out (fun v w L=>clo_die e he v w L)
 ·repeat' first|refine w9x ?_|(refine w9c ?_ ?_<;>intro _<;>try exact w9o)|fail
  all_goals exact⟨rfl,rfl,rfl,rfl,trivial⟩
 ·have hSp:=split_spec line [32] (by omega) (by decide)
  have hpl:=pieces_len line 32
  have hpw:=pieces_wg line
  rw [hw] at hpw
  generalize pieces line [32]=ps at *
  repeat' first|refine w9x ?_|refine w9p (hSp) ?_|(refine w9c ?_ ?_<;>intro _<;>try exact w9o)|fail
  refine CW.leS (x:=.nil) 5 rfl (AV.le.nil (o:=true) (c:=1)) ?_
  refine CW.loop (fun j:Nat=>[(0,.av (dkV A O k n)),(4,.av (.pt true [.str []])),(5,.av (.sl true 1 (((ps.take j).filter Xf.ne0).map .str))),(12,.av (.sl true 1 (ps.map .str))),(13,.av (.int (ps.length))),(14,.av (.int (j)))]) (fun j=>j≤ps.length) (fun j=>ps.length-j) (0) ?_ (w9a) ?_
  ·exact Nat.zero_le _
  intro j hj
  by_cases hjl:j<ps.length
  ·have hx:ps[j]?=some ps[j]:=List.getElem?_eq_getElem hjl
   have ht:=filter_take hjl
   have hfl:((ps.take j).filter Xf.ne0).length≤100000:=by
    have:=List.length_filter_le Xf.ne0 (ps.take j)
    rw [List.length_take] at this;omega
   generalize (ps.take j).filter Xf.ne0=B at *
   generalize ps[j]=s at *
   by_cases hs:s=[]
   ·rw [if_pos hs,List.append_nil] at ht
    subst hs
    repeat' first|refine w9x ?_|(refine w9c ?_ ?_<;>intro _<;>try exact w9o)|fail
    all_goals first|(exfalso;omega)|(exfalso;contradiction)|skip
    all_goals
     refine⟨j+1,?_,w9n,by(repeat' (first|exact w9b|refine And.intro ?_ ?_))⟩
     omega
   ·rw [if_neg hs] at ht
    repeat' first|refine w9x ?_|(refine w9c ?_ ?_<;>intro _<;>try exact w9o)|fail
    all_goals first|(exfalso;omega)|(exfalso;contradiction)|skip
    all_goals
     refine⟨j+1,?_,w9n,by(repeat' (first|exact w9b|refine And.intro ?_ ?_))⟩
     omega
  ·obtain rfl:j=ps.length:=by omega
   rw [List.take_length,hpw]
   refine CW.freeze 5 rfl (sh_map fun _=>rfl) rfl ?_
   repeat' first|((with_reducible refine w9i ?_);first|refine w9J1 5 6 ?_|refine w9Jt 4 7 ?_|refine w9Jw 3 8 ?_|refine w9Jt 2 10 ?_|refine w9Jw 1 9 ?_|refine w9Jt 0 11 ?_|refine w9J0 ?_|refine w9J1 1 5 ?_|refine w9J1 0 6 ?_|refine w9J0 ?_)|refine w9U 6 6 ?_|refine w9U 5 2 ?_|refine w9x ?_|(exact J.dieD hD rfl rfl rfl rfl (.cons (.pl rfl rfl) (.cons (.pl rfl rfl) .nil)) rfl)|(refine w9c ?_ ?_<;>intro _<;>try exact w9o)|fail
   all_goals first|(exfalso;omega)|(exfalso;contradiction)|skip
   all_goals done
 ·exact⟨rfl,⟨_,rfl,.refl _⟩,rfl,args_start (args_mu rfl rfl (args_pl rfl args_nil))⟩
theorem ans_asked_e(line:Str)(hl:line.length≤5000)(w:Str)(l:List Str)(hw:Xf.wg [] line=w::l)(hD:FnSpec Sy.P 94 [dkV A O k n,.str w,swS l] [dkV A' O' k' n',.str w,swS l] (.tup [.str [],.bool false]))(hA:FnDies Sy.P 95 [.str w,swS l] [.str w,swS l] (refd e)):FnSpec Sy.P 52 [dkV A O k n,.str line] [dkV A' O' k' n',.str line] (.str (rfS e)):=by
 refine FnSpec.enterDX (S:=Sy) (q:=4) (r:=10) (g:=92) (N:=47) (ch:=refd e) (cs1:=[.str []]) (cs2:=[.str (rfS e)]) Tryz.func52 rfl rfl rfl Tryz.ntmps52 rfl rfl rfl (by decide) (by decide) (by decide) (by decide) (Nat.le_of_ble_eq_true rfl) (by decide) clo_ok [(0,.av (dkV A O k n)),(1,.av (.str line)),(4,.av (.pt true [.str []]))] (fun σ' h=>by obtain⟨h0,h1,h2,_⟩:=h;exact⟨has_put (by decide) h0,has_put (by decide) h1,has_put (by decide) h2,trivial⟩) (fun v0=>?_) (fun v0 d=>?_) (fun v0 d=>?_) NoShI.out (fun v w L=>clo_die e he v w L)
 ·repeat' first|refine w9x ?_|(refine w9c ?_ ?_<;>intro _<;>try exact w9o)|fail
  all_goals exact⟨rfl,rfl,rfl,rfl,trivial⟩
 ·have hSp:=split_spec line [32] (by omega) (by decide)
  have hpl:=pieces_len line 32
  have hpw:=pieces_wg line
  rw [hw] at hpw
  generalize pieces line [32]=ps at *
  repeat' first|refine w9x ?_|refine w9p (hSp) ?_|(refine w9c ?_ ?_<;>intro _<;>try exact w9o)|fail
  refine CW.leS (x:=.nil) 5 rfl (AV.le.nil (o:=true) (c:=1)) ?_
  refine CW.loop (fun j:Nat=>[(0,.av (dkV A O k n)),(4,.av (.pt true [.str []])),(5,.av (.sl true 1 (((ps.take j).filter Xf.ne0).map .str))),(12,.av (.sl true 1 (ps.map .str))),(13,.av (.int (ps.length))),(14,.av (.int (j)))]) (fun j=>j≤ps.length) (fun j=>ps.length-j) (0) ?_ (w9a) ?_
  ·exact Nat.zero_le _
  intro j hj
  by_cases hjl:j<ps.length
  ·have hx:ps[j]?=some ps[j]:=List.getElem?_eq_getElem hjl
   have ht:=filter_take hjl
   have hfl:((ps.take j).filter Xf.ne0).length≤100000:=by
    have:=List.length_filter_le Xf.ne0 (ps.take j)
    rw [List.length_take] at this;omega
   generalize (ps.take j).filter Xf.ne0=B at *
   generalize ps[j]=s at *
   by_cases hs:s=[]
   ·rw [if_pos hs,List.append_nil] at ht
    subst hs
    repeat' first|refine w9x ?_|(refine w9c ?_ ?_<;>intro _<;>try exact w9o)|fail
    all_goals first|(exfalso;omega)|(exfalso;contradiction)|skip
    all_goals
     refine⟨j+1,?_,w9n,by(repeat' (first|exact w9b|refine And.intro ?_ ?_))⟩
     omega
   ·rw [if_neg hs] at ht
    repeat' first|refine w9x ?_|(refine w9c ?_ ?_<;>intro _<;>try exact w9o)|fail
    all_goals first|(exfalso;omega)|(exfalso;contradiction)|skip
    all_goals
     refine⟨j+1,?_,w9n,by(repeat' (first|exact w9b|refine And.intro ?_ ?_))⟩
     omega
  ·obtain rfl:j=ps.length:=by omega
   rw [List.take_length,hpw]
   refine CW.freeze 5 rfl (sh_map fun _=>rfl) rfl ?_
   repeat' first|((with_reducible refine w9i ?_);first|refine w9J1 5 6 ?_|refine w9Jt 4 7 ?_|refine w9Jw 3 8 ?_|refine w9Jt 2 10 ?_|refine w9Jw 1 9 ?_|refine w9Jt 0 11 ?_|refine w9J0 ?_|refine w9J1 1 5 ?_|refine w9J1 0 6 ?_|refine w9J0 ?_)|refine w9U 6 6 ?_|refine w9U 5 2 ?_|refine w9x ?_|refine w9h (hD) ?_|(exact J.dieD0 hA rfl (.cons (.pl rfl rfl) (.cons (.pl rfl rfl) .nil)) rfl rfl)|(refine w9c ?_ ?_<;>intro _<;>try exact w9o)|fail
   all_goals first|(exfalso;omega)|(exfalso;contradiction)|skip
   all_goals done
 ·exact⟨rfl,⟨_,rfl,.refl _⟩,rfl,args_start (args_mu rfl rfl (args_pl rfl args_nil))⟩
omit he
theorem ans_none(line:Str)(hl:line.length≤5000)(hw:Xf.wg [] line=[])  : FnSpec Sy.P 52 [dkV A O k n,.str line] [dkV A O k n,.str line] (.str (rfS 12)):=by
 have hM:=must_dies 12 (by decide)
 refine FnSpec.enterDX (S:=Sy) (q:=4) (r:=10) (g:=92) (N:=47) (ch:=refd 12) (cs1:=[.str []]) (cs2:=[.str (rfS 12)]) Tryz.func52 rfl rfl rfl Tryz.ntmps52 rfl rfl rfl (by decide) (by decide) (by decide) (by decide) (Nat.le_of_ble_eq_true rfl) (by decide) clo_ok [(0,.av (dkV A O k n)),(1,.av (.str line)),(4,.av (.pt true [.str []]))] (fun σ' h=>by obtain⟨h0,h1,h2,_⟩:=h;exact⟨has_put (by decide) h0,has_put (by decide) h1,has_put (by decide) h2,trivial⟩) (fun v0=>?_) (fun v0 d=>?_) (fun v0 d=>?_) NoShI.out (fun v w L=>clo_die 12 (by decide) v w L)
 ·repeat' first|refine w9x ?_|(refine w9c ?_ ?_<;>intro _<;>try exact w9o)|fail
  all_goals exact⟨rfl,rfl,rfl,rfl,trivial⟩
 ·have hSp:=split_spec line [32] (by omega) (by decide)
  have hpl:=pieces_len line 32
  have hpw:=pieces_wg line
  rw [hw] at hpw
  generalize pieces line [32]=ps at *
  repeat' first|refine w9x ?_|refine w9p (hSp) ?_|(refine w9c ?_ ?_<;>intro _<;>try exact w9o)|fail
  refine CW.leS (x:=.nil) 5 rfl (AV.le.nil (o:=true) (c:=1)) ?_
  refine CW.loop (fun j:Nat=>[(0,.av (dkV A O k n)),(4,.av (.pt true [.str []])),(5,.av (.sl true 1 (((ps.take j).filter Xf.ne0).map .str))),(12,.av (.sl true 1 (ps.map .str))),(13,.av (.int (ps.length))),(14,.av (.int (j)))]) (fun j=>j≤ps.length) (fun j=>ps.length-j) (0) ?_ (w9a) ?_
  ·exact Nat.zero_le _
  intro j hj
  by_cases hjl:j<ps.length
  ·have hx:ps[j]?=some ps[j]:=List.getElem?_eq_getElem hjl
   have ht:=filter_take hjl
   have hfl:((ps.take j).filter Xf.ne0).length≤100000:=by
    have:=List.length_filter_le Xf.ne0 (ps.take j)
    rw [List.length_take] at this;omega
   generalize (ps.take j).filter Xf.ne0=B at *
   generalize ps[j]=s at *
   by_cases hs:s=[]
   ·rw [if_pos hs,List.append_nil] at ht
    subst hs
    repeat' first|refine w9x ?_|(refine w9c ?_ ?_<;>intro _<;>try exact w9o)|fail
    all_goals first|(exfalso;omega)|(exfalso;contradiction)|skip
    all_goals
     refine⟨j+1,?_,w9n,by(repeat' (first|exact w9b|refine And.intro ?_ ?_))⟩
     omega
   ·rw [if_neg hs] at ht
    repeat' first|refine w9x ?_|(refine w9c ?_ ?_<;>intro _<;>try exact w9o)|fail
    all_goals first|(exfalso;omega)|(exfalso;contradiction)|skip
    all_goals
     refine⟨j+1,?_,w9n,by(repeat' (first|exact w9b|refine And.intro ?_ ?_))⟩
     omega
  ·obtain rfl:j=ps.length:=by omega
   rw [List.take_length,hpw]
   repeat' first|refine w9U 6 6 ?_|refine w9U 5 2 ?_|refine w9x ?_|(exact J.dieD0 hM rfl (.cons (.pl rfl rfl) .nil) rfl rfl)|(refine w9c ?_ ?_<;>intro _<;>try exact w9o)|fail
   all_goals first|(exfalso;omega)|(exfalso;contradiction)|skip
   all_goals done
 ·exact⟨rfl,⟨_,rfl,.refl _⟩,rfl,args_start (args_mu rfl rfl (args_pl rfl args_nil))⟩
end
section
variable (A:List Ac) (O:List Dl) (k:Str) (n:Int) (A':List Ac) (O':List Dl) (k':Str) (n':Int)
theorem deed_open(s u:Str)(t m:Int)(hu:nuB u=true)  (hDo:FnSpec Sy.P 7 [hsV A O k n,dxA 1 (nuV u) s dl0] [hsV A' O' k' n',dxA 1 (nuV u) s dl0] (.tup [tdA t m,.int 0])):FnSpec Sy.P 94 [dkV A O k n,.str [111,112,101,110],swS [s,u]] [dkV A' O' k' n',.str [111,112,101,110],swS [s,u]] (.tup [.str [111,107],.bool true]):=by
 have hM:=must_ok
 have hN:=number_spec u hu
 generalize nuV u=z at *
 refine FnSpec.enter (S:=Sy) 1 Tryz.func94 rfl rfl rfl Tryz.ntmps94 rfl rfl rfl rfl fun v0=>?_
 repeat' first|((with_reducible refine w9i ?_);first|refine w9Jt 8 0 ?_|refine w9Jt 7 3 ?_|refine w9Jw 6 1 ?_|refine w9Jw 5 4 ?_|refine w9J2 4 2 5 ?_ ?_|refine w9J2 3 2 6 ?_ ?_|refine w9J1 3 5 ?_|refine w9J1 2 2 ?_|refine w9J1 2 6 ?_|refine w9J1 1 7 ?_|refine w9J1 0 8 ?_|refine w9J0 ?_|refine w9Jt 11 0 ?_|refine w9Jw 10 1 ?_|refine w9Jw 9 2 ?_|refine w9J3 8 3 4 9 ?_ ?_ ?_|refine w9J2 7 3 9 ?_ ?_|refine w9J2 7 3 4 ?_ ?_|refine w9J2 7 4 9 ?_ ?_|refine w9J2 6 5 9 ?_ ?_|refine w9J1 6 3 ?_|refine w9J1 6 4 ?_|refine w9Jt 5 6 ?_|refine w9J1 5 5 ?_|refine w9Jt 4 6 ?_|refine w9Jw 4 7 ?_|refine w9Jw 3 7 ?_|refine w9Jw 3 8 ?_|refine w9Jw 2 8 ?_|refine w9J1 2 9 ?_|refine w9J1 1 10 ?_|refine w9Jt 0 11 ?_|refine w9J0 ?_)|refine w9U 0 9 ?_|refine w9U 0 12 ?_|refine w9S @s_strEqT ?_|refine w9S @s_bld0 ?_|((with_reducible apply J.step);rfl;((with_reducible apply s_bldG)<;>(first|rfl|(solve|(repeat' (first|exact FillG.nil|(with_unfolding_all apply FillG.part rfl rfl rfl rfl rfl rfl rfl)))))))|((with_reducible apply J.step);rfl;((with_reducible apply s_ldFo)<;>(first|rfl|exact AV.noConfusion)))|refine w9x ?_|refine w9p (hN) ?_|refine w9f1 (hDo) ?_|refine w9p (hM) ?_|fail
 all_goals exact w9e
theorem deed_open_e(s u:Str)(t m e:Int)(he:e≠0)(hu:nuB u=true)(hDo:FnSpec Sy.P 7 [hsV A O k n,dxA 1 (nuV u) s dl0] [hsV A' O' k' n',dxA 1 (nuV u) s dl0] (.tup [tdA t m,.int e])):FnDies Sy.P 94 [dkV A O k n,.str [111,112,101,110],swS [s,u]] [dkV A' O' k' n',.str [111,112,101,110],swS [s,u]] (refd e):=by
 have hM:=must_dies e he
 have hN:=number_spec u hu
 generalize nuV u=z at *
 refine FnDies.enter1 (S:=Sy) Tryz.func94 rfl rfl Tryz.ntmps94 rfl rfl fun v0=>?_
 repeat' first|((with_reducible refine w9i ?_);first|refine w9Jt 8 0 ?_|refine w9Jt 7 3 ?_|refine w9Jw 6 1 ?_|refine w9Jw 5 4 ?_|refine w9J2 4 2 5 ?_ ?_|refine w9J2 3 2 6 ?_ ?_|refine w9J1 3 5 ?_|refine w9J1 2 2 ?_|refine w9J1 2 6 ?_|refine w9J1 1 7 ?_|refine w9J1 0 8 ?_|refine w9J0 ?_|refine w9Jt 11 0 ?_|refine w9Jw 10 1 ?_|refine w9Jw 9 2 ?_|refine w9J3 8 3 4 9 ?_ ?_ ?_|refine w9J2 7 3 9 ?_ ?_|refine w9J2 7 3 4 ?_ ?_|refine w9J2 7 4 9 ?_ ?_|refine w9J2 6 5 9 ?_ ?_|refine w9J1 6 3 ?_|refine w9J1 6 4 ?_|refine w9Jt 5 6 ?_|refine w9J1 5 5 ?_|refine w9Jt 4 6 ?_|refine w9Jw 4 7 ?_|refine w9Jw 3 7 ?_|refine w9Jw 3 8 ?_|refine w9Jw 2 8 ?_|refine w9J1 2 9 ?_|refine w9J1 1 10 ?_|refine w9Jt 0 11 ?_|refine w9J0 ?_)|refine w9U 0 9 ?_|refine w9U 0 12 ?_|refine w9S @s_strEqT ?_|refine w9S @s_bld0 ?_|((with_reducible apply J.step);rfl;((with_reducible apply s_bldG)<;>(first|rfl|(solve|(repeat' (first|exact FillG.nil|(with_unfolding_all apply FillG.part rfl rfl rfl rfl rfl rfl rfl)))))))|((with_reducible apply J.step);rfl;((with_reducible apply s_ldFo)<;>(first|rfl|exact AV.noConfusion)))|refine w9x ?_|refine w9p (hN) ?_|refine w9f1 (hDo) ?_|(exact J.die1 hM rfl (.cons (.pl rfl rfl) .nil) rfl)
 all_goals first|(exfalso;omega)|(exfalso;contradiction)|skip
 all_goals done
theorem deed_open_d(s u:Str)(hu:nuB u=false)(hs:u.length≤9223372036854775807):FnDies Sy.P 94 [dkV A O k n,.str [111,112,101,110],swS [s,u]] [dkV A O k n,.str [111,112,101,110],swS [s,u]] (refd 12):=by
 have hN:=number_dies u hu hs
 refine FnDies.enter1 (S:=Sy) Tryz.func94 rfl rfl Tryz.ntmps94 rfl rfl fun v0=>?_
 repeat' first|((with_reducible refine w9i ?_);first|refine w9Jt 8 0 ?_|refine w9Jt 7 3 ?_|refine w9Jw 6 1 ?_|refine w9Jw 5 4 ?_|refine w9J2 4 2 5 ?_ ?_|refine w9J2 3 2 6 ?_ ?_|refine w9J1 3 5 ?_|refine w9J1 2 2 ?_|refine w9J1 2 6 ?_|refine w9J1 1 7 ?_|refine w9J1 0 8 ?_|refine w9J0 ?_|refine w9Jt 11 0 ?_|refine w9Jw 10 1 ?_|refine w9Jw 9 2 ?_|refine w9J3 8 3 4 9 ?_ ?_ ?_|refine w9J2 7 3 9 ?_ ?_|refine w9J2 7 3 4 ?_ ?_|refine w9J2 7 4 9 ?_ ?_|refine w9J2 6 5 9 ?_ ?_|refine w9J1 6 3 ?_|refine w9J1 6 4 ?_|refine w9Jt 5 6 ?_|refine w9J1 5 5 ?_|refine w9Jt 4 6 ?_|refine w9Jw 4 7 ?_|refine w9Jw 3 7 ?_|refine w9Jw 3 8 ?_|refine w9Jw 2 8 ?_|refine w9J1 2 9 ?_|refine w9J1 1 10 ?_|refine w9Jt 0 11 ?_|refine w9J0 ?_)|refine w9U 0 9 ?_|refine w9U 0 12 ?_|refine w9S @s_strEqT ?_|refine w9S @s_bld0 ?_|((with_reducible apply J.step);rfl;((with_reducible apply s_ldFo)<;>(first|rfl|exact AV.noConfusion)))|refine w9x ?_|(exact J.die1 hN rfl (.cons (.pl rfl rfl) .nil) rfl)
 all_goals first|(exfalso;omega)|(exfalso;contradiction)|skip
 all_goals done
end
end Go.Proofs.YtkkcnppgcnmikaaGreatDoor
