/- Both answer a line alike. -/
import Derived.Test.YtkkcnppgcnmikaaGreatDoorAde
import Derived.Test.YtkkcnppgcnmikaaGreatDoorAdf
import Derived.Test.YtkkcnppgcnmikaaGreatDoorAdfb
import Derived.Test.YtkkcnppgcnmikaaGreatDoorAdfc
import Derived.Test.YtkkcnppgcnmikaaGreatDoorAdfd
import Derived.Test.YtkkcnppgcnmikaaGreatDoorAef
import Derived.Test.YtkkcnppgcnmikaaGreatDoorAeg
import Derived.Test.YtkkcnppgcnmikaaGreatDoorAeh
import Derived.Test.YtkkcnppgcnmikaaGreatDoorAei
import Derived.Test.YtkkcnppgcnmikaaGreatDoorAdb
import Derived.Test.YtkkcnppgcnmikaaGreatDoorAbg
import Derived.Test.YtkkcnppgcnmikaaGreatDoorAbd
namespace Go.Proofs.YtkkcnppgcnmikaaGreatDoor
open Go FM Go.Proofs
set_option maxRecDepth 10000
set_option maxHeartbeats 3200000
set_option linter.all false
theorem wg_len:∀ (s cur:Str),(Xf.wg cur s).length≤s.length+1∧∀ x∈Xf.wg cur s,x.length≤cur.length+s.length
 | [],cur=>by
  unfold Xf.wg
  split
  ·exact⟨by simp,fun x hx=>by cases hx⟩
  ·exact⟨by simp,fun x hx=>by rw [List.mem_singleton.1 hx];simp⟩
 | b::r,cur=>by
  unfold Xf.wg
  have h1:=wg_len r []
  have h2:=wg_len r (cur++[b])
  rw [List.length_append,List.length_singleton] at h2
  rw [List.length_nil] at h1
  rw [List.length_cons]
  split
  ·split
   ·exact⟨by omega,fun x hx=>by have:=h1.2 x hx;omega⟩
   ·refine⟨by rw [List.length_cons];omega,fun x hx=>?_⟩
    rcases List.mem_cons.1 hx with rfl|hx
    ·omega
    ·have:=h1.2 x hx;omega
  ·exact⟨by omega,fun x hx=>by have:=h2.2 x hx;omega⟩
theorem nmF_range(K:Int):nmF K=0∨nmF K=1∨nmF K=2:=by
 unfold nmF;repeat' split
 all_goals simp
theorem asked_no12(w:Str)(l:List Str)(hk:kdF w≠0)(hl:l.length≤10000)(hs:∀ s∈l,s.length≤9223372036854775807):FnDies Sy.P 95 [.str w,swS l] [.str w,swS l] (refd 12):=by
 cases h:l.all nuB with
 | false=>exact asked_num w l h (by omega) hs
 | true=>exact asked_none w l h (by omega) (fun e=>hk (by rw [e.1];decide)) (fun e=>hk (by rw [e.1];decide)) (fun e=>hk (by rw [e.1];decide)) (fun e=>hk (by rw [e.1];decide))
section
variable (A:List Ac) (O:List Dl) (k:Str) (n:Int)
theorem deed_no(w:Str)(l:List Str)(h:¬ (kdF w≠0∧(l.length:Int)=lnF (kdF w))):FnSpec Sy.P 94 [dkV A O k n,.str w,swS l] [dkV A O k n,.str w,swS l] (.tup [.str [],.bool false]) :=
 deed_none A O k n w l (fun⟨e,g⟩=>h (by rw [e,g];decide)) (fun⟨e,g⟩=>h (by rw [e,g];decide)) (fun⟨e,g⟩=>h (by rw [e,g];decide)) (fun⟨e,g⟩=>h (by rw [e,g];decide)) (fun⟨e,g⟩=>h (by rw [e,g];decide)) (fun⟨e,g⟩=>h (by rw [e,g];decide)) (fun⟨e,g⟩=>h (by rw [e,g];decide))
abbrev refSp(line:Str)(A':List Ac)(O':List Dl)(k':Str)(n':Int)(t:Str):Prop:=FnSpec Sy.P 53 [hsR A O k n,.str line] [hsR A O k n,.str line] (.tup [hsR A' O' k' n',.str t])
theorem ref_bad(line:Str)(hl:line.length≤5000)(w:Str)(l:List Str)(hw:Xf.wg [] line=w::l)(hll:l.length≤10000)(hs:∀ s∈l,s.length≤9223372036854775807)(hb:(l.drop (nmF (kdF w)).toNat).all nuB=false):refSp A O k n line A O k n (rfS 12):=by
 obtain⟨K,hK⟩:∃ K,kdF w=K:=⟨_,rfl⟩
 rw [hK] at hb
 rcases nmF_range K with h|h|h
 ·rw [h] at hb
  exact ao_bad0 A O k n line hl w l hw K 0 hK h (by simp only [List.length_cons];omega) hll hb hs
 ·rw [h] at hb
  match l,hb,hw,hll,hs with
  | [],hb,_,_,_=>simp at hb
  | a::l',hb,hw,hll,hs=>exact ao_bad1 A O k n line hl w a l' hw K 1 hK h (by simp only [List.length_cons];omega) (by simp only [List.length_cons] at hll;omega) hb fun s h=>hs s (List.mem_cons_of_mem _ h)
 ·rw [h] at hb
  match l,hb,hw,hll,hs with
  | [],hb,_,_,_=>simp at hb
  | [a],hb,_,_,_=>simp at hb
  | a::b::l',hb,hw,hll,hs=>exact ao_bad2 A O k n line hl w a b l' hw K 2 hK h (by simp only [List.length_cons];omega) (by simp only [List.length_cons] at hll;omega) hb fun s h=>hs s (List.mem_cons_of_mem _ (List.mem_cons_of_mem _ h))
theorem ref_len(line:Str)(hl:line.length≤5000)(w:Str)(l:List Str)(hw:Xf.wg [] line=w::l)(hll:l.length≤10000)(hb:(l.drop (nmF (kdF w)).toNat).all nuB=true)(hk:kdF w≠0)(hne:(l.length:Int)≠lnF (kdF w)):refSp A O k n line A O k n (rfS 12):=by
 obtain⟨K,hK⟩:∃ K,kdF w=K:=⟨_,rfl⟩
 rw [hK] at hb hk hne
 rcases nmF_range K with h|h|h
 ·rw [h] at hb
  exact ao_len0 A O k n line hl w l hw K 0 hK h (by simp only [List.length_cons];omega) hll hb _ rfl hk (by simp only [List.length_cons];omega)
 ·rw [h] at hb
  match l,hb,hw,hll,hne with
  | [],hb,hw,hll,hne=>exact ao_len0 A O k n line hl w [] hw K 1 hK h (by simp only [List.length_cons,List.length_nil];omega) hll hb _ rfl hk (by simp only [List.length_cons,List.length_nil] at *;omega)
  | a::l',hb,hw,hll,hne=>exact ao_len1 A O k n line hl w a l' hw K 1 hK h (by simp only [List.length_cons];omega) (by simp only [List.length_cons] at hll;omega) hb _ rfl hk (by simp only [List.length_cons] at *;omega)
 ·rw [h] at hb
  match l,hb,hw,hll,hne with
  | [],hb,hw,hll,hne=>exact ao_len0 A O k n line hl w [] hw K 2 hK h (by simp only [List.length_cons,List.length_nil];omega) hll hb _ rfl hk (by simp only [List.length_cons,List.length_nil] at *;omega)
  | [a],hb,hw,hll,hne=>exact ao_len1 A O k n line hl w a [] hw K 2 hK h (by simp only [List.length_cons,List.length_nil];omega) (by simp) rfl _ rfl hk (by simp only [List.length_cons,List.length_nil] at *;omega)
  | a::b::l',hb,hw,hll,hne=>exact ao_len2 A O k n line hl w a b l' hw K 2 hK h (by simp only [List.length_cons];omega) (by simp only [List.length_cons] at hll;omega) hb _ rfl hk (by simp only [List.length_cons] at *;omega)
end
def Ans(s:Hs)(line:Str):Prop:=∃ s' t,(HsOk s'∧AmL s'.A)∧FnSpec Sy.P 52 [dkV s.A s.O s.k s.n,.str line] [dkV s'.A s'.O s'.k s'.n,.str line] (.str t)∧refSp s.A s.O s.k s.n line s'.A s'.O s'.k s'.n t
theorem ans12{s:Hs}{line:Str}(h:HsOk s∧AmL s.A)(hp:FnSpec Sy.P 52 [dkV s.A s.O s.k s.n,.str line] [dkV s.A s.O s.k s.n,.str line] (.str (rfS 12)))(hr:refSp s.A s.O s.k s.n line s.A s.O s.k s.n (rfS 12)):Ans s line:=⟨s,_,h,hp,hr⟩
theorem line_open{st:Hs}{line:Str}(h:HsOk st∧AmL st.A)(hl:line.length≤5000)(s u:Str)(hw:Xf.wg [] line=[111,112,101,110]::[s,u])(hu:([u]:List Str).all nuB=true)(hs:∀ x∈([s,u]:List Str),x.length≤9223372036854775807):Ans st line:=by
 have hu1:nuB u=true:=by simpa using hu
 obtain⟨s',t,m,e,hB,ha,he,ht,hm⟩:=do_small st h.1 h.2 (1,(nuV u),s,dl0,()) (by first|exact Nat.zero_le _|exact hs _ (by simp)) (by first|exact Nat.zero_le _|exact hs _ (by simp)) (by first|exact Nat.zero_le _|exact hs _ (by simp))
 have hrng:∀ x∈[t,m],0≤x∧x≤1000000000:=fun x hx=>by
  simp only [List.mem_cons,List.not_mem_nil,or_false] at hx
  rcases hx with rfl|rfl<;>omega
 have hF:=hB.f
 have hG:=hB.g
 by_cases c:e=0
 ·subst c
  exact⟨s',_,⟨hB.ok,ha⟩,ans_deed st.A st.O st.k st.n s'.A s'.O s'.k s'.n line hl _ _ hw _ (deed_open st.A st.O st.k st.n s'.A s'.O s'.k s'.n s u t m hu1 hF),ao_open st.A st.O st.k st.n s'.A s'.O s'.k s'.n line hl _ s u hw (by decide) hu t m hG⟩
 ·exact⟨s',_,⟨hB.ok,ha⟩,ans_deed_e st.A st.O st.k st.n s'.A s'.O s'.k s'.n e he line hl _ _ hw (deed_open_e st.A st.O st.k st.n s'.A s'.O s'.k s'.n s u t m e c hu1 hF),ao_open_e st.A st.O st.k st.n s'.A s'.O s'.k s'.n line hl _ s u hw (by decide) hu t m e (by omega) hG⟩
theorem line_build{st:Hs}{line:Str}(h:HsOk st∧AmL st.A)(hl:line.length≤5000)(s u:Str)(hw:Xf.wg [] line=[98,117,105,108,100]::[s,u])(hu:([u]:List Str).all nuB=true)(hs:∀ x∈([s,u]:List Str),x.length≤9223372036854775807):Ans st line:=by
 have hu1:nuB u=true:=by simpa using hu
 obtain⟨s',t,m,e,hB,ha,he,ht,hm⟩:=do_small st h.1 h.2 (3,(nuV u),s,dl0,()) (by first|exact Nat.zero_le _|exact hs _ (by simp)) (by first|exact Nat.zero_le _|exact hs _ (by simp)) (by first|exact Nat.zero_le _|exact hs _ (by simp))
 have hrng:∀ x∈[t,m],0≤x∧x≤1000000000:=fun x hx=>by
  simp only [List.mem_cons,List.not_mem_nil,or_false] at hx
  rcases hx with rfl|rfl<;>omega
 have hF:=hB.f
 have hG:=hB.g
 by_cases c:e=0
 ·subst c
  exact⟨s',_,⟨hB.ok,ha⟩,ans_deed st.A st.O st.k st.n s'.A s'.O s'.k s'.n line hl _ _ hw _ (deed_build st.A st.O st.k st.n s'.A s'.O s'.k s'.n s u t m hu1 hrng hF),ao_build st.A st.O st.k st.n s'.A s'.O s'.k s'.n line hl _ s u hw (by decide) hu t m hrng hG⟩
 ·exact⟨s',_,⟨hB.ok,ha⟩,ans_deed_e st.A st.O st.k st.n s'.A s'.O s'.k s'.n e he line hl _ _ hw (deed_build_e st.A st.O st.k st.n s'.A s'.O s'.k s'.n s u t m e c hu1 hF),ao_build_e st.A st.O st.k st.n s'.A s'.O s'.k s'.n line hl _ s u hw (by decide) hu t m e (by omega) hG⟩
theorem line_drop{st:Hs}{line:Str}(h:HsOk st∧AmL st.A)(hl:line.length≤5000)(s u:Str)(hw:Xf.wg [] line=[100,114,111,112]::[s,u])(hu:([u]:List Str).all nuB=true)(hs:∀ x∈([s,u]:List Str),x.length≤9223372036854775807):Ans st line:=by
 have hu1:nuB u=true:=by simpa using hu
 obtain⟨s',t,m,e,hB,ha,he,ht,hm⟩:=do_small st h.1 h.2 (7,(nuV u),s,dl0,()) (by first|exact Nat.zero_le _|exact hs _ (by simp)) (by first|exact Nat.zero_le _|exact hs _ (by simp)) (by first|exact Nat.zero_le _|exact hs _ (by simp))
 have hrng:∀ x∈[t,m],0≤x∧x≤1000000000:=fun x hx=>by
  simp only [List.mem_cons,List.not_mem_nil,or_false] at hx
  rcases hx with rfl|rfl<;>omega
 have hF:=hB.f
 have hG:=hB.g
 by_cases c:e=0
 ·subst c
  exact⟨s',_,⟨hB.ok,ha⟩,ans_deed st.A st.O st.k st.n s'.A s'.O s'.k s'.n line hl _ _ hw _ (deed_drop st.A st.O st.k st.n s'.A s'.O s'.k s'.n s u t m hu1 hF),ao_drop st.A st.O st.k st.n s'.A s'.O s'.k s'.n line hl _ s u hw (by decide) hu t m hG⟩
 ·exact⟨s',_,⟨hB.ok,ha⟩,ans_deed_e st.A st.O st.k st.n s'.A s'.O s'.k s'.n e he line hl _ _ hw (deed_drop_e st.A st.O st.k st.n s'.A s'.O s'.k s'.n s u t m e c hu1 hF),ao_drop_e st.A st.O st.k st.n s'.A s'.O s'.k s'.n line hl _ s u hw (by decide) hu t m e (by omega) hG⟩
theorem line_money{st:Hs}{line:Str}(h:HsOk st∧AmL st.A)(hl:line.length≤5000)(s:Str)(hw:Xf.wg [] line=[109,111,110,101,121]::[s])(hu:([]:List Str).all nuB=true)(hs:∀ x∈([s]:List Str),x.length≤9223372036854775807):Ans st line:=by
 obtain⟨s',t,m,e,hB,ha,he,ht,hm⟩:=do_small st h.1 h.2 (6,0,s,dl0,()) (by first|exact Nat.zero_le _|exact hs _ (by simp)) (by first|exact Nat.zero_le _|exact hs _ (by simp)) (by first|exact Nat.zero_le _|exact hs _ (by simp))
 have hrng:∀ x∈[t,m],0≤x∧x≤1000000000:=fun x hx=>by
  simp only [List.mem_cons,List.not_mem_nil,or_false] at hx
  rcases hx with rfl|rfl<;>omega
 have hF:=hB.f
 have hG:=hB.g
 by_cases c:e=0
 ·subst c
  exact⟨s',_,⟨hB.ok,ha⟩,ans_deed st.A st.O st.k st.n s'.A s'.O s'.k s'.n line hl _ _ hw _ (deed_money st.A st.O st.k st.n s'.A s'.O s'.k s'.n s t m hrng hF),ao_money st.A st.O st.k st.n s'.A s'.O s'.k s'.n line hl _ s hw (by decide) rfl t m hrng hG⟩
 ·exact⟨s',_,⟨hB.ok,ha⟩,ans_deed_e st.A st.O st.k st.n s'.A s'.O s'.k s'.n e he line hl _ _ hw (deed_money_e st.A st.O st.k st.n s'.A s'.O s'.k s'.n s t m e c hF),ao_money_e st.A st.O st.k st.n s'.A s'.O s'.k s'.n line hl _ s hw (by decide) rfl t m e (by omega) hG⟩
theorem line_sync{st:Hs}{line:Str}(h:HsOk st∧AmL st.A)(hl:line.length≤5000)(hw:Xf.wg [] line=[115,121,110,99]::[])(hu:([]:List Str).all nuB=true)(hs:∀ x∈([]:List Str),x.length≤9223372036854775807):Ans st line:=by
 obtain⟨s',t,m,e,hB,ha,he,ht,hm⟩:=do_small st h.1 h.2 (4,0,[],dl0,()) (by first|exact Nat.zero_le _|exact hs _ (by simp)) (by first|exact Nat.zero_le _|exact hs _ (by simp)) (by first|exact Nat.zero_le _|exact hs _ (by simp))
 have hrng:∀ x∈[t,m],0≤x∧x≤1000000000:=fun x hx=>by
  simp only [List.mem_cons,List.not_mem_nil,or_false] at hx
  rcases hx with rfl|rfl<;>omega
 have hF:=hB.f
 have hG:=hB.g
 by_cases c:e=0
 ·subst c
  exact⟨s',_,⟨hB.ok,ha⟩,ans_deed st.A st.O st.k st.n s'.A s'.O s'.k s'.n line hl _ _ hw _ (deed_sync st.A st.O st.k st.n s'.A s'.O s'.k s'.n  t m hF),ao_sync st.A st.O st.k st.n s'.A s'.O s'.k s'.n line hl _  hw (by decide) rfl t m hG⟩
 ·exact⟨s',_,⟨hB.ok,ha⟩,ans_deed_e st.A st.O st.k st.n s'.A s'.O s'.k s'.n e he line hl _ _ hw (deed_sync_e st.A st.O st.k st.n s'.A s'.O s'.k s'.n  t m e c hF),ao_sync_e st.A st.O st.k st.n s'.A s'.O s'.k s'.n line hl _  hw (by decide) rfl t m e (by omega) hG⟩
theorem line_crash{st:Hs}{line:Str}(h:HsOk st∧AmL st.A)(hl:line.length≤5000)(u:Str)(hw:Xf.wg [] line=[99,114,97,115,104]::[u])(hu:([u]:List Str).all nuB=true)(hs:∀ x∈([u]:List Str),x.length≤9223372036854775807):Ans st line:=by
 have hu1:nuB u=true:=by simpa using hu
 obtain⟨s',t,m,e,hB,ha,he,ht,hm⟩:=do_small st h.1 h.2 (5,(nuV u),[],dl0,()) (by first|exact Nat.zero_le _|exact hs _ (by simp)) (by first|exact Nat.zero_le _|exact hs _ (by simp)) (by first|exact Nat.zero_le _|exact hs _ (by simp))
 have hrng:∀ x∈[t,m],0≤x∧x≤1000000000:=fun x hx=>by
  simp only [List.mem_cons,List.not_mem_nil,or_false] at hx
  rcases hx with rfl|rfl<;>omega
 have hF:=hB.f
 have hG:=hB.g
 by_cases c:e=0
 ·subst c
  exact⟨s',_,⟨hB.ok,ha⟩,ans_deed st.A st.O st.k st.n s'.A s'.O s'.k s'.n line hl _ _ hw _ (deed_crash st.A st.O st.k st.n s'.A s'.O s'.k s'.n u t m hu1 hF),ao_crash st.A st.O st.k st.n s'.A s'.O s'.k s'.n line hl _ u hw (by decide) hu t m hG⟩
 ·exact⟨s',_,⟨hB.ok,ha⟩,ans_deed_e st.A st.O st.k st.n s'.A s'.O s'.k s'.n e he line hl _ _ hw (deed_crash_e st.A st.O st.k st.n s'.A s'.O s'.k s'.n u t m e c hu1 hF),ao_crash_e st.A st.O st.k st.n s'.A s'.O s'.k s'.n line hl _ u hw (by decide) hu t m e (by omega) hG⟩
theorem line_offer{st:Hs}{line:Str}(h:HsOk st∧AmL st.A)(hl:line.length≤5000)(s s2 u1 u2 u3 u4:Str)(hw:Xf.wg [] line=[111,102,102,101,114]::[s,s2,u1,u2,u3,u4])(hu:([u1,u2,u3,u4]:List Str).all nuB=true)(hs:∀ x∈([s,s2,u1,u2,u3,u4]:List Str),x.length≤9223372036854775807):Ans st line:=by
 obtain⟨s',t,m,e,hB,ha,he,ht,hm⟩:=do_small st h.1 h.2 (2,0,[],(s,s2,nuV u1,nuV u2,nuV u3,nuV u4,()),()) (by first|exact Nat.zero_le _|exact hs _ (by simp)) (by first|exact Nat.zero_le _|exact hs _ (by simp)) (by first|exact Nat.zero_le _|exact hs _ (by simp))
 have hrng:∀ x∈[t,m],0≤x∧x≤1000000000:=fun x hx=>by
  simp only [List.mem_cons,List.not_mem_nil,or_false] at hx
  rcases hx with rfl|rfl<;>omega
 have hF:=hB.f
 have hG:=hB.g
 by_cases c:e=0
 ·subst c
  exact⟨s',_,⟨hB.ok,ha⟩,ans_deed st.A st.O st.k st.n s'.A s'.O s'.k s'.n line hl _ _ hw _ (deed_offer st.A st.O st.k st.n s'.A s'.O s'.k s'.n s s2 u1 u2 u3 u4 t m hu hF),ao_offer st.A st.O st.k st.n s'.A s'.O s'.k s'.n line hl _ s s2 u1 u2 u3 u4 hw (by decide) hu t m hG⟩
 ·exact⟨s',_,⟨hB.ok,ha⟩,ans_deed_e st.A st.O st.k st.n s'.A s'.O s'.k s'.n e he line hl _ _ hw (deed_offer_e st.A st.O st.k st.n s'.A s'.O s'.k s'.n s s2 u1 u2 u3 u4 t m e c hu hF),ao_offer_e st.A st.O st.k st.n s'.A s'.O s'.k s'.n line hl _ s s2 u1 u2 u3 u4 hw (by decide) hu t m e (by omega) hG⟩
theorem ans_both{st:Hs}{line:Str}(h:HsOk st∧AmL st.A)(hl:line.length≤5000):Ans st line:=by
 have hwl:=wg_len line []
 cases hw:Xf.wg [] line with
 | nil=>exact ans12 h (ans_none st.A st.O st.k st.n line hl hw) (ao_none st.A st.O st.k st.n line hl hw)
 | cons w l =>
 rw [hw] at hwl
 have hll:l.length≤10000:=by have:=hwl.1;rw [List.length_cons] at this;omega
 have hs:∀ s∈l,s.length≤9223372036854775807:=fun s hx=>by
  have:=hwl.2 s (List.mem_cons_of_mem _ hx)
  rw [List.length_nil] at this;omega
 by_cases e_open:w=[111,112,101,110]∧l.length=2
 ·obtain⟨rfl,g⟩:=e_open
  match l,g,hw,hs with
  | [s,u],_,hw,hs =>
   cases hu:([u]:List Str).all nuB with
   | true=>exact line_open h hl s u hw hu hs
   | false=>exact ans12 h (ans_deed_e st.A st.O st.k st.n st.A st.O st.k st.n 12 (by decide) line hl _ _ hw (deed_open_d st.A st.O st.k st.n s u (by simpa using hu) (hs u (by simp)))) (ref_bad st.A st.O st.k st.n line hl _ _ hw (by simp) hs (by exact hu))
 by_cases e_offer:w=[111,102,102,101,114]∧l.length=6
 ·obtain⟨rfl,g⟩:=e_offer
  match l,g,hw,hs with
  | [s,s2,u1,u2,u3,u4],_,hw,hs =>
   cases hu:([u1,u2,u3,u4]:List Str).all nuB with
   | true=>exact line_offer h hl s s2 u1 u2 u3 u4 hw hu hs
   | false=>exact ans12 h (ans_deed_e st.A st.O st.k st.n st.A st.O st.k st.n 12 (by decide) line hl _ _ hw (deed_offer_d st.A st.O st.k st.n s s2 u1 u2 u3 u4 hu fun x hx=>hs x (by simp only [List.mem_cons,List.not_mem_nil,or_false] at hx ⊢;rcases hx with h|h|h|h<;>simp [h]))) (ref_bad st.A st.O st.k st.n line hl _ _ hw (by simp) hs (by exact hu))
 by_cases e_build:w=[98,117,105,108,100]∧l.length=2
 ·obtain⟨rfl,g⟩:=e_build
  match l,g,hw,hs with
  | [s,u],_,hw,hs =>
   cases hu:([u]:List Str).all nuB with
   | true=>exact line_build h hl s u hw hu hs
   | false=>exact ans12 h (ans_deed_e st.A st.O st.k st.n st.A st.O st.k st.n 12 (by decide) line hl _ _ hw (deed_build_d st.A st.O st.k st.n s u (by simpa using hu) (hs u (by simp)))) (ref_bad st.A st.O st.k st.n line hl _ _ hw (by simp) hs (by exact hu))
 by_cases e_drop:w=[100,114,111,112]∧l.length=2
 ·obtain⟨rfl,g⟩:=e_drop
  match l,g,hw,hs with
  | [s,u],_,hw,hs =>
   cases hu:([u]:List Str).all nuB with
   | true=>exact line_drop h hl s u hw hu hs
   | false=>exact ans12 h (ans_deed_e st.A st.O st.k st.n st.A st.O st.k st.n 12 (by decide) line hl _ _ hw (deed_drop_d st.A st.O st.k st.n s u (by simpa using hu) (hs u (by simp)))) (ref_bad st.A st.O st.k st.n line hl _ _ hw (by simp) hs (by exact hu))
 by_cases e_money:w=[109,111,110,101,121]∧l.length=1
 ·obtain⟨rfl,g⟩:=e_money
  match l,g,hw,hs with
  | [s],_,hw,hs =>
   exact line_money h hl s hw rfl hs
 by_cases e_sync:w=[115,121,110,99]∧l.length=0
 ·obtain⟨rfl,g⟩:=e_sync
  match l,g,hw,hs with
  | [],_,hw,hs =>
   exact line_sync h hl hw rfl hs
 by_cases e_crash:w=[99,114,97,115,104]∧l.length=1
 ·obtain⟨rfl,g⟩:=e_crash
  match l,g,hw,hs with
  | [u],_,hw,hs =>
   cases hu:([u]:List Str).all nuB with
   | true=>exact line_crash h hl u hw hu hs
   | false=>exact ans12 h (ans_deed_e st.A st.O st.k st.n st.A st.O st.k st.n 12 (by decide) line hl _ _ hw (deed_crash_d st.A st.O st.k st.n u (by simpa using hu) (hs u (by simp)))) (ref_bad st.A st.O st.k st.n line hl _ _ hw (by simp) hs (by exact hu))
 have hno:¬ (kdF w≠0∧(l.length:Int)=lnF (kdF w)):=by
  rintro⟨h1,h2⟩
  by_cases d_open:w=[111,112,101,110]
  ·refine e_open ⟨d_open,?_⟩
   rw [d_open,show lnF (kdF [111,112,101,110])=2 from by decide] at h2
   omega
  by_cases d_build:w=[98,117,105,108,100]
  ·refine e_build ⟨d_build,?_⟩
   rw [d_build,show lnF (kdF [98,117,105,108,100])=2 from by decide] at h2
   omega
  by_cases d_drop:w=[100,114,111,112]
  ·refine e_drop ⟨d_drop,?_⟩
   rw [d_drop,show lnF (kdF [100,114,111,112])=2 from by decide] at h2
   omega
  by_cases d_money:w=[109,111,110,101,121]
  ·refine e_money ⟨d_money,?_⟩
   rw [d_money,show lnF (kdF [109,111,110,101,121])=1 from by decide] at h2
   omega
  by_cases d_sync:w=[115,121,110,99]
  ·refine e_sync ⟨d_sync,?_⟩
   rw [d_sync,show lnF (kdF [115,121,110,99])=0 from by decide] at h2
   omega
  by_cases d_crash:w=[99,114,97,115,104]
  ·refine e_crash ⟨d_crash,?_⟩
   rw [d_crash,show lnF (kdF [99,114,97,115,104])=1 from by decide] at h2
   omega
  by_cases d_offer:w=[111,102,102,101,114]
  ·refine e_offer ⟨d_offer,?_⟩
   rw [d_offer,show lnF (kdF [111,102,102,101,114])=6 from by decide] at h2
   omega
  exact h1 (by simp only [kdF,d_open,d_build,d_drop,d_money,d_sync,d_crash,d_offer,if_false])
 have hD:=deed_no st.A st.O st.k st.n w l hno
 by_cases hk:kdF w=0
 ·cases hb:l.all nuB with
  | false =>
   refine ans12 h (ans_asked_e st.A st.O st.k st.n st.A st.O st.k st.n 12 (by decide) line hl _ _ hw hD (asked_num w l hb (by omega) hs)) (ref_bad st.A st.O st.k st.n line hl _ _ hw hll hs ?_)
   rw [hk];exact hb
  | true =>
   rcases num_both w l hb hll with⟨t,a,b⟩|⟨e,he,a,b⟩|⟨a,b⟩
   ·exact⟨st,t,h,ans_asked st.A st.O st.k st.n st.A st.O st.k st.n line hl _ _ hw t hD a,ao_reck st.A st.O st.k st.n line hl w l hw hk hll hb t b⟩
   ·exact⟨st,_,h,ans_asked_e st.A st.O st.k st.n st.A st.O st.k st.n e (by omega) line hl _ _ hw hD a,ao_reck st.A st.O st.k st.n line hl w l hw hk hll hb _ b⟩
   ·exact ans12 h (ans_asked_e st.A st.O st.k st.n st.A st.O st.k st.n 12 (by decide) line hl _ _ hw hD a) (ao_reck_no st.A st.O st.k st.n line hl w l hw hk hll hb b)
 ·have hP:=ans_asked_e st.A st.O st.k st.n st.A st.O st.k st.n 12 (by decide) line hl _ _ hw hD (asked_no12 w l hk hll hs)
  cases hb:(l.drop (nmF (kdF w)).toNat).all nuB with
  | false=>exact ans12 h hP (ref_bad st.A st.O st.k st.n line hl _ _ hw hll hs hb)
  | true=>exact ans12 h hP (ref_len st.A st.O st.k st.n line hl _ _ hw hll hb hk fun e=>hno ⟨hk,e⟩)
set_option maxHeartbeats 6400000
def rnS{α:Type}(nxt:α→Str→α)(out:α→Str→Str)(z:α×List Str)(line:Str):α×List Str:=if line=[] then z else(nxt z.1 line,z.2++[out z.1 line])
theorem rnS_take{α:Type}{nxt:α→Str→α}{out:α→Str→Str}{l:List Str}{k:Nat}(h:k<l.length)(z:α×List Str):(l.take (k+1)).foldl (rnS nxt out) z=rnS nxt out ((l.take k).foldl (rnS nxt out) z) l[k]:=by
 rw [List.take_succ_eq_append_getElem h,List.foldl_append];rfl
theorem rnS_len{α:Type}{nxt:α→Str→α}{out:α→Str→Str}:∀ (l:List Str) (z:α×List Str),(l.foldl (rnS nxt out) z).2.length≤z.2.length+l.length
 | [],z=>by simp
 | x::l,z=>by
  have:=rnS_len (nxt:=nxt) (out:=out) l (rnS nxt out z x)
  rw [List.foldl_cons,List.length_cons]
  have h:(rnS nxt out z x).2.length≤z.2.length+1:=by
   unfold rnS
   split
   ·omega
   ·simp only [List.length_append,List.length_singleton];omega
  omega
theorem rnS_keep{α:Type}{nxt:α→Str→α}{out:α→Str→Str}{P:α→Prop}:∀ (l:List Str) (z:α×List Str),(∀ s x,P s→x∈l→P (nxt s x))→P z.1→P (l.foldl (rnS nxt out) z).1
 | [],z,_,h=>h
 | x::l,z,hn,h=>by
  rw [List.foldl_cons]
  refine rnS_keep l _ (fun s y hs hy=>hn s y hs (List.mem_cons_of_mem _ hy)) ?_
  unfold rnS
  split
  ·exact h
  ·exact hn _ x h (List.mem_cons_self ..)
theorem Run_large(text:Str)(ht:text.length<4294967281)(h:4096<text.length∨60<(pieces text [10]).length):FnSpec Sy.P 14 [.str text] [.str text] (.tup [.nil,.int 2]):=by
 have hSp:=split_spec text [10] ht (by decide)
 generalize pieces text [10]=ps at *
 refine enT Tryz.func14 Tryz.ntmps14 fun v0=>?_
 repeat' first|refine w9x ?_|refine w9p (hSp) ?_|(refine w9c ?_ ?_<;>intro _<;>try exact w9o)|fail
 all_goals first|(exfalso;omega)|(exfalso;simp at *;omega)|exact .mk rfl rfl rfl
theorem Run_spec(text:Str)(ht:text.length≤4096)(hp:(pieces text [10]).length≤60)(P:Hs→Prop)(nxt:Hs→Str→Hs)(out:Hs→Str→Str)(h0:P ⟨[],[],[],0⟩)
  (hA:∀ s line,P s→line∈pieces text [10]→P (nxt s line)∧FnSpec Sy.P 52 [dkV s.A s.O s.k s.n,.str line] [dkV (nxt s line).A (nxt s line).O (nxt s line).k (nxt s line).n,.str line] (.str (out s line))) :
  FnSpec Sy.P 14 [.str text] [.str text] (.tup [.sl true 1 (((pieces text [10]).foldl (rnS nxt out) (⟨[],[],[],0⟩,[])).2.map .str),.int 0]):=by
 have hSp:=split_spec text [10] (by omega) (by decide)
 have hN:=new_spec
 generalize pieces text [10]=ps at *
 refine enT Tryz.func14 Tryz.ntmps14 fun v0=>?_
 repeat' first|(refine J.bldBox1 (xs:=[.sl false 3 (List.map acA []),.sl false 6 (List.map dlA []),lgO [] 0]) rfl rfl rfl rfl rfl rfl rfl ?_)|refine w9x ?_|refine w9p (hSp) ?_|refine w9p (hN) ?_|(refine w9c ?_ ?_<;>intro _<;>try exact w9o)|fail
 all_goals try exact w9o
 refine CW.leS (x:=.nil) 6 rfl (AV.le.nil (o:=true) (c:=1)) ?_
 refine CW.loop (fun z:Nat×Hs×List Str=>[(5,.av (dkV z.2.1.A z.2.1.O z.2.1.k z.2.1.n)),(6,.av (.sl true 1 (z.2.2.map .str))),(22,.ref 4),(4,.av (.sl true 1 (ps.map .str))),(23,.av (.int (ps.length))),(24,.av (.int (z.1)))]) (fun z=>z.1≤ps.length∧z.2=(ps.take z.1).foldl (rnS nxt out) (⟨[],[],[],0⟩,[])) (fun z=>ps.length-z.1) ((0,⟨[],[],[],0⟩,[])) ?_ (w9a) ?_
 ·exact⟨Nat.zero_le _,rfl⟩
 rintro⟨j,s,B⟩ ⟨hj,hz⟩
 dsimp only at hj hz ⊢
 by_cases hjl:j<ps.length
 ·have hx:ps[j]?=some ps[j]:=List.getElem?_eq_getElem hjl
  have hst:=rnS_take (nxt:=nxt) (out:=out) hjl (⟨[],[],[],0⟩,[])
  rw [← hz] at hst
  have hB:B.length≤60:=by
   have:=rnS_len (nxt:=nxt) (out:=out) (ps.take j) (⟨[],[],[],0⟩,[])
   rw [← hz,List.length_take] at this
   simp only [List.length_nil] at this
   omega
  have hPs:P s:=by
   have:=rnS_keep (nxt:=nxt) (out:=out) (P:=P) (ps.take j) (⟨[],[],[],0⟩,[]) (fun s x hs hx=>(hA s x hs (List.mem_of_mem_take hx)).1) h0
   rwa [← hz] at this
  obtain⟨_,hF⟩:=hA s ps[j] hPs (List.getElem_mem hjl)
  generalize ps[j]=line at *
  by_cases hl:line=[]
  ·unfold rnS at hst
   rw [if_pos hl] at hst
   subst hl
   repeat' first|refine w9x ?_|(refine w9c ?_ ?_<;>intro _<;>try exact w9o)|fail
   all_goals first|(exfalso;omega)|(exfalso;contradiction)|skip
   all_goals
    refine⟨(j+1,s,B),?_,w9n,w9a⟩
    exact⟨by simp only;omega,hst.symm⟩
  ·unfold rnS at hst
   rw [if_neg hl] at hst
   generalize nxt s line=s' at *
   generalize out s line=o' at *
   generalize hk':s'.k=k' at *
   repeat' first|refine w9x ?_|refine w9h (hF) ?_|(refine w9c ?_ ?_<;>intro _<;>try exact w9o)|fail
   all_goals first|(exfalso;omega)|(exfalso;contradiction)|skip
   all_goals
    subst hk'
    refine⟨(j+1,s',B++[o']),?_,w9n,by(repeat' (first|exact w9b|refine And.intro ?_ ?_))⟩
    exact⟨by simp only;omega,hst.symm⟩
 ·obtain rfl:j=ps.length:=by omega
  rw [List.take_length] at hz
  rw [← hz]
  repeat' first|refine w9x ?_|(refine w9c ?_ ?_<;>intro _<;>try exact w9o)|fail
  all_goals exact w9e
end Go.Proofs.YtkkcnppgcnmikaaGreatDoor
namespace FM
open Go Go.RowKit
set_option linter.all false
section
variable {S:Sys} {σ:St} {d ty:Nat} {pos:String} {aft:Array Edge} {g:Option (Nat×Bool)}
theorem rep_ptLe{L:Nat→Lab}{w:World}{π:Option (List Nat)}{v:Value}{cs cs':List AV}(hl:cs.length=cs'.length)(hle:∀ (i:Nat) x y,cs[i]?=some x→cs'[i]?=some y→AV.le x y)(h:Rep L w π (.pt true cs) v):Rep L w π (.pt true cs') v:=by
 cases h with
 | ptO u hL hb hsz hcell hr =>
  refine .ptO u hL hb (by rw [hsz,hl]) (fun o ho=>hcell o (by omega)) fun o y hy=>?_
  have ho:=(List.getElem?_eq_some_iff.1 hy).1
  have hx:cs[o]?=some cs[o]:=List.getElem?_eq_getElem (by omega)
  exact Rep.le (hle o _ y hx hy) (hr o _ hx)
theorem CW.ptLe{N:Nat}{c:Code}{Q:Exit→St→Prop}(s:Nat){cs cs':List AV}(hs:FM.get σ s=.av (.pt true cs))(hl:cs.length=cs'.length)(hle:∀ (i:Nat) x y,cs[i]?=some x→cs'[i]?=some y→AV.le x y)(h:CW S N c Q (σ.upd false s (.av (.pt true cs')))):CW S N c Q σ:=by
 unfold CW at *
 refine fun w0 L0 Q' a w hQ ⟨L,hR⟩=>h w0 L0 Q' a w hQ ⟨L,hR.defers,hR.size,hR.keep,hR.lok,fun n hn=>?_,fun n hn=>?_,hR.fix,hR.glob⟩
 ·simp only [FM.get]
  by_cases hsn:s=n
  ·subst hsn
   rw [Nat.beq_refl,cond_true]
   have:=hR.hold s hn
   rw [hs] at this
   exact rep_ptLe hl hle this
  ·rw [not_beq hsn,cond_false]
   have hh:=hR.hold n hn
   generalize FM.get σ n=tv at hh
   cases tv with
   | rref s' q y=>simp only [TV.stale];cases Nat.beq s' s<;>first|exact hh|trivial
   | ptr s' q c y=>simp only [TV.stale];cases Nat.beq s' s<;>first|exact hh|(obtain⟨k,h1,h2,_⟩:=hh;exact⟨k,h1,h2,fun h=>absurd rfl h⟩)
   | fpt s' q y=>simp only [TV.stale];cases Nat.beq s' s<;>first|exact hh|(obtain⟨k,h1,h2,_⟩:=hh;exact⟨k,h1,h2,fun h=>absurd rfl h⟩)
   | rptr s' q j y=>simp only [TV.stale];cases Nat.beq s' s<;>first|exact hh|trivial
   | bdp s' x=>simp only [TV.stale];cases Nat.beq s' s<;>first|exact hh|trivial
   | bor s' x=>simp only [TV.stale];cases Nat.beq s' s<;>first|exact hh|trivial
   | _=>exact hh
 ·simp only [FM.get]
  have:=own_lt hR hs (by simp)
  rw [not_beq (show s≠n by omega),cond_false,hR.out n hn];rfl
end
end FM
namespace Go.Proofs.YtkkcnppgcnmikaaGreatDoor
open Go FM Go.Proofs
set_option maxRecDepth 10000
set_option maxHeartbeats 6400000
set_option linter.all false
theorem house0:∀ (i:Nat) (x y:AV),[AV.nil,.nil,.str [],.int 0][i]?=some x→[AV.sl false 3 [],.sl false 6 [],.str [],.int 0][i]?=some y→AV.le x y:=fun i x y hx hy=>by
 match i with
 | 0=>cases hx;cases hy;exact .nil
 | 1=>cases hx;cases hy;exact .nil
 | 2=>cases hx;cases hy;exact .refl _
 | 3=>cases hx;cases hy;exact .refl _
 | i+4=>simp at hx
theorem RunOf_large(text:Str)(ht:text.length<4294967281)(h:4096<text.length∨60<(pieces text [10]).length):FnSpec Sy.P 15 [.str text] [.str text] (.tup [.nil,.int 2]):=by
 have hSp:=split_spec text [10] ht (by decide)
 generalize pieces text [10]=ps at *
 refine enT Tryz.func15 Tryz.ntmps15 fun v0=>?_
 repeat' first|refine w9x ?_|refine w9p (hSp) ?_|(refine w9c ?_ ?_<;>intro _<;>try exact w9o)|fail
 all_goals first|(exfalso;omega)|(exfalso;simp at *;omega)|exact .mk rfl rfl rfl
theorem RunOf_spec(text:Str)(ht:text.length≤4096)(hp:(pieces text [10]).length≤60)(P:Hs→Prop)(nxt:Hs→Str→Hs)(out:Hs→Str→Str)(h0:P ⟨[],[],[],0⟩)
  (hA:∀ s line,P s→line∈pieces text [10]→P (nxt s line)∧FnSpec Sy.P 53 [hsR s.A s.O s.k s.n,.str line] [hsR s.A s.O s.k s.n,.str line] (.tup [hsR (nxt s line).A (nxt s line).O (nxt s line).k (nxt s line).n,.str (out s line)])) :
  FnSpec Sy.P 15 [.str text] [.str text] (.tup [.sl true 1 (((pieces text [10]).foldl (rnS nxt out) (⟨[],[],[],0⟩,[])).2.map .str),.int 0]):=by
 have hSp:=split_spec text [10] (by omega) (by decide)
 generalize pieces text [10]=ps at *
 refine enT Tryz.func15 Tryz.ntmps15 fun v0=>?_
 repeat' first|refine w9S @s_bld0 ?_|refine w9x ?_|refine w9p (hSp) ?_|(refine w9c ?_ ?_<;>intro _<;>try exact w9o)|fail
 all_goals try exact w9o
 refine CW.leS (x:=.nil) 6 rfl (AV.le.nil (o:=true) (c:=1)) ?_
 refine CW.ptLe 5 (cs':=[.sl false 3 [],.sl false 6 [],.str [],.int 0]) rfl rfl house0 ?_
 refine CW.loop (fun z:Nat×Hs×List Str=>[(5,.av (.pt true (hsR z.2.1.A z.2.1.O z.2.1.k z.2.1.n).cells)),(6,.av (.sl true 1 (z.2.2.map .str))),(22,.ref 4),(4,.av (.sl true 1 (ps.map .str))),(23,.av (.int (ps.length))),(24,.av (.int (z.1)))]) (fun z=>z.1≤ps.length∧z.2=(ps.take z.1).foldl (rnS nxt out) (⟨[],[],[],0⟩,[])) (fun z=>ps.length-z.1) ((0,⟨[],[],[],0⟩,[])) ?_ (w9a) ?_
 ·exact⟨Nat.zero_le _,rfl⟩
 rintro⟨j,s,B⟩ ⟨hj,hz⟩
 dsimp only at hj hz ⊢
 by_cases hjl:j<ps.length
 ·have hx:ps[j]?=some ps[j]:=List.getElem?_eq_getElem hjl
  have hst:=rnS_take (nxt:=nxt) (out:=out) hjl (⟨[],[],[],0⟩,[])
  rw [← hz] at hst
  have hB:B.length≤60:=by
   have:=rnS_len (nxt:=nxt) (out:=out) (ps.take j) (⟨[],[],[],0⟩,[])
   rw [← hz,List.length_take] at this
   simp only [List.length_nil] at this
   omega
  have hPs:P s:=by
   have:=rnS_keep (nxt:=nxt) (out:=out) (P:=P) (ps.take j) (⟨[],[],[],0⟩,[]) (fun s x hs hx=>(hA s x hs (List.mem_of_mem_take hx)).1) h0
   rwa [← hz] at this
  obtain⟨_,hF⟩:=hA s ps[j] hPs (List.getElem_mem hjl)
  generalize ps[j]=line at *
  by_cases hl:line=[]
  ·unfold rnS at hst
   rw [if_pos hl] at hst
   subst hl
   repeat' first|refine w9x ?_|(refine w9c ?_ ?_<;>intro _<;>try exact w9o)|fail
   all_goals first|(exfalso;omega)|(exfalso;contradiction)|skip
   all_goals
    refine⟨(j+1,s,B),?_,w9n,w9a⟩
    exact⟨by simp only;omega,hst.symm⟩
  ·unfold rnS at hst
   rw [if_neg hl] at hst
   generalize nxt s line=s' at *
   generalize out s line=o' at *
   generalize hk':s'.k=k' at *
   repeat' first|((with_reducible refine w9i ?_);first|refine w9Jt 6 1 ?_|refine w9Jt 5 2 ?_|refine w9J2 4 0 3 ?_ ?_|refine w9J2 3 0 4 ?_ ?_|refine w9J1 3 3 ?_|refine w9J1 2 0 ?_|refine w9J1 2 4 ?_|refine w9J1 1 5 ?_|refine w9Jt 0 6 ?_|refine w9J0 ?_)|refine w9U 0 7 ?_|refine w9x ?_|refine w9p (hF) ?_|(refine w9c ?_ ?_<;>intro _<;>try exact w9o)|fail
   all_goals first|(exfalso;omega)|(exfalso;contradiction)|skip
   all_goals
    subst hk'
    refine⟨(j+1,s',B++[o']),?_,w9n,by(repeat' (first|exact w9b|refine And.intro ?_ ?_))⟩
    exact⟨by simp only;omega,hst.symm⟩
 ·obtain rfl:j=ps.length:=by omega
  rw [List.take_length] at hz
  rw [← hz]
  repeat' first|refine w9x ?_|(refine w9c ?_ ?_<;>intro _<;>try exact w9o)|fail
  all_goals exact w9e
end Go.Proofs.YtkkcnppgcnmikaaGreatDoor
namespace Go.Proofs.YtkkcnppgcnmikaaGreatDoor
open Go FM
set_option maxRecDepth 10000
set_option linter.all false
theorem eq_take_succT{α:Type}{a b:List α}(h:a.length=b.length){k:Nat}(hk:k<a.length)(hp:a.take k=b.take k)(hx:a[k]=b[k]'(by omega)):a.take (k+1)=b.take (k+1):=by
 rw [List.take_succ_eq_append_getElem hk,List.take_succ_eq_append_getElem (by omega:k<b.length),hp,hx]
theorem equalStr_spec(a b:List (List UInt8))(hb:a.length≤9223372036854775807):FnSpec Sy.P 16 [.sl false 1 (a.map .str),.sl false 1 (b.map .str)] [.sl false 1 (a.map .str),.sl false 1 (b.map .str)] (.bool (decide (a=b))):=by
 refine enT Tryz.func16 Tryz.ntmps16 fun v0=>?_
 by_cases hlen:a.length=b.length
 ·repeat' first|refine w9x ?_|(refine w9c ?_ ?_<;>intro _<;>try exact w9o)|fail
  refine CW.loop (fun k:Nat=>[(0,.av (.sl false 1 (a.map .str))),(1,.av (.sl false 1 (b.map .str))),(12,.av (.int (a.length))),(13,.av (.int (k)))]) (fun k=>k≤a.length∧a.take k=b.take k) (fun k=>a.length-k) (0) ?_ (w9a) ?_
  ·exact⟨Nat.zero_le _,rfl⟩
  intro k ⟨hk,hp⟩
  by_cases hlt:k<a.length
  ·have hx:a[k]?=some a[k]:=List.getElem?_eq_getElem hlt
   have hy:b[k]?=some (b[k]'(by omega)):=List.getElem?_eq_getElem (by omega)
   by_cases he:a[k]=b[k]'(by omega)
   ·repeat' first|refine w9x ?_|(refine w9c ?_ ?_<;>intro _<;>try exact w9o)|fail
    all_goals first|(exfalso;omega)|contradiction|skip
    refine⟨k+1,?_,w9n,w9a⟩
    exact⟨by omega,eq_take_succT hlen hlt hp he⟩
   ·repeat' first|refine w9x ?_|(refine w9c ?_ ?_<;>intro _<;>try exact w9o)|fail
    all_goals first|(exfalso;omega)|contradiction|skip
    rw [show decide (a=b)=false from decide_eq_false fun h=>by subst h;exact he rfl]
    exact .mk rfl rfl rfl
  ·repeat' first|refine w9x ?_|(refine w9c ?_ ?_<;>intro _<;>try exact w9o)|fail
   obtain rfl:a=b:=by rw [List.take_of_length_le (by omega),List.take_of_length_le (by omega)] at hp;exact hp
   simp only [decide_true]
   exact .mk rfl rfl rfl
 ·repeat' first|refine w9x ?_|(refine w9c ?_ ?_<;>intro _<;>try exact w9o)|fail
  have:decide (a=b)=false:=decide_eq_false fun h=>hlen (by rw [h])
  rw [this]
  exact .mk rfl rfl rfl
end Go.Proofs.YtkkcnppgcnmikaaGreatDoor
