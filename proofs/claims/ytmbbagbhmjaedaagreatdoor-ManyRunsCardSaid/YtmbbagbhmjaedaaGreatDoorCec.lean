/- Part of the proof. -/
import Derived.Test.YtmbbagbhmjaedaaGreatDoorCeb
import Derived.Conc.LoneCalls
set_option linter.all false
set_option maxRecDepth 100000
set_option maxHeartbeats 8000000
namespace CO
open Go Go.Conc Go.ConcN Go.RowKit Go.Conc.Lib Go.ConcR.Gen Go.ConcN.Gen
open Go.ConcR (KK wgBlock WgAt stA smA rd wr mk Payload Aside2 DC0)
variable {L:WgLink}
section
variable {G:cz} {F:World->Prop} {R:World->World->Prop} {End:Goroutine->World->Prop} {b₀:Frame} {a₀:Act} {ops₀:Array Oper} {i₀:Nat} {rest₀:List Nat} {k₀:List Item} {cs:List Frame} {mT:Nat}
theorem waitRound{P:Program}(H:WgLib P L)(aw:∀ {w ai:World},F w/\WgLive L.tWg G.Wg w->R w ai->F ai/\WgLive L.tWg G.Wg ai)(Ha:∀ {w ai:World},F w->Aside G.Wg w ai->WgLive L.tWg G.Wg ai->F ai)
  (hT:∀ w,F w->WgLive L.tWg G.Wg w->Goes P true R (DS G) End mT (Go.Conc.G (b₀.at (a₀.put ((ops₀[i₀]?).bind (·.dst)) (.tuple #[])) (.inRegion ops₀ rest₀::k₀)) cs) w)
  (g:Goroutine) (w:World) (h:AnchWN L F G.Wg (b₀.at a₀ (.inRegion ops₀ (i₀::rest₀)::k₀)) cs g w) :
  ∃ m,Goes P true R (DS G) (RM P L.tWg G.Wg R (DS G) End (AnchWN L F G.Wg (b₀.at a₀ (.inRegion ops₀ (i₀::rest₀)::k₀)) cs)) m g w:=by
 lib_facts
 obtain⟨T,rfl,aam,t0,hF⟩:=h;obtain⟨v0,v1,v2,v3,v4,v5,v6,v7,v8,v9,v10,v11,v12,v13,v14,v15,v16,v17,v18,v19,v20,v21,v22,v23,v24,v25,v26,v27,v28,v29,v30,v31,v32,v33,v34,v35,v36,v37,v38,v39,v40,v41,v42,v43,v44,v45,v46,v47,v48,v49,v50,v51,v52,v53,v54,v55,v56,v57,v58,v59,v60,v61,v62,v63,v64,v65,v66,v67,v68,v69,v70,v71,v72,v73,v74,v75,v76,v77,v78,v79,v80,v81,v82,v83,rfl⟩:=array84 T aam;simp only [List.getElem?_toArray,ahq,ahp] at t0;subst t0;refine⟨30,?_⟩;simp only [L7,body_wait,waitFn,ah8];u_c stepG_block aw hF;u_c stepG_seq aw hF;u_reg aw hF;u_op aw hF;u_op aw hF;u_op aw hF;u_call H.f_uLoad (nm_uLoad L) uLoadFn aw hF;u_c stepG_seq aw hF;u_reg aw hF;u_op aw hF;u_c stepG_region_end aw hF;u_c stepG_seq aw hF;u_reg aw hF;u_op aw hF;u_op aw hF;u_op aw hF;refine Goes.stop (fun ai dO=>?_);replace hF:=aw hF dO;clear dO;refine⟨rfl,fun v hv hw=>?_⟩;rcases aiD v with rfl|hvp
 ·replace hw:WgAt L.tWg G.Wg ai 0 0:=by simpa using hw
  refine⟨_,stepG_load_atomic (v:=0) rfl rfl (by k_ne) rfl H.f_loadU64 (x_loadU64_n L) (x_loadU64_b L) (x_loadU64_x L) .u64 (x_loadU64_f L) rfl hw.cellSt,fun _=>⟨50,?_⟩,fun h=>absurd rfl h⟩;clear hw
  walk_nrm
  u_op aw hF;u_c stepG_region_end aw hF;u_c stepG_ret' aw hF;u_leave1 H.f_uLoad aw hF;u_op aw hF;u_c stepG_region_end aw hF;u_c stepG_seq aw hF;u_reg aw hF;u_op aw hF;u_op aw hF;u_op aw hF;u_op aw hF;u_c stepG_region_end aw hF;u_c stepG_seq aw hF;u_reg aw hF;u_op aw hF;u_op aw hF;u_op aw hF;u_op aw hF;u_c stepG_region_end aw hF;u_c stepG_seq aw hF;u_c stepG_seq aw hF;u_reg aw hF;u_op aw hF;u_op aw hF;u_c stepG_region_end aw hF;u_cond true aw hF;u_c stepG_seq aw hF;u_cond true aw hF;u_c stepG_seq aw hF;u_reg aw hF;refine Goes.stop (fun aan J4=>?_);replace hF:=aw hF J4;clear J4;refine⟨rfl,_,stepG_mark0 .enable ag rfl rfl (by k_ne) rfl H.f_enable (x_enable_n L) (x_enable_b L) (x_enable_x L) (x_enable_f L),12,?_⟩
  walk_nrm
  u_c stepG_region_end aw hF;u_reg aw hF;u_op aw hF;u_conv H.underlying_tWgP H.room_tWg (WgLive.cell0 hF.2).choose_spec aw hF;refine Goes.stop (fun aao J5=>?_);replace hF:=aw hF J5;clear J5;refine⟨rfl,_,stepG_markAt .acquire ag rfl rfl (by k_ne) rfl H.f_acquire (x_acquire_n L) (x_acquire_b L) (x_acquire_x L) (x_acquire_f L) (by simp [Act.eval,stA]),⟨mT+20,?_⟩⟩
  walk_nrm
  u_c stepG_region_end aw hF;u_c stepG_seq aw hF;u_c stepG_seq aw hF;u_reg aw hF;u_op aw hF;u_op aw hF;u_op aw hF;u_op aw hF;u_op aw hF;u_op aw hF;u_op aw hF;u_op aw hF;u_skip aw hF;u_skip aw hF;u_op aw hF;u_c stepG_region_end aw hF;u_cond false aw hF;u_c stepG_skip aw hF;u_c stepG_ret' aw hF;u_leave0 H.f_wait aw hF;exact hT _ hF.1 hF.2
 ·obtain⟨S,hS⟩:∃ S:Int,(v:Int)*KK=S:=⟨_,rfl⟩;have a1:S / 4294967296=(v:Int):=by rw [<- hS];simp only [KK];omega
  have b1:bits .and .u64 S 2147483648=0:=by rw [<- hS];have:=st_flag v 0 ae ae;simpa [KK] using this
  have b2:bits .and .u64 S 2147483647=0:=by rw [<- hS];have:=st_waiters v 0 ae ae;simpa [KK] using this
  have c1:IntKind.i32.wrap (v:Int)=(v:Int):=by rw [IntKind.wrap_i32];omega
  have w1:IntKind.u64.wrap (S+1)=S+1:=by rw [IntKind.wrap_u64,<-hS];simp only [KK];omega
  have q3:decide ((v:Int)<0)=false:=decide_eq_false ae;have q4:decide (0<(v:Int))=true:=decide_eq_true ae;have q5:((v:Int)==0)=false:=by simp;omega
  have q6:decide ((v:Int)=0)=false:=decide_eq_false ae;rw [hS] at hw;refine⟨_,stepG_load_atomic (v:=S) rfl rfl (by k_ne) rfl H.f_loadU64 (x_loadU64_n L) (x_loadU64_b L) (x_loadU64_x L) .u64 (x_loadU64_f L) rfl hw.cellSt,fun h0=>absurd h0 ae,fun _=>⟨60,?_⟩⟩;clear hw
  walk_nrm
  u_op aw hF;u_c stepG_region_end aw hF;u_c stepG_ret' aw hF;u_leave1 H.f_uLoad aw hF;u_op aw hF;u_c stepG_region_end aw hF;u_c stepG_seq aw hF;u_reg aw hF;u_op aw hF;u_op aw hF;u_op aw hF;u_op aw hF;u_c stepG_region_end aw hF;u_c stepG_seq aw hF;u_reg aw hF;u_op aw hF;u_op aw hF;u_op aw hF;u_op aw hF;u_c stepG_region_end aw hF;u_c stepG_seq aw hF;u_c stepG_seq aw hF;u_reg aw hF;u_op aw hF;u_op aw hF;u_c stepG_region_end aw hF;u_cnd false aw hF;u_c stepG_skip aw hF;u_c stepG_seq aw hF;u_reg aw hF;u_op aw hF;u_op aw hF;u_op aw hF;u_op aw hF;u_op aw hF;u_op aw hF;u_call H.f_uCas (nm_uCas L) uCasFn aw hF;u_c stepG_seq aw hF;u_reg aw hF;u_op aw hF;u_c stepG_region_end aw hF;u_c stepG_seq aw hF;u_reg aw hF;u_op aw hF;u_op aw hF;u_op aw hF;u_op aw hF;u_op aw hF;refine Goes.stop (fun fQ xL=>?_);replace hF:=aw hF xL;clear xL;refine⟨rfl,fun v' tN hw=>⟨fun e=>?_,fun e=>?_⟩⟩
  ·subst e;rw [hS] at hw ⊢;refine⟨_,(stepG_cas_hit (v:=S) (n:=S+1) rfl rfl (by k_ne) rfl H.f_casU64 (x_casU64_n L) (x_casU64_b L) (x_casU64_x L) .u64 (x_casU64_f L) rfl rfl rfl hw.cellSt (hw.thaw 0)).trans (by rfl),70,?_⟩;have hL:WgLive L.tWg G.Wg (fQ.setCell (stA G.Wg) (.int .u64 (S+1))):=⟨_,_,hw.setSt _⟩;replace hF:F (fQ.setCell (stA G.Wg) (.int .u64 (S+1)))/\WgLive L.tWg G.Wg (fQ.setCell (stA G.Wg) (.int .u64 (S+1))):=⟨Ha hF.1 (aside_setCell fQ (stA G.Wg) _) hL,hL⟩;clear hw hL
   walk_nrm
   u_op aw hF;u_c stepG_region_end aw hF;u_c stepG_ret' aw hF;u_leave1 H.f_uCas aw hF;u_c stepG_region_end aw hF;u_cnd true aw hF;u_c stepG_seq aw hF;u_c stepG_seq aw hF;u_reg aw hF;u_op aw hF;u_op aw hF;u_op aw hF;u_op aw hF;u_c stepG_region_end aw hF;u_cnd true aw hF;u_reg aw hF;u_op aw hF;u_op aw hF;u_op aw hF;u_conv H.underlying_tPU32 H.room_tU32 (WgLive.cell1 hF.2).choose_spec aw hF;u_wrn aw hF
   walk_nrm
   u_c stepG_region_end aw hF;u_c stepG_seq aw hF;u_reg aw hF;u_op aw hF;u_c stepG_region_end aw hF;u_c stepG_seq aw hF;u_c stepG_seq aw hF;u_reg aw hF;u_op aw hF;u_op aw hF;u_op aw hF;u_op aw hF;u_skip aw hF;u_op aw hF;u_c stepG_region_end aw hF;u_cnd false aw hF;u_c stepG_skip aw hF;u_c stepG_seq aw hF;u_reg aw hF;u_op aw hF;u_op aw hF;u_op aw hF;u_op aw hF;refine Goes.stop (fun C0 uG=>?_);replace hF:=aw hF uG;clear uG;refine⟨rfl,rfl,fun⟨st,hw⟩=>stepG_semacquire_wait rfl rfl rfl H.f_semacquire (x_semacquire_n L) (x_semacquire_b L) (x_semacquire_x L) (x_semacquire_f L) (by simp [Act.eval,smA]) hw.cellSm,fun hf=>?_⟩;refine⟨_,(stepG_semacquire (n:=1) rfl rfl (by k_ne) rfl H.f_semacquire (x_semacquire_n L) (x_semacquire_b L) (x_semacquire_x L) (x_semacquire_f L) (by simp [Act.eval,smA]) hf.cellSm (by k_ne) (hf.thaw 1)).trans (by rfl),30,?_⟩;have hL:WgLive L.tWg G.Wg (C0.setCell (smA G.Wg) (.int .u32 0)):=⟨_,_,hf.setSm 0⟩;replace hF:F (C0.setCell (smA G.Wg) (.int .u32 0))/\WgLive L.tWg G.Wg (C0.setCell (smA G.Wg) (.int .u32 0)):=⟨Ha hF.1 (aside_setCell C0 (smA G.Wg) _) hL,hL⟩;clear hf hL
   walk_nrm
   u_c stepG_region_end aw hF;u_c stepG_seq aw hF;u_reg aw hF;u_op aw hF;u_op aw hF;u_op aw hF;u_call H.f_uLoad (nm_uLoad L) uLoadFn aw hF;u_c stepG_seq aw hF;u_reg aw hF;u_op aw hF;u_c stepG_region_end aw hF;u_c stepG_seq aw hF;u_reg aw hF;u_op aw hF;u_op aw hF;u_op aw hF;refine Goes.stop (fun afJ V2=>?_);replace hF:=aw hF V2;clear V2;refine⟨rfl,fun hw=>⟨_,stepG_load_atomic (v:=0) rfl rfl (by k_ne) rfl H.f_loadU64 (x_loadU64_n L) (x_loadU64_b L) (x_loadU64_x L) .u64 (x_loadU64_f L) rfl hw.cellSt,30,?_⟩⟩;clear hw
   walk_nrm
   u_op aw hF;u_c stepG_region_end aw hF;u_c stepG_ret' aw hF;u_leave1 H.f_uLoad aw hF;u_op aw hF;u_op aw hF;u_c stepG_region_end aw hF;u_c stepG_seq aw hF;u_cnd true aw hF;u_c stepG_seq aw hF;u_reg aw hF;refine Goes.stop (fun aan J4=>?_);replace hF:=aw hF J4;clear J4;refine⟨rfl,_,stepG_mark0 .enable ag rfl rfl (by k_ne) rfl H.f_enable (x_enable_n L) (x_enable_b L) (x_enable_x L) (x_enable_f L),12,?_⟩
   walk_nrm
   u_c stepG_region_end aw hF;u_reg aw hF;u_op aw hF;u_conv H.underlying_tWgP H.room_tWg (WgLive.cell0 hF.2).choose_spec aw hF;refine Goes.stop (fun aao J5=>?_);replace hF:=aw hF J5;clear J5;refine⟨rfl,_,stepG_markAt .acquire ag rfl rfl (by k_ne) rfl H.f_acquire (x_acquire_n L) (x_acquire_b L) (x_acquire_x L) (x_acquire_f L) (by simp [Act.eval,stA]),⟨mT+10,?_⟩⟩
   walk_nrm
   u_c stepG_region_end aw hF;u_c stepG_seq aw hF;u_c stepG_seq aw hF;u_reg aw hF;u_op aw hF;u_c stepG_region_end aw hF;u_cnd false aw hF;u_c stepG_skip aw hF;u_c stepG_ret' aw hF;u_leave0 H.f_wait aw hF;exact hT _ hF.1 hF.2
  ·refine⟨_,stepG_cas_miss (v:=(v':Int)*KK) (old:=S) (n:=S+1) rfl rfl (by k_ne) rfl H.f_casU64 (x_casU64_n L) (x_casU64_b L) (x_casU64_x L) .u64 (x_casU64_f L) rfl rfl rfl hw.cellSt (hw.thaw 0) (by rw [<- hS];simp only [KK];omega),20,?_⟩;clear hw
   walk_nrm
   u_op aw hF;u_c stepG_region_end aw hF;u_c stepG_ret' aw hF;u_leave1 H.f_uCas aw hF;u_c stepG_region_end aw hF;u_cnd false aw hF;u_c stepG_skip aw hF;u_c stepG_inBlock aw hF;u_c stepG_inLoop aw hF;refine Goes.stop (fun C0 uG=>?_);replace hF:=aw hF uG;exact⟨_,rfl,ag,ag,hF⟩
theorem waitStart{P:Program}(H:WgLib P L)(aw:∀ {w ai:World},F w/\WgLive L.tWg G.Wg w->R w ai->F ai/\WgLive L.tWg G.Wg ai)(w:World)(hF:F w/\WgLive L.tWg G.Wg w):
  Goes P true R (DS G) (Xo P R (DS G) (AnchWN L F G.Wg (b₀.at a₀ (.inRegion ops₀ (i₀::rest₀)::k₀)) cs)) 3 (Go.Conc.G ((base L.wait).at ⟨#[.pointer (some ⟨G.Wg,0,none⟩),undef,undef,undef,undef,undef,undef,undef,undef,undef,undef,undef,undef,undef,undef,undef,undef,undef,undef,undef,undef,undef,undef,undef,undef,undef,undef,undef,undef,undef,undef,undef,undef,undef,undef,undef,undef,undef,undef,undef,undef,undef,undef,undef,undef,undef,undef,undef,undef,undef,undef,undef,undef,undef,undef,undef,undef,undef,undef,undef,undef,undef,undef,undef,undef,undef,undef,undef,undef,undef,undef,undef,undef,undef,undef,undef,undef,undef,undef,undef,undef,undef,undef,undef],[]⟩ [.code (body_wait L)]) (b₀.at a₀ (.inRegion ops₀ (i₀::rest₀)::k₀)::cs)) w:=by
 lib_facts
 simp only [body_wait,waitFn,ah8];u_c stepG_seq aw hF;u_cond true aw hF;u_reg aw hF;refine Goes.stop (fun ai dO=>?_);replace hF:=aw hF dO;clear dO;refine⟨rfl,_,stepG_mark0 .disable ag rfl rfl (by k_ne) rfl H.f_disable (x_disable_n L) (x_disable_b L) (x_disable_x L) (x_disable_f L),3,?_⟩
 walk_nrm
 u_c stepG_region_end aw hF;u_c stepG_block aw hF;u_c stepG_loop aw hF;exact Goes.stop (fun fQ xL=>⟨_,rfl,ag,ag,aw hF xL⟩)
end
end CO
namespace CO
open Go Go.Conc Go.ConcN Go.RowKit
open Go.ConcR (KK WgAt stA smA rd wr mk DC0 ofEvent_cell)
section
variable {P:Program} {a:Act} {E:Event->Prop} {w:World} {d:Option Nat} {ty:Nat} {pos:String} {aft:Array Edge} {g:Option (Nat×Bool)}
theorem pn{t t2:TypeId}{x y:Operand}{m n:Int}(hx:a.eval x=.int .i64 m)(hy:a.eval y=.int .i64 n):xQ P a ⟨d,.binOp .lss t x y t2,ty,pos,aft,g⟩ E w (.bool (decide (m<n))):=by
 refine La (es:=#[]) ?_ ag;show((binOp .lss t (a.eval x) (a.eval y)).bind fun v=>(Sem.pure (Next.value v):Sem Next)).runT P w #[]=_;rw [hx,hy];rfl
theorem J6{t t2:TypeId}{x y:Operand}{m n:Int}(hx:a.eval x=.int .i64 m)(hy:a.eval y=.int .i64 n):xQ P a ⟨d,.binOp .add t x y t2,ty,pos,aft,g⟩ E w (.int .i64 (IntKind.i64.wrap (m+n))):=by
 refine La (es:=#[]) ?_ ag;show((binOp .add t (a.eval x) (a.eval y)).bind fun v=>(Sem.pure (Next.value v):Sem Next)).runT P w #[]=_;rw [hx,hy];rfl
theorem Nj{fn:Fn}{fs cs:Array Operand}:xQ P a ⟨d,.makeFunc fn fs cs,ty,pos,aft,g⟩ E w (.func fn (fs.map a.eval) (cs.map a.eval)):=La (es:=#[]) rfl ag
end
theorem Wk.C1{P:Program}{main:Bool}{R:World->World->Prop}{D:World->World->Array Event->Prop}{K:World->Prop}{Q:Goroutine->World->Prop}{E:Event->Prop}{b:Frame}{T:Array Value}{k:List Item}{cs:List Frame}{ops:Array Oper}{i:Nat}{rest:List Nat}{v:Value}(d:Nat){op:Op}{ty:TypeId}{pos:String}{aft:Array Edge}
  (hK:tl R K) (hD:Lets D E) (hb:b.kind≠.early) (ho:ops[i]?=some ⟨some d,op,ty,pos,aft,none⟩) (h:∀ w,K w->xQ P ⟨T,[]⟩ ⟨some d,op,ty,pos,aft,none⟩ E w v) (n:Wk P main R D K Q (Go.Conc.G (b.at ⟨T.setIfInBounds d v,[]⟩ (.inRegion ops rest::k)) cs)) :
  Wk P main R D K Q (Go.Conc.G (b.at ⟨T,[]⟩ (.inRegion ops (i::rest)::k)) cs) :=
 .op (a:=⟨T,[]⟩) hK hD hb ho rfl h n
def ES(G:cz)(e:Event):Prop:=∃ a,e=⟨.cell a,false,false⟩/\G.Rd a.block
theorem Nk{G:cz}(hG:G.Ok):Lets (DS G) (ES G):=fun w es h=>⟨fun _ _=>rfl,fun e he=>by
 obtain⟨a,rfl,ha⟩:=h e he
 refine⟨fun fn pos=>⟨rfl,fun y hy=>?_⟩,ag,ag,ag⟩
 simp only [ofEvent_cell,MemAct.touch?,ahp] at hy
 subst hy
 exact .inr ⟨fun⟨a',e,hb⟩=>by cases e;exact(hG.sh _ ha).2.1 hb,fun k _ _ ho=>ho ⟨a,rfl,ha⟩,fun e=>by cases e⟩⟩
section
variable {P:Program} {S:gE P}
theorem Kn.aside{w ai:World}(h:Kn S w)(ha:Aside S.G.Wg w ai)(hl:WgLive S.ty S.G.Wg ai):Kn S ai:=by
 have hG:=S.hG;refine Kn.rb (q:=none) h ⟨⟨fun b _ h1 _ _=>ha.block b h1⟩,fun cs e z hc=>⟨cs,(ha.block _ hG.wo.symm).trans hc,rfl,fun _ _ _ _=>rfl⟩,fun _=>hl,Nat.le_of_eq ha.size.symm⟩
end
end CO
namespace CO
open Go Go.Conc Go.ConcN
open Go.ConcR (KK WgAt stA smA rd wr mk DC0)
def mZ(G:cz)(B:Nat)(op:MemOp):Prop :=
 op.g=0/\(∀ x,op.act.touch?=some x->¬ ShN G.Wg x.loc/\∀ a,x.loc=.cell a->a.block≠G.O)/\op.act≠.mark .disable/\op.act≠.mark .enable/\op.act≠.mark (.release (stA G.Wg))/\op.act.low B
section
variable {P:Program} {S:gE P}
theorem GL(hn:0<S.n){a:Goroutine}{w:World}{sl:Option (Nat×Nat)}{t:Trace}(ht:∀ op∈t,mZ S.G w.heap.size op)(hk:Kn S w)(cq:WgAt S.ty S.G.Wg w 0 0){cap s r:Nat}(vl:w.heap[S.G.Ch]?=some (.chan cap ((List.range S.N).map fun q:Nat=>Value.int .i64 q).toArray true s r false))
  (Ms:Jx P S.ty S.G.Wg (dZ S.G S.ty) (DS S.G) S.n (fun j=>Child S (j+1)) (uD S) S.n a w):∃ μ,Inv S μ (crowd #[a] w sl) t:=by
 let H:Gh:=⟨⟨fun _ _=>False,fun _ _=>False⟩,fun _=>False,fun _ _=>False,fun _=>False⟩
 have aB:Com S H 0 #[a] w t (fun _=>⟨0,0,0⟩) (fun _=>.none) 0 (List.range S.N):=by
  refine⟨rfl,fun i hi=>absurd hi (ait i),CT.lone (fun op bU=>(ht op bU).1) fun op bU x hx=>((ht op bU).2.1 x hx).1,?_,?_,fun i hi=>absurd hi (ait i),fun i hi=>absurd hi (ait i),od fun op bU=>(ht op bU).2.2.2.2.2,hk,?_,fun i op x ho cr=>absurd (ht op (aih ho)).1 cr,fun i hi=>absurd hi (ait i)⟩
  ·have:=NoRelease.app (a:=stA S.G.Wg) (t:=#[]) (u:=t) (fun i hi=>by simp [Trace.act?] at hi) (fun op bU hm=>(ht op bU).2.2.2.2.1 hm);simpa using this
  ·have:=Deaf_still #[] 0 t fun op bU=>⟨(ht op bU).2.2.1,(ht op bU).2.2.2.1⟩;rw [aiH] at this;rw [this];rfl
  ·exact⟨⟨_,_,_,vl⟩,⟨fun _ _ _ h=>h.elim,fun _ _ _ h=>h.elim,fun _ _ h=>h.elim⟩,fun _ _ h=>h.elim,fun _ h=>h.elim,fun _ _ h=>h.elim,fun _ h=>h.elim,fun q hq=>.inl (List.mem_range.2 hq),fun q hq=>List.mem_range.1 hq,List.nodup_range,fun i hi=>absurd hi (ait i),fun _ _ h=>h.elim,fun _ h=>h.elim,fun i hi=>absurd hi (ait i),fun q hq b hb _ i x hx e=>by
    obtain⟨op,bU,aap⟩:=touch_of hx
    exact((ht op (aih bU)).2.1 x aap).2 b e hb⟩
 obtain⟨r',ng⟩:∃ r',S.n=r'+1:=⟨S.n-1,ae⟩;have aaq:Jx P S.ty S.G.Wg (dZ S.G S.ty) (DS S.G) S.n (fun j=>Child S (j+1)) (uD S) (r'+1) a w:=ng▸Ms;obtain⟨m,hm⟩:=aaq;have hc:CSit S (.sp r' 5) (S.n-(r'+1)) m 0 a w:=.skd ae hm;rw [show S.n-(r'+1)=0 by omega] at hc;have aL:Mode 0 (fun _=>(⟨0,0,0⟩:WD)) (.sp r' 5) 0 0:=by
  have:=Mode.opn (j:=0) (D:=fun _=>(⟨0,0,0⟩:WD)) (tag:=.sp r' 5) trivial (fun i hi=>ae) (fun vs e=>by cases e);simpa [Vc,sumTo,pend] using this
 exact⟨_,#[a],w,sl,H,0,_,_,List.range S.N,.sp r' 5,m,0,a,0,0,rfl,rfl,hc,aB,cq,aL,ag,rfl⟩
end
end CO
namespace CO
open Go Go.Conc Go.ConcN Go.RowKit
open Go.ConcR (KK WgAt stA smA rd wr mk DC0)
theorem mZ.mono{G:cz}{B B':Nat}{op:MemOp}(h:mZ G B op)(hb:B<=B'):mZ G B' op:=⟨h.1,h.2.1,h.2.2.1,h.2.2.2.1,h.2.2.2.2.1,MemAct.low_mono hb h.2.2.2.2.2⟩
structure Pref(P:Program)(G:cz)(a:Goroutine)(w:World)(a':Goroutine)(w':World):Prop where
 run:∃ k u,(∀ t:Trace,runNT P k (solo a w) t=(.next (solo a' w'),t++u))/\∀ op∈u,mZ G w'.heap.size op
 size:w.heap.size<=w'.heap.size
def J7(G:cz)(B:Nat)(e:Event):Prop :=
 (∃ a wr,e=⟨.cell a,wr,false⟩/\a.block≠G.Wg/\a.block≠G.O/\a.block<B)∨(∃ r wr s,e=⟨.obj r,wr,s⟩/\r<B)∨∃ f,e.loc=.mark (.extern f)∨e.loc=.mark .noRoom
theorem J7.lone{G:cz}{B:Nat}{e:Event}(h:J7 G B e)(fn:FuncId)(pos:String):mZ G B { g:=0,fn,pos,act:=.ofEvent e }:=by
 rcases h with⟨a,wr,rfl,h1,h2,h3⟩|⟨r,wr,s,rfl,h3⟩|⟨f,h⟩
 ·refine⟨rfl,fun x hx=>?_,by simp [MemAct.ofEvent],by simp [MemAct.ofEvent],by simp [MemAct.ofEvent],h3⟩;have eQ:some (⟨.cell a,wr,.plain⟩:Touch)=some x:=hx;cases eQ;exact⟨fun⟨a',e,hb⟩=>(by cases e;exact h1 hb),fun a' e=>(by cases e;exact h2)⟩
 ·refine⟨rfl,fun x hx=>?_,by cases wr<;>cases s<;>simp [MemAct.ofEvent],by cases wr<;>cases s<;>simp [MemAct.ofEvent],by cases wr<;>cases s<;>simp [MemAct.ofEvent],by cases wr<;>cases s<;>exact h3⟩;have:x.loc=.obj r:=by
   cases wr<;>cases s<;>simp [MemAct.ofEvent,MemAct.touch?] at hx<;>rw [<- hx]
  rw [this];exact⟨fun⟨a',e,_⟩=>(by cases e),fun a' e=>(by cases e)⟩
 ·obtain⟨l,wr,s⟩:=e;dsimp only at h;rcases h with rfl|rfl
  ·exact⟨rfl,fun x hx=>(by cases hx),by simp [MemAct.ofEvent],by simp [MemAct.ofEvent],by simp [MemAct.ofEvent],trivial⟩
  ·exact⟨rfl,fun x hx=>(by cases hx),by simp [MemAct.ofEvent],by simp [MemAct.ofEvent],by simp [MemAct.ofEvent],trivial⟩
section
variable {P:Program} {G:cz} {a a' Xt:Goroutine} {w w' Hz:World}
theorem Pref.refl:Pref P G a w a w:=⟨⟨0,#[],fun t=>by simp [runNT],fun op h=>by simp at h⟩,ahr _⟩
theorem Pref.trans(h:Pref P G a w a' w')(g:Pref P G a' w' Xt Hz):Pref P G a w Xt Hz:=by
 obtain⟨⟨k,u,h1,h2⟩,h3⟩:=h;obtain⟨⟨l,v,g1,g2⟩,g3⟩:=g;refine⟨⟨k+l,u++v,fun t=>?_,fun op bU=>?_⟩,ahZ h3 g3⟩
 ·rw [runNT_add,h1];dsimp only;rw [g1,Array.append_assoc]
 ·rcases Array.mem_append.1 bU with h|h
  ·exact(h2 op h).mono g3
  ·exact g2 op h
theorem Pref.go{es:Array Event}(hr:a.status=.running)(h:stepG P true a w=.go a' w' es)(he:∀ e∈es,J7 G w'.heap.size e)(hs:w.heap.size<=w'.heap.size):Pref P G a w a' w':=by
 refine⟨⟨1,MemOp.ofEvents 0 a.frame.fn a.frame.place es,fun t=>?_,fun op bU=>?_⟩,hs⟩
 ·rw [runNT_succ_next ((stepT_solo hr).trans (runT_solo_go h))];rfl
 ·rw [ofEvents_eq] at bU;obtain⟨e,hm,rfl⟩:=Array.mem_map.1 bU;exact(he e hm).lone _ _
theorem Pref.send{fr:Frame}{cs:List Frame}{c cap s r:Nat}{buf:Array Value}{v z':Value}{tm:Bool}(h:stepG P true (Go.Conc.G fr cs) w=.comm (Go.Conc.G fr cs) #[scase c v z'] true .send w #[])(hc:w.heap[c]?=some (.chan cap buf false s r tm))(fY:buf.size<cap) :
  Pref P G (Go.Conc.G fr cs) w (Go.Conc.G (fr.finish undef) cs) (w.setChan c cap (buf.push v) false (s+1) r tm):=by
 have fW:=(ahx.1 hc).1;have bc:(w.setChan c cap (buf.push v) false (s+1) r tm).heap.size=w.heap.size:=by simp [World.setChan]
 have aD:=crowd_send_room (P:=P) (gs:=#[Go.Conc.G fr cs]) (i:=0) (sl:=none) rfl h hc fY (by simp [partners,ph]);refine⟨⟨1,MemOp.ofEvents 0 (Go.Conc.G fr cs).frame.fn (Go.Conc.G fr cs).frame.place #[]++#[{ g:=0,fn:=(Go.Conc.G fr cs).frame.fn,pos:=(Go.Conc.G fr cs).frame.place,act:=.send c s },{ g:=0,fn:=(Go.Conc.G fr cs).frame.fn,pos:=(Go.Conc.G fr cs).frame.place,act:=.sendDone c s }],fun t=>?_,fun op bU=>?_⟩,Nat.le_of_eq bc.symm⟩
 ·rw [runNT_succ_next ((stepT_solo rfl).trans aD)];rfl
 ·rw [bc];rw [ofEvents_eq] at bU;simp only [List.map_toArray,List.map_nil,aiH,aiz,ah1,aiK,or_false] at bU;rcases bU with rfl|rfl
  ·exact⟨rfl,fun x hx=>(by cases hx),ag,ag,ag,fW⟩
  ·exact⟨rfl,fun x hx=>(by cases hx),ag,ag,ag,fW⟩
end
end CO
namespace CO
open Go Go.Conc Go.ConcN Go.RowKit
variable {t:TypeId}{x y:Operand}{v:Value}{id:Nat}{a:Goroutine}{T:Array Value}{Q:Goroutine->World->Prop}
section
variable {P:Program} {G:cz} {w w':World} {b:Frame} {T:Array Value} {k:List Item} {cs:List Frame} {ops:Array Oper} {i:Nat} {rest:List Nat} {v:Value} {op:Op} {ty:TypeId} {pos:String} {aft:Array Edge} {gd:Option (Nat×Bool)}
theorem Pref.ctl{a':Goroutine}(hr:a.status=.running)(h:stepG P true a w=.go a' w #[]):Pref P G a w a' w:=.go hr h ag (ahr _)
theorem Pref.C1(d:Nat)(ho:ops[i]?=some ⟨some d,op,ty,pos,aft,gd⟩)(hw:Region.wanted ⟨some d,op,ty,pos,aft,gd⟩ (yielded ops T)=true)(hb:b.kind≠.early)(h:(execOp (⟨T,[]⟩:Act).eval ⟨some d,op,ty,pos,aft,gd⟩).run P w=.ok (.value v) w')
  (he:∀ e∈(execOp (⟨T,[]⟩:Act).eval ⟨some d,op,ty,pos,aft,gd⟩).events P w #[],J7 G w'.heap.size e) (hs:w.heap.size<=w'.heap.size) :
  Pref P G (Go.Conc.G (b.at ⟨T,[]⟩ (.inRegion ops (i::rest)::k)) cs) w (Go.Conc.G (b.at ⟨T.setIfInBounds d v,[]⟩ (.inRegion ops rest::k)) cs) w' :=
 .go rfl (stepG_value (a:=⟨T,[]⟩) ho hw hb h) (fun e hm=>he e (mem_listed hm)) hs
theorem Pref.V3(d:Nat)(ho:ops[i]?=some ⟨some d,op,ty,pos,aft,gd⟩)(hw:Region.wanted ⟨some d,op,ty,pos,aft,gd⟩ (yielded ops T)=true)(hb:b.kind≠.early)(h:xQ P ⟨T,[]⟩ ⟨some d,op,ty,pos,aft,gd⟩ (J7 G w.heap.size) w v):
  Pref P G (Go.Conc.G (b.at ⟨T,[]⟩ (.inRegion ops (i::rest)::k)) cs) w (Go.Conc.G (b.at ⟨T.setIfInBounds d v,[]⟩ (.inRegion ops rest::k)) cs) w:=.C1 d ho hw hb h.1 h.2 (ahr _)
theorem Pref.opS(ho:ops[i]?=some ⟨none,op,ty,pos,aft,gd⟩)(hw:Region.wanted ⟨none,op,ty,pos,aft,gd⟩ (yielded ops T)=true)(hb:b.kind≠.early)(h:(execOp (⟨T,[]⟩:Act).eval ⟨none,op,ty,pos,aft,gd⟩).run P w=.ok .skip w'∨∃ v,(execOp (⟨T,[]⟩:Act).eval ⟨none,op,ty,pos,aft,gd⟩).run P w=.ok (.value v) w')
  (he:∀ e∈(execOp (⟨T,[]⟩:Act).eval ⟨none,op,ty,pos,aft,gd⟩).events P w #[],J7 G w'.heap.size e) (hs:w.heap.size<=w'.heap.size) :
  Pref P G (Go.Conc.G (b.at ⟨T,[]⟩ (.inRegion ops (i::rest)::k)) cs) w (Go.Conc.G (b.at ⟨T,[]⟩ (.inRegion ops rest::k)) cs) w':=by
 rcases h with h|⟨v,h⟩
 ·exact .go rfl (stepG_none (a:=⟨T,[]⟩) ho hw hb h) (fun e hm=>he e (mem_listed hm)) hs
 ·exact .go rfl (stepG_value (a:=⟨T,[]⟩) ho hw hb h) (fun e hm=>he e (mem_listed hm)) hs
theorem Pref.unw(d:Nat)(ho:ops[i]?=some ⟨some d,op,ty,pos,aft,gd⟩)(hw:Region.wanted ⟨some d,op,ty,pos,aft,gd⟩ (yielded ops T)=false):
  Pref P G (Go.Conc.G (b.at ⟨T,[]⟩ (.inRegion ops (i::rest)::k)) cs) w (Go.Conc.G (b.at ⟨T.setIfInBounds d undef,[]⟩ (.inRegion ops rest::k)) cs) w:=.ctl rfl (stepG_unwanted (a:=⟨T,[]⟩) ho hw)
theorem Pref.call{f:FuncId}{fn:Func}{c:Code}{args:Array Operand}{Ox:Array TypeId}{d:Option Nat}(ho:ops[i]?=some ⟨d,.call { callee:=.value (.func f),args,argTypes:=Ox },ty,pos,aft,none⟩)(hb:b.kind≠.early)
  (hf:P.funcs[f]?=some fn) (j3:(fn.name == "runtime.NumGoroutine")=false) (RY:fn.body=some c) :
  Pref P G (Go.Conc.G (b.at ⟨T,[]⟩ (.inRegion ops (i::rest)::k)) cs) w (Go.Conc.G (Frame.enter P f (args.map (⟨T,[]⟩:Act).eval) .normal) (b.at ⟨T,[]⟩ (.inRegion ops (i::rest)::k)::cs)) w:=by
 have bI:fn.body.isNone=false:=by rw [RY];rfl
 refine .ctl rfl ?_;rw [stepG_enter (a:=⟨T,[]⟩) ho rfl hb (run_call_body (a:=⟨T,[]⟩) rfl hf j3 bI)];have:listed P b.fn ⟨T,[]⟩ ⟨d,.call { callee:=.value (.func f),args,argTypes:=Ox },ty,pos,aft,none⟩ w=#[]:=by unfold listed;rw [events_call_body rfl hf j3 bI];exact Go.Conc.seen_none P _
 rw [this]
end
section
variable {P:Program} {a:Act} {w:World} {d:Option Nat} {ty:Nat} {pos:String} {aft:Array Edge} {g:Option (Nat×Bool)}
theorem jD(hx:a.eval x=v)(hc:v.cells=#[v]):(execOp a.eval ⟨d,.box t x,ty,pos,aft,g⟩).run P w=.ok (.value (.pointer (some ⟨w.heap.size,0,none⟩))) (w.alloc (.cells #[v] t (0,0)))/\(execOp a.eval ⟨d,.box t x,ty,pos,aft,g⟩).events P w #[]=#[]:=by
 subst hx;constructor
 ·simp [execOp,Instr.box,newVar,newRow,hc]
 ·simp [execOp,Instr.box,newVar,newRow,hc]
theorem fg{i:TypeInfo}{z:Value}(hi:P.info? t=some i)(hz:i.zero=some z):(execOp a.eval ⟨d,.alloc t,ty,pos,aft,g⟩).run P w=.ok (.value (.pointer (some ⟨w.heap.size,0,none⟩))) (w.alloc (.cells z.cells t (0,0)))/\(execOp a.eval ⟨d,.alloc t,ty,pos,aft,g⟩).events P w #[]=#[]:=by
 constructor
 ·simp [execOp,Instr.alloc,zeroValue,typeInfo,newVar,newRow,hi,hz]
 ·simp [execOp,Instr.alloc,zeroValue,typeInfo,newVar,newRow,hi,hz]
theorem tt{b o:Nat}{cur:Array Value}{e:TypeId}(hs:(P.info? t).map (·.size)=some 1)(hx:a.eval x=.pointer (some ⟨b,o,none⟩))(hy:a.eval y=v)(hcv:v.cells=#[v])(h0:v.oneCell'=true)(hg:w.heap[b]?=some (.cells cur e (0,0)))(hl:o<cur.size):
  (execOp a.eval ⟨d,.store t x y,ty,pos,aft,g⟩).run P w=.ok .skip (w.setRow b (cur.setIfInBounds o v))/\(execOp a.eval ⟨d,.store t x y,ty,pos,aft,g⟩).events P w #[]=#[⟨.cell ⟨b,o,none⟩,true,false⟩]:=by
 obtain⟨inf,hi,bc⟩:=ahs.1 hs;have Hd:w.cell? ⟨b,o,none⟩=some cur[o]:=by simp [World.cell?,hg,hl]
 have VZ:w.frozen? ⟨b,o,none⟩=false:=by simp [World.frozen?,hg]
 have J1:(store ((⟨b,o,none⟩:Addr).add 0) v).run P w=.ok () (w.setRow b (cur.setIfInBounds o v)):=by
  rw [iS,run_store P w _ v _ h0,aib,Hd];simp [VZ,setCell_eq_setRow w b o cur e (0,0) v hg]
 have RZ:∀ es,(store ((⟨b,o,none⟩:Addr).add 0) v).events P w es=es.push ⟨.cell ⟨b,o,none⟩,true,false⟩:=fun es=>by
  rw [iS,events_store P w es _ v _ h0,aib,Hd];simp only [VZ,ahD,if_false];rfl
 have jh:(Go.sizeOf t).run P w=.ok 1 w:=by simp [Go.sizeOf,typeInfo,hi,bc]
 have R1:∀ es,(Go.sizeOf t).events P w es=es:=fun es=>by simp [Go.sizeOf,typeInfo,hi]
 constructor
 ·simp only [execOp,Instr.storeAt,hx,hy,Instr.sureAddr,storeVar];simp [jh,hcv,storeCells,J1]
 ·simp only [execOp,Instr.storeAt,hx,hy,Instr.sureAddr,storeVar];simp [jh,R1,hcv,storeCells,J1,RZ]
theorem J8{E:Event->Prop}{t2:TypeId}{m n:Int}(hx:a.eval x=.int .i64 m)(hy:a.eval y=.int .i64 n):xQ P a ⟨d,.binOp .gtr t x y t2,ty,pos,aft,g⟩ E w (.bool (decide (n<m))):=by
 refine La (es:=#[]) ?_ ag;show((binOp .gtr t (a.eval x) (a.eval y)).bind fun v=>(Sem.pure (Next.value v):Sem Next)).runT P w #[]=_;rw [hx,hy];rfl
theorem xS{E:Event->Prop}{z:Operand}{q:Bool}(hx:a.eval x=.bool q)(hv:(if q then a.eval y else a.eval z)=v):xQ P a ⟨d,.pick x y z,ty,pos,aft,g⟩ E w v:=by
 refine La (es:=#[]) ?_ ag;show((asBool (a.eval x)).bind fun q=>(Sem.pure (Next.value (if q then a.eval y else a.eval z)):Sem Next)).runT P w #[]=_;rw [hx,<-hv];rfl
theorem C2{E:Event->Prop}{e rt:TypeId}{ad:Option Addr}{l c:Nat}(hu:P.underlying t=some (.slice e))(hx:a.eval x=.slice ad l c):xQ P a ⟨d,.call { callee:=.builtin .len,args:=#[x],argTypes:=#[t] },ty,pos,aft,g⟩ E w (.int .i64 l):=by
 have ua:(#[x].map a.eval)=#[Value.slice ad l c]:=by rw [<- hx];simp
 constructor
 ·simp only [execOp,resolve,invoke,builtin,ua];simp [Builtin.len_,run_underlying hu];rfl
 ·simp only [execOp,resolve,invoke,builtin,ua];simp [Builtin.len_,run_underlying hu]
theorem J9(t e:TypeId)(i:TypeInfo)(z:Value)(ht:P.underlying t=some (.slice e))(hi:P.info? e=some i)(hz:i.zero=some z)(c:Int)(h0:0<=c)(R2:(i.bytes:Int)*c<=281474976710656)(XN:c<=9223372036854775807):
  ∀ ev∈(Instr.makeSlice t (.int .i64 c) (.int .i64 c)).events P w #[],ev.loc=.mark .noRoom:=by
 by_cases fY:c.toNat*i.bytes<=140737488355328
 ·rw [events_make w t e i z ht hi hz .i64 .i64 c c h0 (Int.le_refl _) R2 XN fY];simp
 ·have wc:IntKind.i64.wrap c=c:=by rw [IntKind.wrap_i64];omega
  have n1:¬ c<0:=ae;have n2:¬ (281474976710656<(i.bytes:Int)*c):=ae;have n5:140737488355328<c.toNat*i.bytes:=ae;have Vh:(Sem.mark Mark.noRoom (Sem.pure ())).run P w=.ok () w:=rfl;obtain⟨e0,Uw,hm3⟩:∃ e0,(Sem.mark Mark.noRoom (Sem.pure ())).events P w #[]=#[e0]/\e0.loc=.mark .noRoom:=⟨_,rfl,rfl⟩;by_cases hn:c.toNat*i.size=0
  ·simp [Instr.makeSlice,run_underlying ht,asInt,asIntOf,typeInfo,hi,Go.sizeOf,wc,n1,n2,n5,hn,newRow,askRoom,roomBytes,Go.mark,Vh,Uw,hm3]
  ·simp [Instr.makeSlice,run_underlying ht,asInt,asIntOf,typeInfo,hi,Go.sizeOf,zeroValue,hz,wc,n1,n2,n5,newRow,askRoom,roomBytes,Go.mark,Vh,Uw,hm3]
end
def PrefTo(P:Program)(G:cz)(a:Goroutine)(w:World)(Q:Goroutine->World->Prop):Prop:=∃ a' w',Pref P G a w a' w'/\Q a' w'
theorem PrefTo.stop{P:Program}{G:cz}{w:World}(h:Q a w):PrefTo P G a w Q:=⟨a,w,.refl,h⟩
theorem PrefTo.qp{P:Program}{G:cz}{a1:Goroutine}{w w1:World}(h:Pref P G a w a1 w1)(n:PrefTo P G a1 w1 Q):PrefTo P G a w Q:=let ⟨a',w',h1,h2⟩:=n;⟨a',w',h.trans h1,h2⟩
structure TS(n:Nat)(l:List (Nat×Value))(T:Array Value):Prop where
 size:T.size=n
 get:∀ (i:Nat) {v:Value},l.lookup i=some v->T.getD i undef=v
theorem TS.nil{n:Nat}(h:T.size=n):TS n [] T:=⟨h,fun i v e=>by cases e⟩
theorem TS.add{n:Nat}{l:List (Nat×Value)}(h:TS n l T)(d:Nat)(hd:T.getD d undef=v):TS n ((d,v)::l) T:=⟨h.size,fun i u e=>by
 rw [List.lookup_cons] at e
 by_cases hi:i=d
 ·subst hi;simp at e;rw [hd,e]
 ·rw [show(i==d)=false by simpa using hi] at e;exact h.get i e⟩
theorem TS.set{n:Nat}{l:List (Nat×Value)}(h:TS n l T)(d:Nat)(v:Value)(hd:Nat.blt d n=true):TS n ((d,v)::l) (T.setIfInBounds d v):=⟨by simpa using h.size,fun i u e=>by
 have hd:d<n:=by have:=ah3 hd;omega
 rw [List.lookup_cons] at e
 by_cases hi:i=d
 ·subst hi;simp at e;rw [cM _ _ (by rw [h.size];exact hd),e]
 ·rw [show(i==d)=false by simpa using hi] at e;rw [cj _ _ (Ne.symm hi)];exact h.get i e⟩
section
variable {P:Program} {G:cz} {w w':World} {b:Frame} {a:Act} {k:List Item} {cs:List Frame} {Q:Goroutine->World->Prop}
theorem PrefTo.fh{x y:Code}(n:PrefTo P G (Go.Conc.G (b.at a (.code x::.code y::k)) cs) w Q):PrefTo P G (Go.Conc.G (b.at a (.code (.seq x y)::k)) cs) w Q:=.qp (.ctl rfl stepG_seq) n
theorem PrefTo.iU{ops:Array Oper}{l:List Nat}(hl:List.range ops.size=l)(n:PrefTo P G (Go.Conc.G (b.at a (.inRegion ops l::k)) cs) w Q):PrefTo P G (Go.Conc.G (b.at a (.code (.region id ops false)::k)) cs) w Q:=.qp (.ctl rfl (by rw [stepG_region,hl])) n
theorem PrefTo.iV{ops:Array Oper}(n:PrefTo P G (Go.Conc.G (b.at a k) cs) w Q):PrefTo P G (Go.Conc.G (b.at a (.inRegion ops []::k)) cs) w Q:=.qp (.ctl rfl stepG_region_end) n
theorem PrefTo.C3{c:Code}(n:PrefTo P G (Go.Conc.G (b.at a (.code c::.inBlock id::k)) cs) w Q):PrefTo P G (Go.Conc.G (b.at a (.code (.block id c)::k)) cs) w Q:=.qp (.ctl rfl stepG_block) n
theorem PrefTo.Ka(n:PrefTo P G (Go.Conc.G (b.at a k) cs) w Q):PrefTo P G (Go.Conc.G (b.at a (.inBlock id::k)) cs) w Q:=.qp (.ctl rfl stepG_inBlock) n
theorem PrefTo.OK{c:Code}(n:PrefTo P G (Go.Conc.G (b.at a (.code c::.inLoop c::k)) cs) w Q):PrefTo P G (Go.Conc.G (b.at a (.code (.loop c)::k)) cs) w Q:=.qp (.ctl rfl stepG_loop) n
theorem PrefTo.Nl{c:Code}(n:PrefTo P G (Go.Conc.G (b.at a (.code c::.inLoop c::k)) cs) w Q):PrefTo P G (Go.Conc.G (b.at a (.inLoop c::k)) cs) w Q:=.qp (.ctl rfl stepG_inLoop) n
theorem PrefTo.AH{c:Operand}{x y:Code}{t:Bool}(ht:a.eval c=.bool t)(n:PrefTo P G (Go.Conc.G (b.at a (.code (if t then x else y)::k)) cs) w Q):PrefTo P G (Go.Conc.G (b.at a (.code (.cond c x y)::k)) cs) w Q:=.qp (.ctl rfl (stepG_cond ht)) n
theorem PrefTo.OL(n:PrefTo P G (Go.Conc.G (b.at a k) cs) w Q):PrefTo P G (Go.Conc.G (b.at a (.code .skip::k)) cs) w Q:=.qp (.ctl rfl stepG_skip) n
theorem PrefTo.V4{k':List Item}(he:exitTo id k=some k')(n:PrefTo P G (Go.Conc.G (b.at a k') cs) w Q):PrefTo P G (Go.Conc.G (b.at a (.code (.exit id)::k)) cs) w Q:=.qp (.ctl rfl (stepG_exit he)) n
end
section
variable {P:Program} {G:cz} {w w':World} {b:Frame} {T:Array Value} {k:List Item} {cs:List Frame} {ops:Array Oper} {i:Nat} {rest:List Nat} {v:Value} {op:Op} {ty:TypeId} {pos:String} {aft:Array Edge} {Q:Goroutine->World->Prop}
theorem PrefTo.cV(d:Nat)(ho:ops[i]?=some ⟨some d,op,ty,pos,aft,none⟩)(hb:b.kind≠.early)(h:xQ P ⟨T,[]⟩ ⟨some d,op,ty,pos,aft,none⟩ (J7 G w.heap.size) w v)(n:PrefTo P G (Go.Conc.G (b.at ⟨T.setIfInBounds d v,[]⟩ (.inRegion ops rest::k)) cs) w Q):
  PrefTo P G (Go.Conc.G (b.at ⟨T,[]⟩ (.inRegion ops (i::rest)::k)) cs) w Q:=.qp (.V3 d ho rfl hb h) n
theorem PrefTo.tV{n:Nat}{l:List (Nat×Value)}(hT:TS n l T)(d:Nat)(hd:Nat.blt d n=true)(ho:ops[i]?=some ⟨some d,op,ty,pos,aft,none⟩)(hb:b.kind≠.early)(h:xQ P ⟨T,[]⟩ ⟨some d,op,ty,pos,aft,none⟩ (J7 G w.heap.size) w v)(n:∀ T,TS n ((d,v)::l) T->PrefTo P G (Go.Conc.G (b.at ⟨T,[]⟩ (.inRegion ops rest::k)) cs) w Q) :
  PrefTo P G (Go.Conc.G (b.at ⟨T,[]⟩ (.inRegion ops (i::rest)::k)) cs) w Q:=.cV d ho hb h (n _ (hT.set d v hd))
theorem PrefTo.cW(d:Nat)(ho:ops[i]?=some ⟨some d,op,ty,pos,aft,none⟩)(hb:b.kind≠.early)(h:(execOp (⟨T,[]⟩:Act).eval ⟨some d,op,ty,pos,aft,none⟩).run P w=.ok (.value v) w'/\∀ e∈(execOp (⟨T,[]⟩:Act).eval ⟨some d,op,ty,pos,aft,none⟩).events P w #[],J7 G w'.heap.size e)(hs:w.heap.size<=w'.heap.size)(n:PrefTo P G (Go.Conc.G (b.at ⟨T.setIfInBounds d v,[]⟩ (.inRegion ops rest::k)) cs) w' Q):
  PrefTo P G (Go.Conc.G (b.at ⟨T,[]⟩ (.inRegion ops (i::rest)::k)) cs) w Q:=.qp (.C1 d ho rfl hb h.1 h.2 hs) n
theorem PrefTo.cS(ho:ops[i]?=some ⟨none,op,ty,pos,aft,none⟩)(hb:b.kind≠.early)(h:((execOp (⟨T,[]⟩:Act).eval ⟨none,op,ty,pos,aft,none⟩).run P w=.ok .skip w'∨∃ v,(execOp (⟨T,[]⟩:Act).eval ⟨none,op,ty,pos,aft,none⟩).run P w=.ok (.value v) w')/\∀ e∈(execOp (⟨T,[]⟩:Act).eval ⟨none,op,ty,pos,aft,none⟩).events P w #[],J7 G w'.heap.size e)(hs:w.heap.size<=w'.heap.size)(n:PrefTo P G (Go.Conc.G (b.at ⟨T,[]⟩ (.inRegion ops rest::k)) cs) w' Q):
  PrefTo P G (Go.Conc.G (b.at ⟨T,[]⟩ (.inRegion ops (i::rest)::k)) cs) w Q:=.qp (.opS ho rfl hb h.1 h.2 hs) n
end
end CO
