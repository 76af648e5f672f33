/- The law CheckOperateIsMeant: for every input it returns true, and its arguments read behind the call as they read before; what the package-level variables of the library hold is tied to the text of the program. Part 12. -/
import Derived.Test.YtapeaicongaggaaGreatDoorQ41z11
set_option linter.unusedVariables false
set_option linter.defProp false
set_option linter.unusedSimpArgs false
set_option linter.unnecessarySimpa false
set_option maxRecDepth 100000
set_option maxHeartbeats 8000000
namespace Go.Proofs.YtapeaicongaggaaGreatDoor
open Go Go.RowKit Go.Proofs.Tryz
section
open Go.ChangeShapes Go.WideShapes Go.ChangeAt
def qdX:∀ t∈f3.params.toList,prog.readableRec t=true/\t < prog.types.size:=by
 rw [params3];intro t ht;simp only [aW,eQ,ea] at ht;rcases ht with rfl|rfl|rfl<;>exact ⟨by kernel_rfl,cU V⟩
def qds(H:Type)(enc:TypeId×Value->H)(W:World)(base:Nat)(args:Array Value)(ds gs:List (DataW H))(before:List MemPlace)
  (hval:∀ (j:Nat) t v,f3.params[j]?=some t->args[j]?=some v->Value.okWide prog W .any base t v)
  (hW:DataW.Whole enc prog f3.params.toList Rows.checkOperateIsMeantSpec.vars false W args.toList ds gs before) (hL:laidMetH prog Rows.checkOperateIsMeantRow.laid W) :
  Calls prog 3 args W λe W'=>∃ v,e=.returned v/\Rows.checkOperateIsMeantSpec.post enc prog f3 false true false false W args v W':=by
 have hW':=hW;obtain ⟨p,q,hA0,hV,rfl,hfz,lQ⟩:=hW';have hA:DataW.TrodAll enc prog W 0 (λ_=>true) true f3.params.toList args.toList ds p:=hA0;rw [params3] at hA hval;obtain ⟨v0,vs0,d0,ds0,p0,q0,hargs0,rfl,rfl,h0,r0⟩:=trodAll_cons hA;obtain ⟨v1,vR,d1,ds1,p1,q1,hargs1,rfl,rfl,h1,r1⟩:=trodAll_cons r0;obtain ⟨v2,yx,d2,ds2,p2,q2,hargs2,rfl,rfl,h2,r2⟩:=trodAll_cons r1;obtain ⟨rfl,rfl,rfl⟩:=trodAll_nil r2;obtain rfl:args=#[v0,v1,v2]:=by cases args;simp_all
 obtain ⟨rfl,rfl⟩:=trodVars_none hV;obtain ⟨k0,rfl,rfl,rfl,wk0⟩:=open_int underlying3 (hval 0 3 v0 rfl rfl) h0;obtain ⟨k1,rfl,rfl,rfl,wk1⟩:=open_int underlying22 (hval 1 22 v1 rfl rfl) h1;obtain ⟨k2,rfl,rfl,rfl,wk2⟩:=open_int underlying22 (hval 2 22 v2 rfl rfl) h2;refine (qrb (args:=[_,_,_]) λD=>qoS [] W (qI3 hL) k0 k1 k2 (qyl wk1) (qyl wk2)).mono λe W' ⟨he,hg⟩=>?_;subst he;exact ⟨_,rfl,quj quh qdX V underlying4 rfl hW rfl hg⟩
def qdK(os:Os)(started:os.Started)(H:Type)(enc:TypeId×Value->H):
  ReturnsInHanded {} checked os 3 .any (λw args=>(Rows.checkOperateIsMeantSpec.pre enc prog f3 [] false w args/\laidMetH prog Rows.checkOperateIsMeantRow.laid w)/\sizedMet enc prog f3 (OpenSpec.ofChange Rows.checkOperateIsMeantSpec) false w args) (Rows.checkOperateIsMeantSpec.post enc prog f3 false true false false):=by
 refine returnsInHanded_of_change_and (C:=checked) (X:=λw _=>laidMetH prog Rows.checkOperateIsMeantRow.laid w) (λ_ _ _ hh h=>h.of_heap hh) quL started V func3
  (ChangeSpec.witness_shaped (enc:=enc) (C:=checked) (os:=os) (X:=λw _=>laidMetH prog Rows.checkOperateIsMeantRow.laid w) false (World.laidAll prog os Rows.checkOperateIsMeantRow.laid) #[iJ 0,iO 0,iO 0] 8 (World.laidAll_os _ _ _)
   (World.shaped_of_ZipB V V) V V V
   (by rw [gq _ _ _ V];exact laidMet_laidAll _ V V)) ?_
 intro W base args ds gs before hval hW _ _ hL _;exact qds H enc W base args ds gs before hval hW hL
def qev:(Rows.checkOperateIsMeantRow.inPlace == Tryz.pinned.checked.prog.inPlace 3)=true:=by kernel_rfl
def qew:(Rows.checkOperateIsMeantRow.unfollowed == Tryz.pinned.checked.prog.unfollowed 3)=true:=by kernel_rfl
def qex:(Rows.checkOperateIsMeantRow.recurses == Tryz.pinned.checked.prog.recurses 3)=true:=by kernel_rfl
def qey:(Rows.checkOperateIsMeantRow.named == Tryz.pinned.checked.prog.varsNamed 3)=true:=by kernel_rfl
def qeJ:joinedFacts Tryz.pinned.checked.prog 3 f3 Rows.checkOperateIsMeantSpec Rows.checkOperateIsMeantRow=true:=by
 unfold joinedFacts;rw [qev,qew,qex,qey];kernel_rfl
def qd4:Rows.CheckOperateIsMeantSaid:=
 OpenClaim.holds_of_wide 3 f3 rfl rfl rfl rfl rfl rfl rfl ⟨rfl,rfl,rfl,rfl,rfl⟩ rfl rfl rfl rfl rfl V func3 qeJ
  (cU V) (by unfold Func.isWrapper;first|(rw [aw (by decide +kernel)];kernel_rfl)|(rw [am (by decide +kernel)];exact ⟨rfl,rfl⟩))
  (λos started H enc _=>qdK os started H enc)
def qdW(f:FuncId)(fn:Func)(hf:Tryz.pinned.checked.prog.funcNamed Rows.checkOperateIsMeantRow.func=some f)(hfn:Tryz.pinned.checked.prog.funcs[f]?=some fn):true=Tryz.pinned.checked.prog.looks []/\∀ (j:Nat) t,fn.params[j]?=some t->Tryz.pinned.checked.prog.wantsStandIn t=false:=by
 obtain rfl:f=3:=cD ((show prog.funcNamed Rows.checkOperateIsMeantRow.func=some 3 by kernel_rfl).symm.trans hf) |>.symm;obtain rfl:fn=f3:=(cD (func3.symm.trans hfn)).symm;exact ⟨by kernel_rfl,λj t ht=>by
  rw [params3] at ht;have hm:t∈[3,22,22]:=by simpa using Array.mem_of_getElem? ht
  have qF:([3,22,22].all λu=>!prog.wantsStandIn u)=true:=by kernel_rfl
  exact (show prog.wantsStandIn t=false by simpa using List.all_eq_true.1 qF t hm)⟩
theorem checkOperateIsMeant_holds : Rows.CheckOperateIsMeantCardSaid :=
 Claim7.holds_tied_plain_at .later [] _ _ _ _ qd4 (λ_ h=>by cases h) V (λ_ h=>by cases h) checkOperateIsMeant_row_tie rfl ⟨rfl,rfl⟩ V rfl qdW V
end
end Go.Proofs.YtapeaicongaggaaGreatDoor
