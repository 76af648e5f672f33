/- The law CompileImagesKeepPace: for every input it returns true, and its arguments read behind the call as they read before; what the package-level variables of the library hold is tied to the text of the program. Part 11. -/
import Derived.Test.YtlfiplbamnpgoaaGreatDoorQ40x10
set_option linter.unusedSectionVars false
set_option linter.unusedVariables false
set_option linter.defProp false
set_option linter.unusedSimpArgs false
set_option linter.unnecessarySimpa false
set_option maxRecDepth 100000
set_option maxHeartbeats 8000000
namespace Go.Proofs.YtlfiplbamnpgoaaGreatDoor
open Go.Proofs.Tryz
open Go Go.FL Go.ChangeShapes Go.WideShapes Go.ChangeAt Go.RowKit
def kpR:∀ t∈f4.params.toList,prog.readableRec t=true/\t < prog.types.size:=by
 rw [params4];intro t ht;simp only [List.mem_cons,List.not_mem_nil,or_false] at ht;rcases ht with rfl|rfl|rfl<;>exact ⟨by kernel_rfl,of_decide_eq_true V⟩
def kpC(H:Type)(enc:TypeId×Value->H)(W:World)(base:Nat)(args:Array Value)(ds gs:List (DataW H))(before:List MemPlace)
  (hval:∀ (j:Nat) t v,f4.params[j]?=some t->args[j]?=some v->Value.okWide prog W .any base t v)
  (hW:DataW.Whole enc prog f4.params.toList Rows.compileImagesKeepPaceSpec.vars false W args.toList ds gs before) (hL:laidMetH prog Rows.compileImagesKeepPaceRow.laid W) :
  Calls prog 4 args W λe W'=>∃ v,e=.returned v/\Rows.compileImagesKeepPaceSpec.post enc prog f4 false true false false W args v W':=by
 have hW':=hW;obtain ⟨p,q,hA0,hV,rfl,hfz,hnd⟩:=hW';have hA:DataW.TrodAll enc prog W 0 (λ_=>true) true f4.params.toList args.toList ds p:=hA0;rw [params4] at hA hval;obtain ⟨v0,vs0,d0,ds0,p0,q0,hargs0,rfl,rfl,h0,r0⟩:=trodAll_cons hA;obtain ⟨v1,vs1,d1,ds1,p1,q1,hargs1,rfl,rfl,h1,r1⟩:=trodAll_cons r0;obtain ⟨v2,vs2,d2,ds2,p2,q2,hargs2,rfl,rfl,h2,r2⟩:=trodAll_cons r1;obtain ⟨rfl,rfl,rfl⟩:=trodAll_nil r2;obtain rfl:args=#[v0,v1,v2]:=by cases args;simp_all
 obtain ⟨rfl,rfl⟩:=trodVars_none hV;obtain ⟨m0,p0,Ag0,Af0,ng0,cg0,nf0,cf0,rfl,hGl0,hFn0⟩:=qxf (hval 0 25 v0 rfl rfl) h0;obtain ⟨A1,n1,c1,l1,rfl,hB1⟩:=qoa (hval 1 26 v1 rfl rfl) h1;obtain ⟨k2,rfl,rfl,rfl,wk2⟩:=open_int underlying3 (hval 2 3 v2 rfl rfl) h2;refine (qpl (args:=[_,_,_]) λD=>lawPace_ac D [] W (qFn hL) m0 p0 Ag0 Af0 ng0 cg0 nf0 cf0 hGl0 hFn0 A1 n1 c1 l1 hB1 k2).mono λe W' ⟨he,hg⟩=>?_;subst he;exact ⟨_,rfl,qsh qsg kpR V underlying4 rfl hW rfl hg⟩
def kpL(os:Os)(started:os.Started)(H:Type)(enc:TypeId×Value->H) :
  ReturnsInHanded {} checked os 4 .any (λw args=>(Rows.compileImagesKeepPaceSpec.pre enc prog f4 [] false w args/\laidMetH prog Rows.compileImagesKeepPaceRow.laid w)/\sizedMet enc prog f4 (OpenSpec.ofChange Rows.compileImagesKeepPaceSpec) false w args) (Rows.compileImagesKeepPaceSpec.post enc prog f4 false true false false):=by
 refine returnsInHanded_of_change_and (C:=checked) (X:=λw _=>laidMetH prog Rows.compileImagesKeepPaceRow.laid w) (λ_ _ _ hh h=>h.of_heap hh) qsE started V func4
  (ChangeSpec.witness_shaped (enc:=enc) (C:=checked) (os:=os) (X:=λw _=>laidMetH prog Rows.compileImagesKeepPaceRow.laid w) false (World.laidAll prog os Rows.compileImagesKeepPaceRow.laid) #[.agg #[.slice none 0 0,.slice none 0 0],.slice none 0 0,.int .i64 0] 8 (World.laidAll_os _ _ _)
   (World.shaped_of_ZipB V V) V V V
   (by rw [MakeChecks.laidMetH_plain _ _ _ V];exact laidMet_laidAll _ V V)) ?_
 intro W base args ds gs before hval hW _ _ hL _;exact kpC H enc W base args ds gs before hval hW hL
def kpS:Rows.CompileImagesKeepPaceSaid:=
 OpenClaim.holds_of_wide 4 f4 rfl rfl rfl rfl rfl rfl rfl ⟨rfl,rfl,rfl,rfl,rfl⟩ rfl rfl rfl rfl rfl V func4 V
  (of_decide_eq_true V) (by unfold Func.isWrapper;first|(rw [if_pos (by decide +kernel)];kernel_rfl)|(rw [if_neg (by decide +kernel)];exact ⟨rfl,rfl⟩))
  (λos started H enc _=>kpL os started H enc)
def kpP(f:FuncId)(fn:Func)(hf:Tryz.pinned.checked.prog.funcNamed Rows.compileImagesKeepPaceRow.func=some f)(hfn:Tryz.pinned.checked.prog.funcs[f]?=some fn):true=Tryz.pinned.checked.prog.looks []/\∀ (j:Nat) t,fn.params[j]?=some t->Tryz.pinned.checked.prog.wantsStandIn t=false:=by
 obtain rfl:f=4:=Option.some.inj ((show prog.funcNamed Rows.compileImagesKeepPaceRow.func=some 4 by kernel_rfl).symm.trans hf) |>.symm;obtain rfl:fn=f4:=(Option.some.inj (func4.symm.trans hfn)).symm;exact ⟨by kernel_rfl,λj t ht=>by
  rw [params4] at ht;have hm:t∈[25,26,3]:=by simpa using Array.mem_of_getElem? ht
  have hall:([25,26,3].all λu=>!prog.wantsStandIn u)=true:=by kernel_rfl
  exact (show prog.wantsStandIn t=false by simpa using List.all_eq_true.1 hall t hm)⟩
theorem compileImagesKeepPace_holds : Rows.CompileImagesKeepPaceCardSaid :=
 Claim7.holds_tied_plain_at .later [] _ _ _ _ kpS (λ_ h=>by cases h) V (λ_ h=>by cases h) compileImagesKeepPace_row_tie rfl ⟨rfl,rfl⟩ V rfl kpP V

end Go.Proofs.YtlfiplbamnpgoaaGreatDoor
