/- The law CompileSimplifiedProgramsAgree: for every input it returns true, and its arguments read behind the call as they read before; what the package-level variables of the library hold is tied to the text of the program. Part 12. -/
import Derived.Test.YtemgonlhniicbaaGreatDoorQ42z11
set_option linter.unusedVariables false
set_option linter.defProp false
set_option linter.unusedSimpArgs false
set_option linter.unnecessarySimpa false
set_option maxRecDepth 100000
set_option maxHeartbeats 8000000
namespace Go.Proofs.YtemgonlhniicbaaGreatDoor
open Go Go.RowKit Go.Proofs.Tryz
section
open Go.ChangeShapes Go.WideShapes Go.ChangeAt
def qcB:∀ t∈f3.params.toList,prog.readableRec t=true/\t < prog.types.size:=by
 rw [params3];intro t ht;simp only [aR,dO,dU] at ht;rcases ht with rfl|rfl|rfl<;>exact ⟨V,cV V⟩
def qch(H:Type)(enc:TypeId×Value->H)(W:World)(base:Nat)(args:Array Value)(ds gs:List (DataW H))(before:List MemPlace)
  (hval:∀ (j:Nat) t v,f3.params[j]?=some t->args[j]?=some v->Value.okWide prog W .any base t v)
  (hW:DataW.Whole enc prog f3.params.toList Rows.compileSimplifiedProgramsAgreeSpec.vars false W args.toList ds gs before) (hL:laidMetH prog Rows.compileSimplifiedProgramsAgreeRow.laid W) :
  Calls prog 3 args W λe W'=>∃ v,e=.returned v/\Rows.compileSimplifiedProgramsAgreeSpec.post enc prog f3 false true false false W args v W':=by
 have hW':=hW;obtain ⟨p,q,hA0,hV,rfl,hfz,kO⟩:=hW';have hA:DataW.TrodAll enc prog W 0 (λ_=>true) true f3.params.toList args.toList ds p:=hA0;rw [params3] at hA hval;obtain ⟨v0,vs0,d0,ds0,p0,q0,hargs0,rfl,rfl,h0,r0⟩:=trodAll_cons hA;obtain ⟨v1,wt,d1,ds1,p1,q1,hargs1,rfl,rfl,h1,r1⟩:=trodAll_cons r0;obtain ⟨v2,yR,d2,ds2,p2,q2,hargs2,rfl,rfl,h2,r2⟩:=trodAll_cons r1;obtain ⟨rfl,rfl,rfl⟩:=trodAll_nil r2;obtain rfl:args=#[v0,v1,v2]:=by cases args;simp_all
 obtain ⟨rfl,rfl⟩:=trodVars_none hV;obtain ⟨m0,p0,Ag0,Af0,ng0,cg0,nf0,cf0,rfl,hGl0,hFn0⟩:=qBo (hval 0 25 v0 rfl rfl) h0;obtain ⟨A1,n1,c1,l1,rfl,hB1⟩:=qqI (hval 1 26 v1 rfl rfl) h1;obtain ⟨k2,rfl,rfl,rfl,wk2⟩:=open_int underlying3 (hval 2 3 v2 rfl rfl) h2;refine (qr5 (args:=[_,_,_]) λD=>qpB (D:=D) (qK3 hL) hGl0 hFn0 hB1).mono λe W' ⟨he,hg⟩=>?_;subst he;exact ⟨_,rfl,qvD qvC qcB V underlying4 rfl hW rfl hg⟩
def qcw(os:Os)(started:os.Started)(H:Type)(enc:TypeId×Value->H):
  ReturnsInHanded {} checked os 3 .any (λw args=>(Rows.compileSimplifiedProgramsAgreeSpec.pre enc prog f3 [] false w args/\laidMetH prog Rows.compileSimplifiedProgramsAgreeRow.laid w)/\sizedMet enc prog f3 (OpenSpec.ofChange Rows.compileSimplifiedProgramsAgreeSpec) false w args) (Rows.compileSimplifiedProgramsAgreeSpec.post enc prog f3 false true false false):=by
 refine returnsInHanded_of_change_and (C:=checked) (X:=λw _=>laidMetH prog Rows.compileSimplifiedProgramsAgreeRow.laid w) (λ_ _ _ hh h=>h.of_heap hh) qv4 started V func3
  (ChangeSpec.witness_shaped (enc:=enc) (C:=checked) (os:=os) (X:=λw _=>laidMetH prog Rows.compileSimplifiedProgramsAgreeRow.laid w) false (World.laidAll prog os Rows.compileSimplifiedProgramsAgreeRow.laid) #[.agg #[.slice none 0 0,.slice none 0 0],.slice none 0 0,iB 0] 8 (World.laidAll_os _ _ _)
   (World.shaped_of_ZipB V V) V V V
   (by rw [gp _ _ _ V];exact laidMet_laidAll _ V V)) ?_
 intro W base args ds gs before hval hW _ _ hL _;exact qch H enc W base args ds gs before hval hW hL
def qcU:(Rows.compileSimplifiedProgramsAgreeRow.inPlace == Tryz.pinned.checked.prog.inPlace 3)=true:=by kernel_rfl
def qcV:(Rows.compileSimplifiedProgramsAgreeRow.unfollowed == Tryz.pinned.checked.prog.unfollowed 3)=true:=by kernel_rfl
def qcW:(Rows.compileSimplifiedProgramsAgreeRow.recurses == Tryz.pinned.checked.prog.recurses 3)=true:=by kernel_rfl
def qcX:(Rows.compileSimplifiedProgramsAgreeRow.named == Tryz.pinned.checked.prog.varsNamed 3)=true:=by kernel_rfl
def qc7:joinedFacts Tryz.pinned.checked.prog 3 f3 Rows.compileSimplifiedProgramsAgreeSpec Rows.compileSimplifiedProgramsAgreeRow=true:=by
 unfold joinedFacts;rw [qcU,qcV,qcW,qcX];kernel_rfl
def qcN:Rows.CompileSimplifiedProgramsAgreeSaid:=
 OpenClaim.holds_of_wide 3 f3 rfl rfl rfl rfl rfl rfl rfl ⟨rfl,rfl,rfl,rfl,rfl⟩ rfl rfl rfl rfl rfl V func3 qc7
  (cV V) (by unfold Func.isWrapper;first|(rw [au (by decide +kernel)];kernel_rfl)|(rw [ak (by decide +kernel)];exact ⟨rfl,rfl⟩))
  (λos started H enc _=>qcw os started H enc)
def qcA(f:FuncId)(fn:Func)(hf:Tryz.pinned.checked.prog.funcNamed Rows.compileSimplifiedProgramsAgreeRow.func=some f)(hfn:Tryz.pinned.checked.prog.funcs[f]?=some fn):true=Tryz.pinned.checked.prog.looks []/\∀ (j:Nat) t,fn.params[j]?=some t->Tryz.pinned.checked.prog.wantsStandIn t=false:=by
 obtain rfl:f=3:=cM ((show prog.funcNamed Rows.compileSimplifiedProgramsAgreeRow.func=some 3 by kernel_rfl).symm.trans hf) |>.symm;obtain rfl:fn=f3:=(cM (func3.symm.trans hfn)).symm;exact ⟨V,λj t ht=>by
  rw [params3] at ht;have hm:t∈[25,26,3]:=by simpa using Array.mem_of_getElem? ht
  have rh:([25,26,3].all λu=>!prog.wantsStandIn u)=true:=V
  exact (show prog.wantsStandIn t=false by simpa using List.all_eq_true.1 rh t hm)⟩
theorem compileSimplifiedProgramsAgree_holds : Rows.CompileSimplifiedProgramsAgreeCardSaid :=
 Claim7.holds_tied_plain_at .later [] _ _ _ _ qcN (λ_ h=>by cases h) V (λ_ h=>by cases h) compileSimplifiedProgramsAgree_row_tie rfl ⟨rfl,rfl⟩ V rfl qcA V
end
end Go.Proofs.YtemgonlhniicbaaGreatDoor
