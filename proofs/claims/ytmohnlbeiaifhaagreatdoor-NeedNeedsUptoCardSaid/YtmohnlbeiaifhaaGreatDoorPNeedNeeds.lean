/- Proved: the law NeedNeeds as a tied card: for every argument the call returns true and leaves its arguments alone, where the arguments are together of bulk at most 1048576 (uptoBulk), the listed package variables holding what the program's text lays. No other condition. -/
import Derived.Test.YtmohnlbeiaifhaaGreatDoorZz9
import Derived.Test.YtmohnlbeiaifhaaGreatDoorZz7
set_option linter.unusedSimpArgs false
set_option linter.unusedVariables false
set_option maxRecDepth 100000
namespace Go.Proofs.YtmohnlbeiaifhaaGreatDoor.PNeedNeeds
open Go.ChangeShapes Go.WideShapes Go.ChangeAt Go.RowKit Go.AM
theorem contract (H:Type)(enc:TypeId×Value->H)(W:World)(base:Nat)(args:Array Value)(ds gs:List (DataW H))(before:List MemPlace)
  (hval0: ∀(j:Nat) t v,Tryz.f3.params[j]?=some t->args[j]?=some v->Value.okWide Tryz.prog W .any base t v)
  (hW:DataW.Whole enc Tryz.prog Tryz.f3.params.toList Rows.needNeedsSpec.vars false W args.toList ds gs before) (hk:Rows.uptoSmall H (ds++gs)=true) (hL:laidMetH Tryz.prog Rows.needNeedsUptoRow.laid W) (hsh:W.ShapedOpen Tryz.prog):
  Calls Tryz.prog 3 args W fun e W'=> ∃v,e= .returned v/\Rows.needNeedsSpec.post enc Tryz.prog Tryz.f3 false true false false W args v W':=by
 have hval:=hval0;have hW':=hW;obtain⟨p,q,hA0,hV,rfl,hfz,hnd⟩:=hW;have hA:DataW.TrodAll enc Tryz.prog W 0 (fun _=>true) true Tryz.f3.params.toList args.toList ds p:=hA0;rw[Tryz.params3] at hA hval;obtain⟨v0,vs0,d0,ds0,p0,q0,hargs,rfl,rfl,h0,r0⟩:=trodAll_cons hA;obtain⟨v1,vs1,d1,ds1,p1,q1,rfl,rfl,rfl,h1,r1⟩:=trodAll_cons r0;obtain⟨rfl,rfl,rfl⟩:=trodAll_nil r1
 obtain rfl:args= #[v0,v1]:=by cases args;simp_all
 obtain⟨rfl,rfl⟩:=trodVars_none hV;have rd0:=h0
 have lt0: ∀x ∈ p0,x.block<W.heap.size:=by obtain⟨m,hm⟩:=rd0;exact DataW.trod_lt m _ _ _ hm
 have rd1:=h1
 have lt1: ∀x ∈ p1,x.block<W.heap.size:=by obtain⟨m,hm⟩:=rd1;exact DataW.trod_lt m _ _ _ hm
 obtain⟨l0,rp0,bk0⟩:=Ty (hval 0 24 v0 rfl rfl) h0;obtain⟨s1,rp1,bk1,bd1⟩:=X8 (hval 1 30 v1 rfl rfl) h1;clear hA0 hval0;have hbd:=SG hk;simp only[List.append_nil,List.cons_append,List.nil_append,Rows.uptoBulkAll] at hbd;obtain⟨m,hm⟩:=R_ W hsh;have hT:=XY hm (TT hL);refine(Rg (G:=GM m) (Og (YV m) (Tk (m:=m) (by simp[GM])) l0 s1 (bk0 (by omega)) (bk1 (by omega)) bd1) W _ (.cons rp0 (.cons rp1 .nil)) hT).mono fun e W' ⟨he,bel⟩=>?_;subst he;exact⟨_,rfl,_,_,_,[],_,[],hW',trodAll_mk1 (shut_bool Tryz.underlying4 _),(trodAll_cons_mk (Below.trod St (by kernel_rfl) (of_decide_eq_true (by kernel_rfl)) rd0 bel lt0) (trodAll_cons_mk (Below.trod St (by kernel_rfl) (of_decide_eq_true (by kernel_rfl)) rd1 bel lt1) trodAll_mk0)),rfl,bel.frame _,fun h=>by cases h⟩
noncomputable def laidWorld (os:Os):World:={World.holding Tryz.prog os ⟨#[],#[],[]⟩ with heap:=((((((World.holding Tryz.prog os ⟨#[],#[],[]⟩).heap.modify 2 fun
 | .cells _ t frozen=> .cells #[.string ⟨#[60,61]⟩,.string ⟨#[62,61]⟩,.string ⟨#[60,62]⟩,.string ⟨#[40]⟩,.string ⟨#[41]⟩,.string ⟨#[44]⟩,.string ⟨#[42]⟩,.string ⟨#[43]⟩,.string ⟨#[45]⟩,.string ⟨#[61]⟩,.string ⟨#[60]⟩,.string ⟨#[62]⟩] t frozen
 |o=>o).modify 1 fun
 | .cells _ t frozen=> .cells #[.string ⟨#[67,82,69,65,84,69]⟩,.string ⟨#[84,65,66,76,69]⟩,.string ⟨#[68,82,79,80]⟩,.string ⟨#[73,78,83,69,82,84]⟩,.string ⟨#[73,78,84,79]⟩,.string ⟨#[86,65,76,85,69,83]⟩,.string ⟨#[83,69,76,69,67,84]⟩,.string ⟨#[67,79,85,78,84]⟩,.string ⟨#[70,82,79,77]⟩,.string ⟨#[87,72,69,82,69]⟩,.string ⟨#[79,82,68,69,82]⟩,.string ⟨#[66,89]⟩,.string ⟨#[68,69,83,67]⟩,.string ⟨#[76,73,77,73,84]⟩,.string ⟨#[85,80,68,65,84,69]⟩,.string ⟨#[83,69,84]⟩,.string ⟨#[68,69,76,69,84,69]⟩,.string ⟨#[66,69,71,73,78]⟩,.string ⟨#[67,79,77,77,73,84]⟩,.string ⟨#[82,79,76,76,66,65,67,75]⟩,.string ⟨#[65,78,68]⟩,.string ⟨#[79,82]⟩,.string ⟨#[78,79,84]⟩,.string ⟨#[73,83]⟩,.string ⟨#[78,85,76,76]⟩,.string ⟨#[84,82,85,69]⟩,.string ⟨#[70,65,76,83,69]⟩,.string ⟨#[73,78,84]⟩,.string ⟨#[84,69,88,84]⟩,.string ⟨#[66,79,79,76]⟩] t frozen
 |o=>o).modify 0 fun
 | .cells _ t frozen=> .cells #[.string ⟨#[]⟩,.string ⟨#[66,79,79,76]⟩,.string ⟨#[73,78,84]⟩,.string ⟨#[84,69,88,84]⟩] t frozen
 |o=>o).modify 5 fun
 | .cells _ t frozen=> .cells #[.int .u8 128,.int .u8 191,.int .u8 160,.int .u8 191,.int .u8 128,.int .u8 159,.int .u8 144,.int .u8 191,.int .u8 128,.int .u8 143,.int .u8 0,.int .u8 0,.int .u8 0,.int .u8 0,.int .u8 0,.int .u8 0,.int .u8 0,.int .u8 0,.int .u8 0,.int .u8 0,.int .u8 0,.int .u8 0,.int .u8 0,.int .u8 0,.int .u8 0,.int .u8 0,.int .u8 0,.int .u8 0,.int .u8 0,.int .u8 0,.int .u8 0,.int .u8 0] t frozen
 |o=>o).modify 4 fun
 | .cells _ t frozen=> .cells (Go.Pinned.utf8FirstZ.map fun(n:Nat)=>Value.int .u8 (n:Int)).toArray t frozen
 |o=>o)}
theorem laid_met (os:Os):laidMet Tryz.prog Rows.needNeedsUptoRow.laid ((laidWorld os).forCall (fun _ _=>0) ⟨#[],#[.agg #[.slice none 0 0],.agg #[.int .i64 0,.string ⟨#[]⟩,.slice none 0 0,.slice none 0 0,.slice none 0 0,.bool false,.slice none 0 0,.string ⟨#[]⟩,.bool false,.int .i64 0,.string ⟨#[]⟩,.slice none 0 0]],[]⟩).memory:=laidMet_of_run' 8 (by kernel_rfl) (by kernel_rfl)
theorem reads (os:Os){H:Type}(enc:TypeId×Value->H): ∃places,DataW.whole enc Tryz.prog ((laidWorld os).forCall (fun _ _=>0) ⟨#[],#[.agg #[.slice none 0 0],.agg #[.int .i64 0,.string ⟨#[]⟩,.slice none 0 0,.slice none 0 0,.slice none 0 0,.bool false,.slice none 0 0,.string ⟨#[]⟩,.bool false,.int .i64 0,.string ⟨#[]⟩,.slice none 0 0]],[]⟩).memory Tryz.f3.params.toList Rows.needNeedsSpec.vars false (#[.agg #[.slice none 0 0],.agg #[.int .i64 0,.string ⟨#[]⟩,.slice none 0 0,.slice none 0 0,.slice none 0 0,.bool false,.slice none 0 0,.string ⟨#[]⟩,.bool false,.int .i64 0,.string ⟨#[]⟩,.slice none 0 0]]:Array Value).toList 8=some ([.agg [.nil],.agg [.lit (.int .i64 0),.lit (.string []),.nil,.nil,.nil,.lit (.bool false),.nil,.lit (.string []),.lit (.bool false),.lit (.int .i64 0),.lit (.string []),.nil]],[],places):=⟨[],by kernel_rfl⟩
theorem lifted (os:Os)(started:os.Started)(H:Type)(enc:TypeId×Value->H)(F:Stop.Interp):
  ReturnsInHanded {} Tryz.checked os 3 .any ((Rows.OpenSpec.upto Rows.needNeedsSpec).preRow enc Tryz.prog Tryz.f3 Rows.needNeedsUptoRow.domain false Rows.needNeedsUptoRow.laid) (((Rows.OpenSpec.upto Rows.needNeedsSpec).at F).post enc Tryz.prog Tryz.f3 false true false false):=by
 obtain⟨places,hx⟩:=reads os enc;refine returnsInHanded_of_row (C:=Tryz.checked) (s:=Rows.OpenSpec.upto Rows.needNeedsSpec) own started (by kernel_rfl) Tryz.func3
  (witness_row_at (enc:=enc) (C:=Tryz.checked) false (laidWorld os) #[.agg #[.slice none 0 0],.agg #[.int .i64 0,.string ⟨#[]⟩,.slice none 0 0,.slice none 0 0,.slice none 0 0,.bool false,.slice none 0 0,.string ⟨#[]⟩,.bool false,.int .i64 0,.string ⟨#[]⟩,.slice none 0 0]] rfl (by kernel_rfl) (by kernel_rfl) (by kernel_rfl)
   (OpenSpec.preRow_of_cond 8 hx (by kernel_rfl) (fun k hk=>by cases hk;kernel_rfl) (by kernel_rfl) (laid_met os))) ?_
 intro W base args ds gs before hval hW _ hcond _ hL hsh _;exact contract H enc W base args ds gs before hval hW (hcond _ rfl) hL hsh
theorem said:Rows.NeedNeedsUptoSaid:=
 OpenClaim.holds_of_cond 3 Tryz.f3 rfl rfl rfl rfl rfl rfl rfl ⟨rfl,rfl,rfl,rfl,rfl⟩ rfl rfl rfl rfl rfl (by kernel_rfl) Tryz.func3 (by kernel_rfl)
  (of_decide_eq_true (by kernel_rfl)) (by unfold Func.isWrapper;first |(rw[if_pos (by decide+kernel)];kernel_rfl) |(rw[if_neg (by decide+kernel)];exact⟨rfl,rfl⟩))
  (fun os started H enc _ F=>by rw[OpenClaim.pre_eq_preRow];exact lifted os started H enc F)
theorem plain (f:FuncId)(fn:Func)(hf:Tryz.pinned.checked.prog.funcNamed "padlock/padlocklaw.NeedNeeds" =some f)(hfn:Tryz.pinned.checked.prog.funcs[f]?=some fn):
  false=Tryz.pinned.checked.prog.looks []/\ ∀(j:Nat) t,fn.params[j]?=some t->Tryz.pinned.checked.prog.wantsStandIn t=false:=by
 obtain rfl:f=3:=Option.some.inj ((show Tryz.prog.funcNamed "padlock/padlocklaw.NeedNeeds" =some 3 by kernel_rfl).symm.trans hf) |>.symm;obtain rfl:fn=Tryz.f3:=(Option.some.inj (Tryz.func3.symm.trans hfn)).symm;refine⟨by kernel_rfl,fun j t ht=>?_⟩;rw[Tryz.params3] at ht;have hm:=Array.mem_of_getElem? ht;simp at hm
 rcases hm with rfl |rfl
 ·exact(show Tryz.prog.wantsStandIn 24=false by kernel_rfl)
 ·exact(show Tryz.prog.wantsStandIn 30=false by kernel_rfl)
theorem card:Rows.NeedNeedsUptoCardSaid:=
 Claim7.holds_tied_plain_at .later [] _ _ _ _ said (fun _ h=>by cases h) (by kernel_rfl) (fun _ h=>by cases h) needNeedsUpto_row_tie rfl ⟨rfl,rfl⟩ (by kernel_rfl) rfl plain (by kernel_rfl)
#print axioms card
end Go.Proofs.YtmohnlbeiaifhaaGreatDoor.PNeedNeeds
