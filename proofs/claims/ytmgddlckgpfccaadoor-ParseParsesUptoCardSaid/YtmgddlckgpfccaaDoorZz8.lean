/- Texts of the law ParseParses, part 8: lemmas; what is proved stands in the last text. -/
import Derived.Test.YtmgddlckgpfccaaDoorZz7
import Derived.Test.YtmgddlckgpfccaaDoorZz4
import Derived.Test.YtmgddlckgpfccaaDoorCards
import Derived.Test.YtmgddlckgpfccaaDoorTie
import Derived.WalkKit
import Derived.ProofKit
import Derived.OpenShut
import Derived.ShutString
import Derived.ChangeOld
import Derived.Below
import Derived.Lib.SmallJoins
import Derived.Deep.DeepHandedRow
import Derived.Lib.LaidTab
import Derived.Test.YtmgddlckgpfccaaDoorRows
import Derived.Test.YtmgddlckgpfccaaDoorZz1
import Derived.JoinedCond
import Derived.SizedLaws
import Derived.Deep.Strs
open Go.Proofs.Tryd
set_option linter.unusedSimpArgs false
set_option linter.unusedVariables false
set_option maxRecDepth 100000
namespace Go.AM
open Go Go.RowKit
open Go.Proofs.YtmgddlckgpfccaaDoor (OP Ac AY AR str)
attribute [local irreducible] AWP BS
set_option maxHeartbeats 16000000 in
theorem Jh (G:List (Nat×List Value)){l:List TK0}(hk: ∀t ∈ l,TokOk t)(hks: ∀t ∈ l,Fh t.s)(hl:l.length≤100)(s:WK)(hs:WkG l s)(h0:BX l s 1 AL=true):
  Con prog G 14 [.p 0 0 0] (Aj l s) 1 (Is (.agg (CU (Ak l s).1)) (Aj l (Ak l s).2) 1) No:=by
 have hp:=hs.ok.p;have e0:=B6 G l s 1 AL hl (by omega) h0;obtain⟨r,hr⟩: ∃r,r=Ak l s:=⟨_,rfl⟩;rw[←hr];unfold Ak D9 at hr;rw[if_pos h0] at hr;have w0:=BY hs (As h0).2;generalize AF s=s0 at e0 w0 hr;unfold Mu AZ Bm B0 at hr;dsimp only at hr;have c0:=B5 G l s0 1 Bk hl (by have:=w0.ok.p;omega);have w1:=C_ w0 1 Bk;generalize BC l s0 1 Bk=s1 at c0 w1 hr;have c1:=C4 G l s1 hl (by have:=w1.ok.p;omega) hks;have w2:=CC w1;generalize Ae l s1=y2 at c1 w2 hr;obtain⟨t_,s2⟩:=y2;dsimp only at c1 w2 hr;have c2:=Kv G hks hl s2 w2;have w3:=(Hs l).g _ w2;generalize Dn l s2=y3 at c2 w3 hr;obtain⟨cs_,s3⟩:=y3;dsimp only at c2 w3 hr;subst hr;refine Bt (y:= .agg [.r (.int .i64 1),.r (.string t_),.ro true 2 (cs_.map eC),.r (.slice none 0 0),.r (.slice none 0 0),.r (.bool false),.r (.slice none 0 0),.r (.string ⟨#[]⟩),.r (.bool false),.r (.int .i64 (-1)),.r (.string ⟨#[]⟩),.r (.slice none 0 0)]) ?_ (fun w z th v hr=>C9 (by simp[wk,GJ,CU,Cw,str]) hr);simp only[AL,Bk,str] at e0 c0;unfold Aj at *;refine A8 func14 rfl (by kernel_rfl) (of_decide_eq_true (by kernel_rfl)) ?_;intro E hG hE;subst hG;simp only[Ai];(repeat' (first |refine A6 ?_ |refine A2 ?_ |refine A3 ?_ |refine A5 ?_ |((first |refine rR (fun K kp hK hkp=>?_) |refine oR [0] e0 ?_ |refine oR [0] c0 ?_ |refine oR [0] c1 ?_ |refine oR [0] c2 ?_ |refine iG ?_);simp(implicitDefEqProofs:=false) (maxSteps:=2000000) (disch:=omega) only[go_sem];(repeat' (first |(refine hK _ ?_;clear hK hkp kp K) |(with_reducible refine And.intro ?_ ?_) |omega))) |((first |refine aG (fun h=>?_) (fun h=>?_) |refine aD (fun h=>?_) (fun h=>?_) |refine aX (fun h=>?_) (fun h=>?_))<;>simp only[h]) |refine A0 rfl ?_ |refine A1 rfl ?_ |((refine A4 rfl (fun h=>?_) (fun h=>?_)<;>try simp only[AK] at h)<;>(try (exfalso;omega))) |refine A7 ?_));(refine AB (by(simp(implicitDefEqProofs:=false) (maxSteps:=2000000) (disch:=omega) only[go_sem,results14]);rfl) ?_;refine(AC hE [0] rfl ?_ ?_).s<;>simp[AI,AH,lk,ren,renL,A9,AG])
set_option maxHeartbeats 16000000 in
theorem Ld (G:List (Nat×List Value)){l:List TK0}(hk: ∀t ∈ l,TokOk t)(hks: ∀t ∈ l,Fh t.s)(hl:l.length≤100)(s:WK)(hs:WkG l s)(h0:BX l s 1 AL=false)(h1:BX l s 1 B1=true):
  Con prog G 14 [.p 0 0 0] (Aj l s) 1 (Is (.agg (CU (Ak l s).1)) (Aj l (Ak l s).2) 1) No:=by
 have hp:=hs.ok.p;have e0:=AJ G l s 1 AL hl (by omega) h0;have e1:=B6 G l s 1 B1 hl (by omega) h1;obtain⟨r,hr⟩: ∃r,r=Ak l s:=⟨_,rfl⟩;rw[←hr];unfold Ak D9 at hr;rw[if_neg (by rw[h0];decide)] at hr;rw[if_pos h1] at hr;have w0:=BY hs (As h1).2;generalize AF s=s0 at e1 w0 hr;unfold Qh AZ Bm B0 at hr;dsimp only at hr;have c0:=B5 G l s0 1 Bk hl (by have:=w0.ok.p;omega);have w1:=C_ w0 1 Bk;generalize BC l s0 1 Bk=s1 at c0 w1 hr;have c1:=C4 G l s1 hl (by have:=w1.ok.p;omega) hks;have w2:=CC w1;generalize Ae l s1=y2 at c1 w2 hr;obtain⟨t_,s2⟩:=y2;dsimp only at c1 w2 hr;subst hr;refine Bt (y:= .agg [.r (.int .i64 2),.r (.string t_),.r (.slice none 0 0),.r (.slice none 0 0),.r (.slice none 0 0),.r (.bool false),.r (.slice none 0 0),.r (.string ⟨#[]⟩),.r (.bool false),.r (.int .i64 (-1)),.r (.string ⟨#[]⟩),.r (.slice none 0 0)]) ?_ (fun w z th v hr=>C9 (by simp[wk,GJ,CU,Cw,str]) hr);simp only[AL,B1,Bk,str] at e0 e1 c0;unfold Aj at *;refine A8 func14 rfl (by kernel_rfl) (of_decide_eq_true (by kernel_rfl)) ?_;intro E hG hE;subst hG;simp only[Ai];(repeat' (first |refine A6 ?_ |refine A2 ?_ |refine A3 ?_ |refine A5 ?_ |((first |refine rR (fun K kp hK hkp=>?_) |refine oR [0] e0 ?_ |refine oR [0] e1 ?_ |refine oR [0] c0 ?_ |refine oR [0] c1 ?_ |refine iG ?_);simp(implicitDefEqProofs:=false) (maxSteps:=2000000) (disch:=omega) only[go_sem];(repeat' (first |(refine hK _ ?_;clear hK hkp kp K) |(with_reducible refine And.intro ?_ ?_) |omega))) |((first |refine aG (fun h=>?_) (fun h=>?_) |refine aD (fun h=>?_) (fun h=>?_) |refine aX (fun h=>?_) (fun h=>?_))<;>simp only[h]) |refine A0 rfl ?_ |refine A1 rfl ?_ |((refine A4 rfl (fun h=>?_) (fun h=>?_)<;>try simp only[AK] at h)<;>(try (exfalso;omega))) |refine A7 ?_));(refine AB (by(simp(implicitDefEqProofs:=false) (maxSteps:=2000000) (disch:=omega) only[go_sem,results14]);rfl) ?_;refine(AC hE [0] rfl ?_ ?_).s<;>simp[AI,AH,lk,ren,renL,A9,AG])
set_option maxHeartbeats 16000000 in
theorem Jf (G:List (Nat×List Value)){l:List TK0}(hk: ∀t ∈ l,TokOk t)(hks: ∀t ∈ l,Fh t.s)(hl:l.length≤100)(s:WK)(hs:WkG l s)(h0:BX l s 1 AL=false)(h1:BX l s 1 B1=false)(h2:BX l s 1 AX=true):
  Con prog G 14 [.p 0 0 0] (Aj l s) 1 (Is (.agg (CU (Ak l s).1)) (Aj l (Ak l s).2) 1) No:=by
 have hp:=hs.ok.p;have e0:=AJ G l s 1 AL hl (by omega) h0;have e1:=AJ G l s 1 B1 hl (by omega) h1;have e2:=B6 G l s 1 AX hl (by omega) h2;obtain⟨r,hr⟩: ∃r,r=Ak l s:=⟨_,rfl⟩;rw[←hr];unfold Ak D9 at hr;rw[if_neg (by rw[h0];decide)] at hr;rw[if_neg (by rw[h1];decide)] at hr;rw[if_pos h2] at hr;have w0:=BY hs (As h2).2;generalize AF s=s0 at e2 w0 hr;unfold Mm AZ Bm B0 at hr;dsimp only at hr;have c0:=B5 G l s0 1 ED hl (by have:=w0.ok.p;omega);have w1:=C_ w0 1 ED;generalize BC l s0 1 ED=s1 at c0 w1 hr;have c1:=C4 G l s1 hl (by have:=w1.ok.p;omega) hks;have w2:=CC w1;generalize Ae l s1=y2 at c1 w2 hr;obtain⟨t_,s2⟩:=y2;dsimp only at c1 w2 hr;have c2:=B5 G l s2 1 Cg hl (by have:=w2.ok.p;omega);have w3:=C_ w2 1 Cg;generalize BC l s2 1 Cg=s3 at c2 w3 hr;have c3:=M0 G hk hl s3 w3;have w4:=(Jt l).g _ w3;generalize EQ l s3=y4 at c3 w4 hr;obtain⟨r_,s4⟩:=y4;dsimp only at c3 w4 hr;subst hr;refine Bt (y:= .agg [.r (.int .i64 3),.r (.string t_),.r (.slice none 0 0),.ro true 3 (r_.map eV),.r (.slice none 0 0),.r (.bool false),.r (.slice none 0 0),.r (.string ⟨#[]⟩),.r (.bool false),.r (.int .i64 (-1)),.r (.string ⟨#[]⟩),.r (.slice none 0 0)]) ?_ (fun w z th v hr=>C9 (by simp[wk,GJ,CU,Cw,str]) hr);simp only[AL,B1,AX,ED,Cg,str] at e0 e1 e2 c0 c2;unfold Aj at *;refine A8 func14 rfl (by kernel_rfl) (of_decide_eq_true (by kernel_rfl)) ?_;intro E hG hE;subst hG;simp only[Ai];(repeat' (first |refine A6 ?_ |refine A2 ?_ |refine A3 ?_ |refine A5 ?_ |((first |refine rR (fun K kp hK hkp=>?_) |refine oR [0] e0 ?_ |refine oR [0] e1 ?_ |refine oR [0] e2 ?_ |refine oR [0] c0 ?_ |refine oR [0] c1 ?_ |refine oR [0] c2 ?_ |refine oR [0] c3 ?_ |refine iG ?_);simp(implicitDefEqProofs:=false) (maxSteps:=2000000) (disch:=omega) only[go_sem];(repeat' (first |(refine hK _ ?_;clear hK hkp kp K) |(with_reducible refine And.intro ?_ ?_) |omega))) |((first |refine aG (fun h=>?_) (fun h=>?_) |refine aD (fun h=>?_) (fun h=>?_) |refine aX (fun h=>?_) (fun h=>?_))<;>simp only[h]) |refine A0 rfl ?_ |refine A1 rfl ?_ |((refine A4 rfl (fun h=>?_) (fun h=>?_)<;>try simp only[AK] at h)<;>(try (exfalso;omega))) |refine A7 ?_));(refine AB (by(simp(implicitDefEqProofs:=false) (maxSteps:=2000000) (disch:=omega) only[go_sem,results14]);rfl) ?_;refine(AC hE [0] rfl ?_ ?_).s<;>simp[AI,AH,lk,ren,renL,A9,AG])
set_option maxHeartbeats 16000000 in
theorem Je (G:List (Nat×List Value)){l:List TK0}(hk: ∀t ∈ l,TokOk t)(hks: ∀t ∈ l,Fh t.s)(hl:l.length≤100)(s:WK)(hs:WkG l s)(h0:BX l s 1 AL=false)(h1:BX l s 1 B1=false)(h2:BX l s 1 AX=false)(h3:BX l s 1 Af=true):
  Con prog G 14 [.p 0 0 0] (Aj l s) 1 (Is (.agg (CU (Ak l s).1)) (Aj l (Ak l s).2) 1) No:=by
 have hp:=hs.ok.p;have e0:=AJ G l s 1 AL hl (by omega) h0;have e1:=AJ G l s 1 B1 hl (by omega) h1;have e2:=AJ G l s 1 AX hl (by omega) h2;have e3:=B6 G l s 1 Af hl (by omega) h3;obtain⟨r,hr⟩: ∃r,r=Ak l s:=⟨_,rfl⟩;rw[←hr];unfold Ak D9 at hr;rw[if_neg (by rw[h0];decide)] at hr;rw[if_neg (by rw[h1];decide)] at hr;rw[if_neg (by rw[h2];decide)] at hr;rw[if_pos h3] at hr;have w0:=BY hs (As h3).2;generalize AF s=s0 at e3 w0 hr;have c0:=Jn G hk hks hl s0 w0;have w1:=(Kq hl).g _ w0;generalize Hw l s0=y1 at c0 w1 hr;obtain⟨x_,s1⟩:=y1;dsimp only at c0 w1 hr;subst hr;simp only[AL,B1,AX,Af,str] at e0 e1 e2 e3;simp only[CU] at c0 ⊢;unfold Aj at *;refine A8 func14 rfl (by kernel_rfl) (of_decide_eq_true (by kernel_rfl)) ?_;intro E hG hE;subst hG;simp only[Ai];(repeat' (first |refine A6 ?_ |refine A2 ?_ |refine A3 ?_ |refine A5 ?_ |((first |refine rR (fun K kp hK hkp=>?_) |refine oR [0] e0 ?_ |refine oR [0] e1 ?_ |refine oR [0] e2 ?_ |refine oR [0] e3 ?_ |refine oR [0] c0 ?_ |refine iG ?_);simp(implicitDefEqProofs:=false) (maxSteps:=2000000) (disch:=omega) only[go_sem];(repeat' (first |(refine hK _ ?_;clear hK hkp kp K) |(with_reducible refine And.intro ?_ ?_) |omega))) |((first |refine aG (fun h=>?_) (fun h=>?_) |refine aD (fun h=>?_) (fun h=>?_) |refine aX (fun h=>?_) (fun h=>?_))<;>simp only[h]) |refine A0 rfl ?_ |refine A1 rfl ?_ |((refine A4 rfl (fun h=>?_) (fun h=>?_)<;>try simp only[AK] at h)<;>(try (exfalso;omega))) |refine A7 ?_));(refine AB (by(simp(implicitDefEqProofs:=false) (maxSteps:=2000000) (disch:=omega) only[go_sem,results14]);rfl) ?_;refine(AC hE [0] rfl ?_ ?_).s<;>simp[AI,AH,lk,ren,renL,A9,AG])
set_option maxHeartbeats 16000000 in
theorem Jd (G:List (Nat×List Value)){l:List TK0}(hk: ∀t ∈ l,TokOk t)(hks: ∀t ∈ l,Fh t.s)(hl:l.length≤100)(s:WK)(hs:WkG l s)(h0:BX l s 1 AL=false)(h1:BX l s 1 B1=false)(h2:BX l s 1 AX=false)(h3:BX l s 1 Af=false)(h4:BX l s 1 Ao=true):
  Con prog G 14 [.p 0 0 0] (Aj l s) 1 (Is (.agg (CU (Ak l s).1)) (Aj l (Ak l s).2) 1) No:=by
 have hp:=hs.ok.p;have e0:=AJ G l s 1 AL hl (by omega) h0;have e1:=AJ G l s 1 B1 hl (by omega) h1;have e2:=AJ G l s 1 AX hl (by omega) h2;have e3:=AJ G l s 1 Af hl (by omega) h3;have e4:=B6 G l s 1 Ao hl (by omega) h4;obtain⟨r,hr⟩: ∃r,r=Ak l s:=⟨_,rfl⟩;rw[←hr];unfold Ak D9 at hr;rw[if_neg (by rw[h0];decide)] at hr;rw[if_neg (by rw[h1];decide)] at hr;rw[if_neg (by rw[h2];decide)] at hr;rw[if_neg (by rw[h3];decide)] at hr;rw[if_pos h4] at hr;have w0:=BY hs (As h4).2;generalize AF s=s0 at e4 w0 hr;unfold Mb AZ Bm B0 at hr;dsimp only at hr;have c0:=C4 G l s0 hl (by have:=w0.ok.p;omega) hks;have w1:=CC w0;generalize Ae l s0=y1 at c0 w1 hr;obtain⟨t_,s1⟩:=y1;dsimp only at c0 w1 hr;have c1:=B5 G l s1 1 GS hl (by have:=w1.ok.p;omega);have w2:=C_ w1 1 GS;generalize BC l s1 1 GS=s2 at c1 w2 hr;have c2:=C4 G l s2 hl (by have:=w2.ok.p;omega) hks;have w3:=CC w2;generalize Ae l s2=y3 at c2 w3 hr;obtain⟨u_,s3⟩:=y3;dsimp only at c2 w3 hr;have c3:=B5 G l s3 4 JQ hl (by have:=w3.ok.p;omega);have w4:=C_ w3 4 JQ;generalize BC l s3 4 JQ=s4 at c3 w4 hr;have c4:=JM G hk hks hl s4 w4;have w5:=(Fy hl).g _ w4;generalize D4 l s4=y5 at c4 w5 hr;obtain⟨to_,s5⟩:=y5;dsimp only at c4 w5 hr;have c5:=Ei G hk hks hl s5 w5;have w6:=(CP hl).g _ w5;generalize D0 l s5=y6 at c5 w6 hr;obtain⟨wh_,s6⟩:=y6;dsimp only at c5 w6 hr;subst hr;refine Bt (y:= .agg [.r (.int .i64 5),.r (.string t_),.r (.slice none 0 0),.r (.slice none 0 0),.r (.slice none 0 0),.r (.bool false),.ro true 5 (wh_.map eO),.r (.string ⟨#[]⟩),.r (.bool false),.r (.int .i64 (-1)),.r (.string u_),.ro true 5 (to_.map eO)]) ?_ (fun w z th v hr=>C9 (by simp[wk,GJ,CU,Cw,str]) hr);simp only[AL,B1,AX,Af,Ao,GS,JQ,str] at e0 e1 e2 e3 e4 c1 c3;unfold Aj at *;refine A8 func14 rfl (by kernel_rfl) (of_decide_eq_true (by kernel_rfl)) ?_;intro E hG hE;subst hG;simp only[Ai];(repeat' (first |refine A6 ?_ |refine A2 ?_ |refine A3 ?_ |refine A5 ?_ |((first |refine rR (fun K kp hK hkp=>?_) |refine oR [0] e0 ?_ |refine oR [0] e1 ?_ |refine oR [0] e2 ?_ |refine oR [0] e3 ?_ |refine oR [0] e4 ?_ |refine oR [0] c0 ?_ |refine oR [0] c1 ?_ |refine oR [0] c2 ?_ |refine oR [0] c3 ?_ |refine oR [0] c4 ?_ |refine oR [0] c5 ?_ |refine iG ?_);simp(implicitDefEqProofs:=false) (maxSteps:=2000000) (disch:=omega) only[go_sem];(repeat' (first |(refine hK _ ?_;clear hK hkp kp K) |(with_reducible refine And.intro ?_ ?_) |omega))) |((first |refine aG (fun h=>?_) (fun h=>?_) |refine aD (fun h=>?_) (fun h=>?_) |refine aX (fun h=>?_) (fun h=>?_))<;>simp only[h]) |refine A0 rfl ?_ |refine A1 rfl ?_ |((refine A4 rfl (fun h=>?_) (fun h=>?_)<;>try simp only[AK] at h)<;>(try (exfalso;omega))) |refine A7 ?_));(refine AB (by(simp(implicitDefEqProofs:=false) (maxSteps:=2000000) (disch:=omega) only[go_sem,results14]);rfl) ?_;refine(AC hE [0] rfl ?_ ?_).s<;>simp[AI,AH,lk,ren,renL,A9,AG])
set_option maxHeartbeats 16000000 in
theorem Jg (G:List (Nat×List Value)){l:List TK0}(hk: ∀t ∈ l,TokOk t)(hks: ∀t ∈ l,Fh t.s)(hl:l.length≤100)(s:WK)(hs:WkG l s)(h0:BX l s 1 AL=false)(h1:BX l s 1 B1=false)(h2:BX l s 1 AX=false)(h3:BX l s 1 Af=false)(h4:BX l s 1 Ao=false)(h5:BX l s 1 B2=true):
  Con prog G 14 [.p 0 0 0] (Aj l s) 1 (Is (.agg (CU (Ak l s).1)) (Aj l (Ak l s).2) 1) No:=by
 have hp:=hs.ok.p;have e0:=AJ G l s 1 AL hl (by omega) h0;have e1:=AJ G l s 1 B1 hl (by omega) h1;have e2:=AJ G l s 1 AX hl (by omega) h2;have e3:=AJ G l s 1 Af hl (by omega) h3;have e4:=AJ G l s 1 Ao hl (by omega) h4;have e5:=B6 G l s 1 B2 hl (by omega) h5;obtain⟨r,hr⟩: ∃r,r=Ak l s:=⟨_,rfl⟩;rw[←hr];unfold Ak D9 at hr;rw[if_neg (by rw[h0];decide)] at hr;rw[if_neg (by rw[h1];decide)] at hr;rw[if_neg (by rw[h2];decide)] at hr;rw[if_neg (by rw[h3];decide)] at hr;rw[if_neg (by rw[h4];decide)] at hr;rw[if_pos h5] at hr;have w0:=BY hs (As h5).2;generalize AF s=s0 at e5 w0 hr;unfold Mt AZ Bm B0 at hr;dsimp only at hr;have c0:=B5 G l s0 1 CI hl (by have:=w0.ok.p;omega);have w1:=C_ w0 1 CI;generalize BC l s0 1 CI=s1 at c0 w1 hr;have c1:=C4 G l s1 hl (by have:=w1.ok.p;omega) hks;have w2:=CC w1;generalize Ae l s1=y2 at c1 w2 hr;obtain⟨t_,s2⟩:=y2;dsimp only at c1 w2 hr;have c2:=Ei G hk hks hl s2 w2;have w3:=(CP hl).g _ w2;generalize D0 l s2=y3 at c2 w3 hr;obtain⟨wh_,s3⟩:=y3;dsimp only at c2 w3 hr;subst hr;refine Bt (y:= .agg [.r (.int .i64 6),.r (.string t_),.r (.slice none 0 0),.r (.slice none 0 0),.r (.slice none 0 0),.r (.bool false),.ro true 5 (wh_.map eO),.r (.string ⟨#[]⟩),.r (.bool false),.r (.int .i64 (-1)),.r (.string ⟨#[]⟩),.r (.slice none 0 0)]) ?_ (fun w z th v hr=>C9 (by simp[wk,GJ,CU,Cw,str]) hr);simp only[AL,B1,AX,Af,Ao,B2,CI,str] at e0 e1 e2 e3 e4 e5 c0;unfold Aj at *;refine A8 func14 rfl (by kernel_rfl) (of_decide_eq_true (by kernel_rfl)) ?_;intro E hG hE;subst hG;simp only[Ai];(repeat' (first |refine A6 ?_ |refine A2 ?_ |refine A3 ?_ |refine A5 ?_ |((first |refine rR (fun K kp hK hkp=>?_) |refine oR [0] e0 ?_ |refine oR [0] e1 ?_ |refine oR [0] e2 ?_ |refine oR [0] e3 ?_ |refine oR [0] e4 ?_ |refine oR [0] e5 ?_ |refine oR [0] c0 ?_ |refine oR [0] c1 ?_ |refine oR [0] c2 ?_ |refine iG ?_);simp(implicitDefEqProofs:=false) (maxSteps:=2000000) (disch:=omega) only[go_sem];(repeat' (first |(refine hK _ ?_;clear hK hkp kp K) |(with_reducible refine And.intro ?_ ?_) |omega))) |((first |refine aG (fun h=>?_) (fun h=>?_) |refine aD (fun h=>?_) (fun h=>?_) |refine aX (fun h=>?_) (fun h=>?_))<;>simp only[h]) |refine A0 rfl ?_ |refine A1 rfl ?_ |((refine A4 rfl (fun h=>?_) (fun h=>?_)<;>try simp only[AK] at h)<;>(try (exfalso;omega))) |refine A7 ?_));(refine AB (by(simp(implicitDefEqProofs:=false) (maxSteps:=2000000) (disch:=omega) only[go_sem,results14]);rfl) ?_;refine(AC hE [0] rfl ?_ ?_).s<;>simp[AI,AH,lk,ren,renL,A9,AG])
set_option maxHeartbeats 16000000 in
theorem KW (G:List (Nat×List Value)){l:List TK0}(hk: ∀t ∈ l,TokOk t)(hks: ∀t ∈ l,Fh t.s)(hl:l.length≤100)(s:WK)(hs:WkG l s)(h0:BX l s 1 AL=false)(h1:BX l s 1 B1=false)(h2:BX l s 1 AX=false)(h3:BX l s 1 Af=false)(h4:BX l s 1 Ao=false)(h5:BX l s 1 B2=false)(h6:BX l s 1 Bd=true):
  Con prog G 14 [.p 0 0 0] (Aj l s) 1 (Is (.agg (CU (Ak l s).1)) (Aj l (Ak l s).2) 1) No:=by
 have hp:=hs.ok.p;have e0:=AJ G l s 1 AL hl (by omega) h0;have e1:=AJ G l s 1 B1 hl (by omega) h1;have e2:=AJ G l s 1 AX hl (by omega) h2;have e3:=AJ G l s 1 Af hl (by omega) h3;have e4:=AJ G l s 1 Ao hl (by omega) h4;have e5:=AJ G l s 1 B2 hl (by omega) h5;have e6:=B6 G l s 1 Bd hl (by omega) h6;obtain⟨r,hr⟩: ∃r,r=Ak l s:=⟨_,rfl⟩;rw[←hr];unfold Ak D9 at hr;rw[if_neg (by rw[h0];decide)] at hr;rw[if_neg (by rw[h1];decide)] at hr;rw[if_neg (by rw[h2];decide)] at hr;rw[if_neg (by rw[h3];decide)] at hr;rw[if_neg (by rw[h4];decide)] at hr;rw[if_neg (by rw[h5];decide)] at hr;rw[if_pos h6] at hr;have w0:=BY hs (As h6).2;generalize AF s=s0 at e6 w0 hr;unfold B0 at hr;subst hr;refine Bt (y:= .agg [.r (.int .i64 7),.r (.string ⟨#[]⟩),.r (.slice none 0 0),.r (.slice none 0 0),.r (.slice none 0 0),.r (.bool false),.r (.slice none 0 0),.r (.string ⟨#[]⟩),.r (.bool false),.r (.int .i64 (-1)),.r (.string ⟨#[]⟩),.r (.slice none 0 0)]) ?_ (fun w z th v hr=>C9 (by simp[wk,GJ,CU,Cw,str]) hr);simp only[AL,B1,AX,Af,Ao,B2,Bd,str] at e0 e1 e2 e3 e4 e5 e6;unfold Aj at *;refine A8 func14 rfl (by kernel_rfl) (of_decide_eq_true (by kernel_rfl)) ?_;intro E hG hE;subst hG;simp only[Ai];(repeat' (first |refine A6 ?_ |refine A2 ?_ |refine A3 ?_ |refine A5 ?_ |((first |refine rR (fun K kp hK hkp=>?_) |refine oR [0] e0 ?_ |refine oR [0] e1 ?_ |refine oR [0] e2 ?_ |refine oR [0] e3 ?_ |refine oR [0] e4 ?_ |refine oR [0] e5 ?_ |refine oR [0] e6 ?_ |refine iG ?_);simp(implicitDefEqProofs:=false) (maxSteps:=2000000) (disch:=omega) only[go_sem];(repeat' (first |(refine hK _ ?_;clear hK hkp kp K) |(with_reducible refine And.intro ?_ ?_) |omega))) |((first |refine aG (fun h=>?_) (fun h=>?_) |refine aD (fun h=>?_) (fun h=>?_) |refine aX (fun h=>?_) (fun h=>?_))<;>simp only[h]) |refine A0 rfl ?_ |refine A1 rfl ?_ |((refine A4 rfl (fun h=>?_) (fun h=>?_)<;>try simp only[AK] at h)<;>(try (exfalso;omega))) |refine A7 ?_));(refine AB (by(simp(implicitDefEqProofs:=false) (maxSteps:=2000000) (disch:=omega) only[go_sem,results14]);rfl) ?_;refine(AC hE [0] rfl ?_ ?_).s<;>simp[AI,AH,lk,ren,renL,A9,AG])
set_option maxHeartbeats 16000000 in
theorem Ji (G:List (Nat×List Value)){l:List TK0}(hk: ∀t ∈ l,TokOk t)(hks: ∀t ∈ l,Fh t.s)(hl:l.length≤100)(s:WK)(hs:WkG l s)(h0:BX l s 1 AL=false)(h1:BX l s 1 B1=false)(h2:BX l s 1 AX=false)(h3:BX l s 1 Af=false)(h4:BX l s 1 Ao=false)(h5:BX l s 1 B2=false)(h6:BX l s 1 Bd=false)(h7:BX l s 1 Bf=true):
  Con prog G 14 [.p 0 0 0] (Aj l s) 1 (Is (.agg (CU (Ak l s).1)) (Aj l (Ak l s).2) 1) No:=by
 have hp:=hs.ok.p;have e0:=AJ G l s 1 AL hl (by omega) h0;have e1:=AJ G l s 1 B1 hl (by omega) h1;have e2:=AJ G l s 1 AX hl (by omega) h2;have e3:=AJ G l s 1 Af hl (by omega) h3;have e4:=AJ G l s 1 Ao hl (by omega) h4;have e5:=AJ G l s 1 B2 hl (by omega) h5;have e6:=AJ G l s 1 Bd hl (by omega) h6;have e7:=B6 G l s 1 Bf hl (by omega) h7;obtain⟨r,hr⟩: ∃r,r=Ak l s:=⟨_,rfl⟩;rw[←hr];unfold Ak D9 at hr;rw[if_neg (by rw[h0];decide)] at hr;rw[if_neg (by rw[h1];decide)] at hr;rw[if_neg (by rw[h2];decide)] at hr;rw[if_neg (by rw[h3];decide)] at hr;rw[if_neg (by rw[h4];decide)] at hr;rw[if_neg (by rw[h5];decide)] at hr;rw[if_neg (by rw[h6];decide)] at hr;rw[if_pos h7] at hr;have w0:=BY hs (As h7).2;generalize AF s=s0 at e7 w0 hr;unfold B0 at hr;subst hr;refine Bt (y:= .agg [.r (.int .i64 8),.r (.string ⟨#[]⟩),.r (.slice none 0 0),.r (.slice none 0 0),.r (.slice none 0 0),.r (.bool false),.r (.slice none 0 0),.r (.string ⟨#[]⟩),.r (.bool false),.r (.int .i64 (-1)),.r (.string ⟨#[]⟩),.r (.slice none 0 0)]) ?_ (fun w z th v hr=>C9 (by simp[wk,GJ,CU,Cw,str]) hr);simp only[AL,B1,AX,Af,Ao,B2,Bd,Bf,str] at e0 e1 e2 e3 e4 e5 e6 e7;unfold Aj at *;refine A8 func14 rfl (by kernel_rfl) (of_decide_eq_true (by kernel_rfl)) ?_;intro E hG hE;subst hG;simp only[Ai];(repeat' (first |refine A6 ?_ |refine A2 ?_ |refine A3 ?_ |refine A5 ?_ |((first |refine rR (fun K kp hK hkp=>?_) |refine oR [0] e0 ?_ |refine oR [0] e1 ?_ |refine oR [0] e2 ?_ |refine oR [0] e3 ?_ |refine oR [0] e4 ?_ |refine oR [0] e5 ?_ |refine oR [0] e6 ?_ |refine oR [0] e7 ?_ |refine iG ?_);simp(implicitDefEqProofs:=false) (maxSteps:=2000000) (disch:=omega) only[go_sem];(repeat' (first |(refine hK _ ?_;clear hK hkp kp K) |(with_reducible refine And.intro ?_ ?_) |omega))) |((first |refine aG (fun h=>?_) (fun h=>?_) |refine aD (fun h=>?_) (fun h=>?_) |refine aX (fun h=>?_) (fun h=>?_))<;>simp only[h]) |refine A0 rfl ?_ |refine A1 rfl ?_ |((refine A4 rfl (fun h=>?_) (fun h=>?_)<;>try simp only[AK] at h)<;>(try (exfalso;omega))) |refine A7 ?_));(refine AB (by(simp(implicitDefEqProofs:=false) (maxSteps:=2000000) (disch:=omega) only[go_sem,results14]);rfl) ?_;refine(AC hE [0] rfl ?_ ?_).s<;>simp[AI,AH,lk,ren,renL,A9,AG])
set_option maxHeartbeats 16000000 in
theorem Hd (G:List (Nat×List Value)){l:List TK0}(hk: ∀t ∈ l,TokOk t)(hks: ∀t ∈ l,Fh t.s)(hl:l.length≤100)(s:WK)(hs:WkG l s)(h0:BX l s 1 AL=false)(h1:BX l s 1 B1=false)(h2:BX l s 1 AX=false)(h3:BX l s 1 Af=false)(h4:BX l s 1 Ao=false)(h5:BX l s 1 B2=false)(h6:BX l s 1 Bd=false)(h7:BX l s 1 Bf=false)(h8:BX l s 1 B_=true):
  Con prog G 14 [.p 0 0 0] (Aj l s) 1 (Is (.agg (CU (Ak l s).1)) (Aj l (Ak l s).2) 1) No:=by
 have hp:=hs.ok.p;have e0:=AJ G l s 1 AL hl (by omega) h0;have e1:=AJ G l s 1 B1 hl (by omega) h1;have e2:=AJ G l s 1 AX hl (by omega) h2;have e3:=AJ G l s 1 Af hl (by omega) h3;have e4:=AJ G l s 1 Ao hl (by omega) h4;have e5:=AJ G l s 1 B2 hl (by omega) h5;have e6:=AJ G l s 1 Bd hl (by omega) h6;have e7:=AJ G l s 1 Bf hl (by omega) h7;have e8:=B6 G l s 1 B_ hl (by omega) h8;obtain⟨r,hr⟩: ∃r,r=Ak l s:=⟨_,rfl⟩;rw[←hr];unfold Ak D9 at hr;rw[if_neg (by rw[h0];decide)] at hr;rw[if_neg (by rw[h1];decide)] at hr;rw[if_neg (by rw[h2];decide)] at hr;rw[if_neg (by rw[h3];decide)] at hr;rw[if_neg (by rw[h4];decide)] at hr;rw[if_neg (by rw[h5];decide)] at hr;rw[if_neg (by rw[h6];decide)] at hr;rw[if_neg (by rw[h7];decide)] at hr;rw[if_pos h8] at hr;have w0:=BY hs (As h8).2;generalize AF s=s0 at e8 w0 hr;unfold B0 at hr;subst hr;refine Bt (y:= .agg [.r (.int .i64 9),.r (.string ⟨#[]⟩),.r (.slice none 0 0),.r (.slice none 0 0),.r (.slice none 0 0),.r (.bool false),.r (.slice none 0 0),.r (.string ⟨#[]⟩),.r (.bool false),.r (.int .i64 (-1)),.r (.string ⟨#[]⟩),.r (.slice none 0 0)]) ?_ (fun w z th v hr=>C9 (by simp[wk,GJ,CU,Cw,str]) hr);simp only[AL,B1,AX,Af,Ao,B2,Bd,Bf,B_,str] at e0 e1 e2 e3 e4 e5 e6 e7 e8;unfold Aj at *;refine A8 func14 rfl (by kernel_rfl) (of_decide_eq_true (by kernel_rfl)) ?_;intro E hG hE;subst hG;simp only[Ai];(repeat' (first |refine A6 ?_ |refine A2 ?_ |refine A3 ?_ |refine A5 ?_ |((first |refine rR (fun K kp hK hkp=>?_) |refine oR [0] e0 ?_ |refine oR [0] e1 ?_ |refine oR [0] e2 ?_ |refine oR [0] e3 ?_ |refine oR [0] e4 ?_ |refine oR [0] e5 ?_ |refine oR [0] e6 ?_ |refine oR [0] e7 ?_ |refine oR [0] e8 ?_ |refine iG ?_);simp(implicitDefEqProofs:=false) (maxSteps:=2000000) (disch:=omega) only[go_sem];(repeat' (first |(refine hK _ ?_;clear hK hkp kp K) |(with_reducible refine And.intro ?_ ?_) |omega))) |((first |refine aG (fun h=>?_) (fun h=>?_) |refine aD (fun h=>?_) (fun h=>?_) |refine aX (fun h=>?_) (fun h=>?_))<;>simp only[h]) |refine A0 rfl ?_ |refine A1 rfl ?_ |((refine A4 rfl (fun h=>?_) (fun h=>?_)<;>try simp only[AK] at h)<;>(try (exfalso;omega))) |refine A7 ?_));(refine AB (by(simp(implicitDefEqProofs:=false) (maxSteps:=2000000) (disch:=omega) only[go_sem,results14]);rfl) ?_;refine(AC hE [0] rfl ?_ ?_).s<;>simp[AI,AH,lk,ren,renL,A9,AG])
set_option maxHeartbeats 16000000 in
theorem Lc (G:List (Nat×List Value)){l:List TK0}(hk: ∀t ∈ l,TokOk t)(hks: ∀t ∈ l,Fh t.s)(hl:l.length≤100)(s:WK)(hs:WkG l s)(h0:BX l s 1 AL=false)(h1:BX l s 1 B1=false)(h2:BX l s 1 AX=false)(h3:BX l s 1 Af=false)(h4:BX l s 1 Ao=false)(h5:BX l s 1 B2=false)(h6:BX l s 1 Bd=false)(h7:BX l s 1 Bf=false)(h8:BX l s 1 B_=false):
  Con prog G 14 [.p 0 0 0] (Aj l s) 1 (Is (.agg (CU (Ak l s).1)) (Aj l (Ak l s).2) 1) No:=by
 have hp:=hs.ok.p;have e0:=AJ G l s 1 AL hl (by omega) h0;have e1:=AJ G l s 1 B1 hl (by omega) h1;have e2:=AJ G l s 1 AX hl (by omega) h2;have e3:=AJ G l s 1 Af hl (by omega) h3;have e4:=AJ G l s 1 Ao hl (by omega) h4;have e5:=AJ G l s 1 B2 hl (by omega) h5;have e6:=AJ G l s 1 Bd hl (by omega) h6;have e7:=AJ G l s 1 Bf hl (by omega) h7;have e8:=AJ G l s 1 B_ hl (by omega) h8;obtain⟨r,hr⟩: ∃r,r=Ak l s:=⟨_,rfl⟩;rw[←hr];unfold Ak D9 at hr;rw[if_neg (by rw[h0];decide)] at hr;rw[if_neg (by rw[h1];decide)] at hr;rw[if_neg (by rw[h2];decide)] at hr;rw[if_neg (by rw[h3];decide)] at hr;rw[if_neg (by rw[h4];decide)] at hr;rw[if_neg (by rw[h5];decide)] at hr;rw[if_neg (by rw[h6];decide)] at hr;rw[if_neg (by rw[h7];decide)] at hr;rw[if_neg (by rw[h8];decide)] at hr;have c0:=Bl G l s 6 hl (by omega);unfold DU at hr;subst hr;dsimp only;generalize BA l s 6=s1 at c0;refine Bt (y:= .agg [.r (.int .i64 0),.r (.string ⟨#[]⟩),.r (.slice none 0 0),.r (.slice none 0 0),.r (.slice none 0 0),.r (.bool false),.r (.slice none 0 0),.r (.string ⟨#[]⟩),.r (.bool false),.r (.int .i64 (-1)),.r (.string ⟨#[]⟩),.r (.slice none 0 0)]) ?_ (fun w z th v hr=>C9 (by simp[wk,GJ,CU,Cw,str]) hr);simp only[AL,B1,AX,Af,Ao,B2,Bd,Bf,B_,str] at e0 e1 e2 e3 e4 e5 e6 e7 e8;unfold Aj at *;refine A8 func14 rfl (by kernel_rfl) (of_decide_eq_true (by kernel_rfl)) ?_;intro E hG hE;subst hG;simp only[Ai];(repeat' (first |refine A6 ?_ |refine A2 ?_ |refine A3 ?_ |refine A5 ?_ |((first |refine rR (fun K kp hK hkp=>?_) |refine oR [0] e0 ?_ |refine oR [0] e1 ?_ |refine oR [0] e2 ?_ |refine oR [0] e3 ?_ |refine oR [0] e4 ?_ |refine oR [0] e5 ?_ |refine oR [0] e6 ?_ |refine oR [0] e7 ?_ |refine oR [0] e8 ?_ |refine oR [0] c0 ?_ |refine iG ?_);simp(implicitDefEqProofs:=false) (maxSteps:=2000000) (disch:=omega) only[go_sem];(repeat' (first |(refine hK _ ?_;clear hK hkp kp K) |(with_reducible refine And.intro ?_ ?_) |omega))) |((first |refine aG (fun h=>?_) (fun h=>?_) |refine aD (fun h=>?_) (fun h=>?_) |refine aX (fun h=>?_) (fun h=>?_))<;>simp only[h]) |refine A0 rfl ?_ |refine A1 rfl ?_ |((refine A4 rfl (fun h=>?_) (fun h=>?_)<;>try simp only[AK] at h)<;>(try (exfalso;omega))) |refine A7 ?_));(refine AB (by(simp(implicitDefEqProofs:=false) (maxSteps:=2000000) (disch:=omega) only[go_sem,results14]);rfl) ?_;refine(AC hE [0] rfl ?_ ?_).s<;>simp[AI,AH,lk,ren,renL,A9,AG])
theorem N3 (G:List (Nat×List Value)){l:List TK0}(hk: ∀t ∈ l,TokOk t)(hks: ∀t ∈ l,Fh t.s)(hl:l.length≤100)(s:WK)(hs:WkG l s):
  Con prog G 14 [.p 0 0 0] (Aj l s) 1 (Is (.agg (CU (Ak l s).1)) (Aj l (Ak l s).2) 1) No:=by
 cases h0:BX l s 1 AL;rotate_left
 ·exact Jh G hk hks hl s hs h0
 cases h1:BX l s 1 B1;rotate_left
 ·exact Ld G hk hks hl s hs h0 h1
 cases h2:BX l s 1 AX;rotate_left
 ·exact Jf G hk hks hl s hs h0 h1 h2
 cases h3:BX l s 1 Af;rotate_left
 ·exact Je G hk hks hl s hs h0 h1 h2 h3
 cases h4:BX l s 1 Ao;rotate_left
 ·exact Jd G hk hks hl s hs h0 h1 h2 h3 h4
 cases h5:BX l s 1 B2;rotate_left
 ·exact Jg G hk hks hl s hs h0 h1 h2 h3 h4 h5
 cases h6:BX l s 1 Bd;rotate_left
 ·exact KW G hk hks hl s hs h0 h1 h2 h3 h4 h5 h6
 cases h7:BX l s 1 Bf;rotate_left
 ·exact Ji G hk hks hl s hs h0 h1 h2 h3 h4 h5 h6 h7
 cases h8:BX l s 1 B_;rotate_left
 ·exact Hd G hk hks hl s hs h0 h1 h2 h3 h4 h5 h6 h7 h8
 exact Lc G hk hks hl s hs h0 h1 h2 h3 h4 h5 h6 h7 h8
end Go.AM
namespace Go.AM
open Go Go.RowKit
open Go.Proofs.YtmgddlckgpfccaaDoor (OP Ac AY AR str CK)
theorem Ms {l:List TK0}(h100:l.length≤100)(hb:E7 0 l=none):BI l=if (MK l (Ak l w0).2).e=0 then .tup [.agg (CU (Ak l w0).1),.r (.int .i64 0),.r (.int .i64 0)] else .tup [.agg B8,.r (.int .i64 (MK l (Ak l w0).2).fl),.r (.int .i64 (MK l (Ak l w0).2).e)]:=by
 have h:=N4 h100;rw[BI,if_neg (by omega),hb];dsimp only
 cases hx:Fe l with
 |ok s p=>
  rw[hx] at h;obtain⟨h1,h2,h3⟩:=h;rw[if_pos h3,h1]
 |bad e p=>
  rw[hx] at h;obtain⟨h1,h2,h3⟩:=h;rw[if_neg (by rw[h1];exact h3),h1,h2]
attribute [local irreducible] AWP BS
theorem N6 (G:List (Nat×List Value))(x:TK0)(hs:Fh x.s):Con prog G 13 [.agg (eT x)] [] 0 (Is (.r (.int .i64 (CK x.k x.s x.n))) [] 0) No:=
 De (by kernel_rfl) (fun w z vs hz hr hG=>by
  obtain⟨v,r,rfl,h1,h2⟩:=hr.head;obtain rfl:=h2.of_nil
  cases h1 with
  |agg _ _ ys hl hxx=>
   obtain⟨y0,y1,y2,rfl⟩: ∃y0 y1 y2,ys=[y0,y1,y2]:=by
    match ys,hl with
    | [y0,y1,y2],_=>exact⟨y0,y1,y2,rfl⟩
   have e0:=(hxx 0 _ y0 rfl rfl).r_inv;have e1:=(hxx 1 _ y1 rfl rfl).r_inv;have e2:=(hxx 2 _ y2 rfl rfl).r_inv;subst e0 e1 e2;rw[Go.Proofs.YtmgddlckgpfccaaDoor.Ke]
   exact Go.Proofs.YtmgddlckgpfccaaDoor.Ej x.k x.s x.n w hs)
set_option maxHeartbeats 16000000 in
theorem QK (G:List (Nat×List Value))(l:List TK0)(hl:l.length≤1048576)(hsz: ∀x ∈ l,Fh x.s)(hhi: ∀x ∈ l,x.n≤9223372036854775807):Con prog G 6 [.ro true 3 (l.map eT)] [] 0 (Is (BI l) [] 0) No:=by
 by_cases h100:100<l.length
 ·have d1:decide ((l.length:Int)>100)=true:=decide_eq_true (by omega)
  have hp:BI l= .tup [.agg B8,.r (.int .i64 0),.r (.int .i64 10)]:=by rw[BI,if_pos h100]
  rw[hp];unfold B8;refine A8 func6 rfl (by kernel_rfl) (of_decide_eq_true (by kernel_rfl)) ?_;intro E hG hE;subst hG;simp only[Ai];(repeat' (first |refine A6 ?_ |refine A2 ?_ |refine A3 ?_ |refine A5 ?_ |((first |refine rR (fun K kp hK hkp=>?_) |refine rX (id:=14) AA [] 12 [0,1,2,3,4,5,6,7,8,9,10,11] (fun K kp hK hkp=>?_) |refine iG ?_ |refine iD ?_ |refine iX ?_);simp(implicitDefEqProofs:=false) (maxSteps:=2000000) (disch:=omega) only[go_sem,d1];(repeat' (first |(refine hK _ ?_;clear hK hkp kp K) |(with_reducible refine And.intro ?_ ?_) |omega))) |((first |refine aG (fun h=>?_) (fun h=>?_) |refine aD (fun h=>?_) (fun h=>?_) |refine aX (fun h=>?_) (fun h=>?_))<;>simp only[h]) |refine A0 rfl ?_ |refine A1 rfl ?_ |((refine A4 rfl (fun h=>?_) (fun h=>?_)<;>try simp only[AK] at h)<;>(try (exfalso;omega))) |refine A7 ?_));(refine AB (by(simp(implicitDefEqProofs:=false) (maxSteps:=2000000) (disch:=omega) only[go_sem,results6]);rfl) ?_;refine eN hE ?_;simp[AI,ren,renL])
 have d1:decide ((l.length:Int)>100)=false:=decide_eq_false (by omega);refine A8 func6 rfl (by kernel_rfl) (of_decide_eq_true (by kernel_rfl)) ?_;intro E hG hE;subst hG;simp only[Ai];(repeat' (first |refine A6 ?_ |refine A2 ?_ |refine A3 ?_ |refine A5 ?_ |((first |refine rR (fun K kp hK hkp=>?_) |refine rX (id:=14) AA [] 12 [0,1,2,3,4,5,6,7,8,9,10,11] (fun K kp hK hkp=>?_) |refine iG ?_ |refine iD ?_ |refine iX ?_);simp(implicitDefEqProofs:=false) (maxSteps:=2000000) (disch:=omega) only[go_sem,d1];(repeat' (first |(refine hK _ ?_;clear hK hkp kp K) |(with_reducible refine And.intro ?_ ?_) |omega))) |((first |refine aG (fun h=>?_) (fun h=>?_) |refine aD (fun h=>?_) (fun h=>?_) |refine aX (fun h=>?_) (fun h=>?_))<;>simp only[h]) |refine A0 rfl ?_ |refine A1 rfl ?_ |((refine A4 rfl (fun h=>?_) (fun h=>?_)<;>try simp only[AK] at h)<;>(try (exfalso;omega))) |refine A7 ?_));refine Ap (fun k:Nat=>⟨[(5,.r (.int .i64 k)),(0,.ro true 3 (l.map eT)),(2,.p 0 0 0),(3,.r (.int .i64 0)),(4,.r (.int .i64 0))],[(0,.box 29 B8)],1⟩) (fun k=>k≤l.length∧ ∀j y,j<k→l[j]?=some y→CK y.k y.s y.n=0) (fun k=>l.length - k) 0 ?_ ?_ ?_
 ·exact⟨Nat.zero_le _,fun j y h=>by omega⟩
 ·unfold B8
  (refine Am hE [0] rfl ?_ ?_<;>simp[Bi,AH,lk,ren,renL,A9,AG]<;>(try omega))
 rintro k ⟨hk,hall⟩
 by_cases hk':k<l.length
 ·obtain⟨x,hx⟩: ∃x,l[k]?=some x:=⟨l[k],by simp[hk']⟩
  have d1:decide ((k:Int)<(l.length:Int))=true:=decide_eq_true (by omega);have xc:=N6 E.G x (hsz x (List.mem_of_getElem? hx));simp only[eT] at xc;cases d2:(CK x.k x.s x.n !=0)
  ·unfold B8
   (repeat' (first |refine A6 ?_ |refine A2 ?_ |refine A3 ?_ |refine A5 ?_ |((first |refine rR (fun K kp hK hkp=>?_) |refine rX (id:=14) AA [] 12 [0,1,2,3,4,5,6,7,8,9,10,11] (fun K kp hK hkp=>?_) |refine cR xc ?_ |refine cD xc ?_ |refine cX xc ?_ |refine iG ?_ |refine iD ?_ |refine iX ?_);simp(implicitDefEqProofs:=false) (maxSteps:=2000000) (disch:=omega) only[go_sem,d1,hx,eT,d2];(repeat' (first |(refine hK _ ?_;clear hK hkp kp K) |(with_reducible refine And.intro ?_ ?_) |omega))) |((first |refine aG (fun h=>?_) (fun h=>?_) |refine aD (fun h=>?_) (fun h=>?_) |refine aX (fun h=>?_) (fun h=>?_))<;>simp only[h]) |refine A0 rfl ?_ |refine A1 rfl ?_ |((refine A4 rfl (fun h=>?_) (fun h=>?_)<;>try simp only[AK] at h)<;>(try (exfalso;omega))) |refine A7 ?_))
   ((first |(refine Ba (k+1) ?_ ?_ ?_) |(refine BT (k+1) ?_ ?_ ?_) |(refine nextE (k+1) ?_ ?_ ?_));rotate_left;(·(try dsimp only);(first |omega |(simp only[List.length_drop,List.length_cons,List.length_append];omega) |(simp;done) |(simp;omega)));(·(refine Am hE [0] rfl ?_ ?_<;>simp[Bi,AH,lk,ren,renL,A9,AG,B8]<;>(try omega))))
   refine⟨by omega,fun j y hj hy=>?_⟩
   rcases Nat.lt_or_ge j k with h |h
   ·exact hall j y h hy
   ·obtain rfl:j=k:=by omega
    rw[hx] at hy;cases hy;simpa using d2
  ·have hb:=Gp l 0 k x hall hx (by simpa using d2)
   rw[Nat.zero_add] at hb
   have hp:BI l= .tup [.agg B8,.r (.int .i64 k),.r (.int .i64 (CK x.k x.s x.n))]:=by rw[BI,if_neg (by omega),hb]
   rw[hp];unfold B8;(repeat' (first |refine A6 ?_ |refine A2 ?_ |refine A3 ?_ |refine A5 ?_ |((first |refine rR (fun K kp hK hkp=>?_) |refine rX (id:=14) AA [] 12 [0,1,2,3,4,5,6,7,8,9,10,11] (fun K kp hK hkp=>?_) |refine cR xc ?_ |refine cD xc ?_ |refine cX xc ?_ |refine iG ?_ |refine iD ?_ |refine iX ?_);simp(implicitDefEqProofs:=false) (maxSteps:=2000000) (disch:=omega) only[go_sem,d1,hx,eT,d2];(repeat' (first |(refine hK _ ?_;clear hK hkp kp K) |(with_reducible refine And.intro ?_ ?_) |omega))) |((first |refine aG (fun h=>?_) (fun h=>?_) |refine aD (fun h=>?_) (fun h=>?_) |refine aX (fun h=>?_) (fun h=>?_))<;>simp only[h]) |refine A0 rfl ?_ |refine A1 rfl ?_ |((refine A4 rfl (fun h=>?_) (fun h=>?_)<;>try simp only[AK] at h)<;>(try (exfalso;omega))) |refine A7 ?_));(refine AB (by(simp(implicitDefEqProofs:=false) (maxSteps:=2000000) (disch:=omega) only[go_sem,results6]);rfl) ?_;refine eN hE ?_;simp[AI,ren,renL])
 obtain rfl:k=l.length:=by omega
 have htk: ∀x ∈ l,CK x.k x.s x.n=0:=fun x hx=>by
  obtain⟨j,hj⟩:=List.mem_iff_getElem?.1 hx;exact hall j x (List.getElem?_eq_some_iff.1 hj).1 hj
 clear hall hk hk' d1
 have h100:l.length≤100:=by omega
 have hA:=Ms h100 (F8 l 0 htk);have d1:decide ((l.length:Int)<(l.length:Int))=false:=decide_eq_false (by omega);have wc:=N3 E.G (l:=l) (fun x hx=>⟨hsz x hx,OD (htk x hx),hhi x hx⟩) hsz h100 w0 (OB l);have wg:=(Hr h100).g w0 (OB l);generalize Ak l w0=r at wc wg hA;obtain⟨s,u⟩:=r;dsimp only at wc wg hA;have hpu:=wg.ok.p;unfold Aj w0 at wc;simp only[CU] at wc;unfold MK at hA;change Con _ _ _ _ [(0,Nd.box 48 [.ro true 3 (l.map eT),.r (.int .i64 0),.r (.int .i64 0),.r (.int .i64 0),.r (.int .i64 0)])] _ _ _ at wc
 by_cases h0:u.e=0
 ·have d2:(u.e==0)=true:=by simpa using h0
  by_cases h1:u.p<l.length
  ·have d3:decide ((u.p:Int)<(l.length:Int))=true:=decide_eq_true (by omega)
   have sc:=Bl E.G l u 6 h100 (by omega);have hn:(BA l u 6).e≠0:=fun h=>CD (by decide) h;have e1:(if u.e=0∧u.p<l.length then BA l u 6 else u)=BA l u 6:=if_pos ⟨h0,h1⟩;rw[e1,if_neg hn] at hA;rw[hA];clear hA e1;generalize BA l u 6=v at sc hn ⊢
   have d4:(v.e !=0)=true:=by simpa using hn
   unfold Aj at sc;unfold B8;(repeat' (first |refine A6 ?_ |refine A2 ?_ |refine A3 ?_ |refine A5 ?_ |((first |refine rR (fun K kp hK hkp=>?_) |refine rX (id:=14) AA [0] 12 [0,1,2,3,4,5,6,7,8,9,10,11] (fun K kp hK hkp=>?_) |refine oR [1] wc ?_ |refine oR [1] sc ?_ |refine iG ?_ |refine iD ?_ |refine iX ?_);simp(implicitDefEqProofs:=false) (maxSteps:=2000000) (disch:=omega) only[go_sem,d1,d2,d3,d4];(repeat' (first |(refine hK _ ?_;clear hK hkp kp K) |(with_reducible refine And.intro ?_ ?_) |omega))) |((first |refine aG (fun h=>?_) (fun h=>?_) |refine aD (fun h=>?_) (fun h=>?_) |refine aX (fun h=>?_) (fun h=>?_))<;>simp only[h]) |refine A0 rfl ?_ |refine A1 rfl ?_ |((refine A4 rfl (fun h=>?_) (fun h=>?_)<;>try simp only[AK] at h)<;>(try (exfalso;omega))) |refine A7 ?_));(refine AB (by(simp(implicitDefEqProofs:=false) (maxSteps:=2000000) (disch:=omega) only[go_sem,results6]);rfl) ?_;refine eN hE ?_;simp[AI,ren,renL])
  ·have d3:decide ((u.p:Int)<(l.length:Int))=false:=decide_eq_false (by omega)
   have d4:(u.e !=0)=false:=by simpa using h0
   have e1:(if u.e=0∧u.p<l.length then BA l u 6 else u)=u:=if_neg (fun h=>h1 h.2);rw[e1,if_pos h0] at hA;rw[hA];clear hA e1;unfold B8;simp only[CU];(repeat' (first |refine A6 ?_ |refine A2 ?_ |refine A3 ?_ |refine A5 ?_ |((first |refine rR (fun K kp hK hkp=>?_) |refine rX (id:=14) AA [0] 12 [0,1,2,3,4,5,6,7,8,9,10,11] (fun K kp hK hkp=>?_) |refine oR [1] wc ?_ |refine iG ?_ |refine iD ?_ |refine iX ?_);simp(implicitDefEqProofs:=false) (maxSteps:=2000000) (disch:=omega) only[go_sem,d1,d2,d3,d4];(repeat' (first |(refine hK _ ?_;clear hK hkp kp K) |(with_reducible refine And.intro ?_ ?_) |omega))) |((first |refine aG (fun h=>?_) (fun h=>?_) |refine aD (fun h=>?_) (fun h=>?_) |refine aX (fun h=>?_) (fun h=>?_))<;>simp only[h]) |refine A0 rfl ?_ |refine A1 rfl ?_ |((refine A4 rfl (fun h=>?_) (fun h=>?_)<;>try simp only[AK] at h)<;>(try (exfalso;omega))) |refine A7 ?_));(refine AB (by(simp(implicitDefEqProofs:=false) (maxSteps:=2000000) (disch:=omega) only[go_sem,results6]);rfl) ?_;refine eN hE ?_;simp[AI,ren,renL])
 ·have d2:(u.e==0)=false:=by simpa using h0
  have d4:(u.e !=0)=true:=by simpa using h0
  have e1:(if u.e=0∧u.p<l.length then BA l u 6 else u)=u:=if_neg (fun h=>h0 h.1);rw[e1,if_neg h0] at hA;rw[hA];clear hA e1;unfold B8;(repeat' (first |refine A6 ?_ |refine A2 ?_ |refine A3 ?_ |refine A5 ?_ |((first |refine rR (fun K kp hK hkp=>?_) |refine rX (id:=14) AA [0] 12 [0,1,2,3,4,5,6,7,8,9,10,11] (fun K kp hK hkp=>?_) |refine oR [1] wc ?_ |refine iG ?_ |refine iD ?_ |refine iX ?_);simp(implicitDefEqProofs:=false) (maxSteps:=2000000) (disch:=omega) only[go_sem,d1,d2,d4];(repeat' (first |(refine hK _ ?_;clear hK hkp kp K) |(with_reducible refine And.intro ?_ ?_) |omega))) |((first |refine aG (fun h=>?_) (fun h=>?_) |refine aD (fun h=>?_) (fun h=>?_) |refine aX (fun h=>?_) (fun h=>?_))<;>simp only[h]) |refine A0 rfl ?_ |refine A1 rfl ?_ |((refine A4 rfl (fun h=>?_) (fun h=>?_)<;>try simp only[AK] at h)<;>(try (exfalso;omega))) |refine A7 ?_));(refine AB (by(simp(implicitDefEqProofs:=false) (maxSteps:=2000000) (disch:=omega) only[go_sem,results6]);rfl) ?_;refine eN hE ?_;simp[AI,ren,renL])
end Go.AM
namespace Go.AM
open Go Go.RowKit
open Go.Proofs.YtmgddlckgpfccaaDoor (OP Ac AY AR StrsAt str Ga EM digB bt)
attribute [local irreducible] AWP BS
set_option maxHeartbeats 4000000 in
theorem ND (G:List (Nat×List Value))(t t':Bool)(l:List TK0)(hl:l.length≤1048576):Con prog G 8 [.ro t 3 (l.map eT),.ro t' 3 (l.map eT)] [] 0 (Is (.r (.bool true)) [] 0) No:=by
 refine A8 func8 rfl (by kernel_rfl) (of_decide_eq_true (by kernel_rfl)) ?_;intro E hG hE;subst hG;simp only[Ai];(repeat' (first |refine A6 ?_ |refine A2 ?_ |refine A3 ?_ |refine A5 ?_ |((first |refine rR (fun K kp hK hkp=>?_) |refine rD (id:=6) AA 9 [0,1,2,3,4,5,6,7,8] (fun K kp hK hkp=>?_) |refine iG ?_ |refine iD ?_);simp(implicitDefEqProofs:=false) (maxSteps:=2000000) (disch:=omega) only[go_sem,bne_self_eq_false];(repeat' (first |(refine hK _ ?_;clear hK hkp kp K) |(with_reducible refine And.intro ?_ ?_) |omega))) |((first |refine aG (fun h=>?_) (fun h=>?_) |refine aD (fun h=>?_) (fun h=>?_) |refine aX (fun h=>?_) (fun h=>?_))<;>simp only[h]) |refine A0 rfl ?_ |refine A1 rfl ?_ |((refine A4 rfl (fun h=>?_) (fun h=>?_)<;>try simp only[AK] at h)<;>(try (exfalso;omega))) |refine A7 ?_));refine Ap (fun k:Nat=>⟨[(5,.r (.int .i64 k)),(0,.ro t 3 (l.map eT)),(1,.ro t' 3 (l.map eT))],[],0⟩) (fun k=>k≤l.length) (fun k=>l.length - k) 0 ?_ ?_ ?_
 ·simp
 ·(refine Am hE [] rfl ?_ ?_<;>simp[Bi,AH,lk,ren,renL,A9,AG]<;>(try omega))
 intro k hk
 by_cases hlt:k<l.length
 ·obtain⟨x,hx⟩: ∃x,l[k]?=some x:=⟨l[k],by simp[hlt]⟩
  have d1:decide ((k:Int)<(l.length:Int))=true:=decide_eq_true (by omega);(repeat' (first |refine A6 ?_ |refine A2 ?_ |refine A3 ?_ |refine A5 ?_ |((first |refine rR (fun K kp hK hkp=>?_) |refine rD (id:=6) AA 9 [0,1,2,3,4,5,6,7,8] (fun K kp hK hkp=>?_) |refine iG ?_ |refine iD ?_);simp(implicitDefEqProofs:=false) (maxSteps:=2000000) (disch:=omega) only[go_sem,hx,eT,d1,beq_self_eq_true,Bool.and_self,Bool.and_true,Bool.not_true];(repeat' (first |(refine hK _ ?_;clear hK hkp kp K) |(with_reducible refine And.intro ?_ ?_) |omega))) |((first |refine aG (fun h=>?_) (fun h=>?_) |refine aD (fun h=>?_) (fun h=>?_) |refine aX (fun h=>?_) (fun h=>?_))<;>simp only[h]) |refine A0 rfl ?_ |refine A1 rfl ?_ |((refine A4 rfl (fun h=>?_) (fun h=>?_)<;>try simp only[AK] at h)<;>(try (exfalso;omega))) |refine A7 ?_))
  ((first |(refine Ba (k+1) ?_ ?_ ?_) |(refine BT (k+1) ?_ ?_ ?_) |(refine nextE (k+1) ?_ ?_ ?_));rotate_left;(·(try dsimp only);(first |omega |(simp only[List.length_drop,List.length_cons,List.length_append];omega) |(simp;done) |(simp;omega)));(·(refine Am hE [] rfl ?_ ?_<;>simp[Bi,AH,lk,ren,renL,A9,AG]<;>(try omega))))
  omega
 ·have d1:decide ((k:Int)<(l.length:Int))=false:=decide_eq_false (by omega)
  (repeat' (first |refine A6 ?_ |refine A2 ?_ |refine A3 ?_ |refine A5 ?_ |((first |refine rR (fun K kp hK hkp=>?_) |refine rD (id:=6) AA 9 [0,1,2,3,4,5,6,7,8] (fun K kp hK hkp=>?_) |refine iG ?_ |refine iD ?_);simp(implicitDefEqProofs:=false) (maxSteps:=2000000) (disch:=omega) only[go_sem,d1];(repeat' (first |(refine hK _ ?_;clear hK hkp kp K) |(with_reducible refine And.intro ?_ ?_) |omega))) |((first |refine aG (fun h=>?_) (fun h=>?_) |refine aD (fun h=>?_) (fun h=>?_) |refine aX (fun h=>?_) (fun h=>?_))<;>simp only[h]) |refine A0 rfl ?_ |refine A1 rfl ?_ |((refine A4 rfl (fun h=>?_) (fun h=>?_)<;>try simp only[AK] at h)<;>(try (exfalso;omega))) |refine A7 ?_));(refine AB (by(simp(implicitDefEqProofs:=false) (maxSteps:=2000000) (disch:=omega) only[go_sem,results8]);rfl) ?_;refine eN hE ?_;simp[AI,ren,renL])
set_option maxHeartbeats 4000000 in
theorem NE (G:List (Nat×List Value))(t t':Bool)(l:List CO)(hl:l.length≤1048576):Con prog G 16 [.ro t 2 (l.map eC),.ro t' 2 (l.map eC)] [] 0 (Is (.r (.bool true)) [] 0) No:=by
 refine A8 func16 rfl (by kernel_rfl) (of_decide_eq_true (by kernel_rfl)) ?_;intro E hG hE;subst hG;simp only[Ai];(repeat' (first |refine A6 ?_ |refine A2 ?_ |refine A3 ?_ |refine A5 ?_ |((first |refine rR (fun K kp hK hkp=>?_) |refine rD (id:=6) AA 9 [0,1,2,3,4,5,6,7,8] (fun K kp hK hkp=>?_) |refine iG ?_ |refine iD ?_);simp(implicitDefEqProofs:=false) (maxSteps:=2000000) (disch:=omega) only[go_sem,bne_self_eq_false];(repeat' (first |(refine hK _ ?_;clear hK hkp kp K) |(with_reducible refine And.intro ?_ ?_) |omega))) |((first |refine aG (fun h=>?_) (fun h=>?_) |refine aD (fun h=>?_) (fun h=>?_) |refine aX (fun h=>?_) (fun h=>?_))<;>simp only[h]) |refine A0 rfl ?_ |refine A1 rfl ?_ |((refine A4 rfl (fun h=>?_) (fun h=>?_)<;>try simp only[AK] at h)<;>(try (exfalso;omega))) |refine A7 ?_));refine Ap (fun k:Nat=>⟨[(5,.r (.int .i64 k)),(0,.ro t 2 (l.map eC)),(1,.ro t' 2 (l.map eC))],[],0⟩) (fun k=>k≤l.length) (fun k=>l.length - k) 0 ?_ ?_ ?_
 ·simp
 ·(refine Am hE [] rfl ?_ ?_<;>simp[Bi,AH,lk,ren,renL,A9,AG]<;>(try omega))
 intro k hk
 by_cases hlt:k<l.length
 ·obtain⟨x,hx⟩: ∃x,l[k]?=some x:=⟨l[k],by simp[hlt]⟩
  have d1:decide ((k:Int)<(l.length:Int))=true:=decide_eq_true (by omega);(repeat' (first |refine A6 ?_ |refine A2 ?_ |refine A3 ?_ |refine A5 ?_ |((first |refine rR (fun K kp hK hkp=>?_) |refine rD (id:=6) AA 9 [0,1,2,3,4,5,6,7,8] (fun K kp hK hkp=>?_) |refine iG ?_ |refine iD ?_);simp(implicitDefEqProofs:=false) (maxSteps:=2000000) (disch:=omega) only[go_sem,hx,eC,d1,beq_self_eq_true,Bool.and_self,Bool.and_true,Bool.not_true];(repeat' (first |(refine hK _ ?_;clear hK hkp kp K) |(with_reducible refine And.intro ?_ ?_) |omega))) |((first |refine aG (fun h=>?_) (fun h=>?_) |refine aD (fun h=>?_) (fun h=>?_) |refine aX (fun h=>?_) (fun h=>?_))<;>simp only[h]) |refine A0 rfl ?_ |refine A1 rfl ?_ |((refine A4 rfl (fun h=>?_) (fun h=>?_)<;>try simp only[AK] at h)<;>(try (exfalso;omega))) |refine A7 ?_))
  ((first |(refine Ba (k+1) ?_ ?_ ?_) |(refine BT (k+1) ?_ ?_ ?_) |(refine nextE (k+1) ?_ ?_ ?_));rotate_left;(·(try dsimp only);(first |omega |(simp only[List.length_drop,List.length_cons,List.length_append];omega) |(simp;done) |(simp;omega)));(·(refine Am hE [] rfl ?_ ?_<;>simp[Bi,AH,lk,ren,renL,A9,AG]<;>(try omega))))
  omega
 ·have d1:decide ((k:Int)<(l.length:Int))=false:=decide_eq_false (by omega)
  (repeat' (first |refine A6 ?_ |refine A2 ?_ |refine A3 ?_ |refine A5 ?_ |((first |refine rR (fun K kp hK hkp=>?_) |refine rD (id:=6) AA 9 [0,1,2,3,4,5,6,7,8] (fun K kp hK hkp=>?_) |refine iG ?_ |refine iD ?_);simp(implicitDefEqProofs:=false) (maxSteps:=2000000) (disch:=omega) only[go_sem,d1];(repeat' (first |(refine hK _ ?_;clear hK hkp kp K) |(with_reducible refine And.intro ?_ ?_) |omega))) |((first |refine aG (fun h=>?_) (fun h=>?_) |refine aD (fun h=>?_) (fun h=>?_) |refine aX (fun h=>?_) (fun h=>?_))<;>simp only[h]) |refine A0 rfl ?_ |refine A1 rfl ?_ |((refine A4 rfl (fun h=>?_) (fun h=>?_)<;>try simp only[AK] at h)<;>(try (exfalso;omega))) |refine A7 ?_));(refine AB (by(simp(implicitDefEqProofs:=false) (maxSteps:=2000000) (disch:=omega) only[go_sem,results16]);rfl) ?_;refine eN hE ?_;simp[AI,ren,renL])
set_option maxHeartbeats 4000000 in
theorem Lr (G:List (Nat×List Value))(t t':Bool)(l:List V)(hl:l.length≤1048576):Con prog G 17 [.ro t 3 (l.map eV),.ro t' 3 (l.map eV)] [] 0 (Is (.r (.bool true)) [] 0) No:=by
 refine A8 func17 rfl (by kernel_rfl) (of_decide_eq_true (by kernel_rfl)) ?_;intro E hG hE;subst hG;simp only[Ai];(repeat' (first |refine A6 ?_ |refine A2 ?_ |refine A3 ?_ |refine A5 ?_ |((first |refine rR (fun K kp hK hkp=>?_) |refine rD (id:=6) AA 9 [0,1,2,3,4,5,6,7,8] (fun K kp hK hkp=>?_) |refine iG ?_ |refine iD ?_);simp(implicitDefEqProofs:=false) (maxSteps:=2000000) (disch:=omega) only[go_sem,bne_self_eq_false];(repeat' (first |(refine hK _ ?_;clear hK hkp kp K) |(with_reducible refine And.intro ?_ ?_) |omega))) |((first |refine aG (fun h=>?_) (fun h=>?_) |refine aD (fun h=>?_) (fun h=>?_) |refine aX (fun h=>?_) (fun h=>?_))<;>simp only[h]) |refine A0 rfl ?_ |refine A1 rfl ?_ |((refine A4 rfl (fun h=>?_) (fun h=>?_)<;>try simp only[AK] at h)<;>(try (exfalso;omega))) |refine A7 ?_));refine Ap (fun k:Nat=>⟨[(5,.r (.int .i64 k)),(0,.ro t 3 (l.map eV)),(1,.ro t' 3 (l.map eV))],[],0⟩) (fun k=>k≤l.length) (fun k=>l.length - k) 0 ?_ ?_ ?_
 ·simp
 ·(refine Am hE [] rfl ?_ ?_<;>simp[Bi,AH,lk,ren,renL,A9,AG]<;>(try omega))
 intro k hk
 by_cases hlt:k<l.length
 ·obtain⟨x,hx⟩: ∃x,l[k]?=some x:=⟨l[k],by simp[hlt]⟩
  have d1:decide ((k:Int)<(l.length:Int))=true:=decide_eq_true (by omega);(repeat' (first |refine A6 ?_ |refine A2 ?_ |refine A3 ?_ |refine A5 ?_ |((first |refine rR (fun K kp hK hkp=>?_) |refine rD (id:=6) AA 9 [0,1,2,3,4,5,6,7,8] (fun K kp hK hkp=>?_) |refine iG ?_ |refine iD ?_);simp(implicitDefEqProofs:=false) (maxSteps:=2000000) (disch:=omega) only[go_sem,hx,eV,d1,beq_self_eq_true,Bool.and_self,Bool.and_true,Bool.not_true];(repeat' (first |(refine hK _ ?_;clear hK hkp kp K) |(with_reducible refine And.intro ?_ ?_) |omega))) |((first |refine aG (fun h=>?_) (fun h=>?_) |refine aD (fun h=>?_) (fun h=>?_) |refine aX (fun h=>?_) (fun h=>?_))<;>simp only[h]) |refine A0 rfl ?_ |refine A1 rfl ?_ |((refine A4 rfl (fun h=>?_) (fun h=>?_)<;>try simp only[AK] at h)<;>(try (exfalso;omega))) |refine A7 ?_))
  ((first |(refine Ba (k+1) ?_ ?_ ?_) |(refine BT (k+1) ?_ ?_ ?_) |(refine nextE (k+1) ?_ ?_ ?_));rotate_left;(·(try dsimp only);(first |omega |(simp only[List.length_drop,List.length_cons,List.length_append];omega) |(simp;done) |(simp;omega)));(·(refine Am hE [] rfl ?_ ?_<;>simp[Bi,AH,lk,ren,renL,A9,AG]<;>(try omega))))
  omega
 ·have d1:decide ((k:Int)<(l.length:Int))=false:=decide_eq_false (by omega)
  (repeat' (first |refine A6 ?_ |refine A2 ?_ |refine A3 ?_ |refine A5 ?_ |((first |refine rR (fun K kp hK hkp=>?_) |refine rD (id:=6) AA 9 [0,1,2,3,4,5,6,7,8] (fun K kp hK hkp=>?_) |refine iG ?_ |refine iD ?_);simp(implicitDefEqProofs:=false) (maxSteps:=2000000) (disch:=omega) only[go_sem,d1];(repeat' (first |(refine hK _ ?_;clear hK hkp kp K) |(with_reducible refine And.intro ?_ ?_) |omega))) |((first |refine aG (fun h=>?_) (fun h=>?_) |refine aD (fun h=>?_) (fun h=>?_) |refine aX (fun h=>?_) (fun h=>?_))<;>simp only[h]) |refine A0 rfl ?_ |refine A1 rfl ?_ |((refine A4 rfl (fun h=>?_) (fun h=>?_)<;>try simp only[AK] at h)<;>(try (exfalso;omega))) |refine A7 ?_));(refine AB (by(simp(implicitDefEqProofs:=false) (maxSteps:=2000000) (disch:=omega) only[go_sem,results17]);rfl) ?_;refine eN hE ?_;simp[AI,ren,renL])
set_option maxHeartbeats 4000000 in
theorem JA (G:List (Nat×List Value))(t t':Bool)(l:List OP)(hl:l.length≤1048576):Con prog G 18 [.ro t 5 (l.map eO),.ro t' 5 (l.map eO)] [] 0 (Is (.r (.bool true)) [] 0) No:=by
 refine A8 func18 rfl (by kernel_rfl) (of_decide_eq_true (by kernel_rfl)) ?_;intro E hG hE;subst hG;simp only[Ai];(repeat' (first |refine A6 ?_ |refine A2 ?_ |refine A3 ?_ |refine A5 ?_ |((first |refine rR (fun K kp hK hkp=>?_) |refine rD (id:=6) AA 9 [0,1,2,3,4,5,6,7,8] (fun K kp hK hkp=>?_) |refine iG ?_ |refine iD ?_);simp(implicitDefEqProofs:=false) (maxSteps:=2000000) (disch:=omega) only[go_sem,bne_self_eq_false];(repeat' (first |(refine hK _ ?_;clear hK hkp kp K) |(with_reducible refine And.intro ?_ ?_) |omega))) |((first |refine aG (fun h=>?_) (fun h=>?_) |refine aD (fun h=>?_) (fun h=>?_) |refine aX (fun h=>?_) (fun h=>?_))<;>simp only[h]) |refine A0 rfl ?_ |refine A1 rfl ?_ |((refine A4 rfl (fun h=>?_) (fun h=>?_)<;>try simp only[AK] at h)<;>(try (exfalso;omega))) |refine A7 ?_));refine Ap (fun k:Nat=>⟨[(5,.r (.int .i64 k)),(0,.ro t 5 (l.map eO)),(1,.ro t' 5 (l.map eO))],[],0⟩) (fun k=>k≤l.length) (fun k=>l.length - k) 0 ?_ ?_ ?_
 ·simp
 ·(refine Am hE [] rfl ?_ ?_<;>simp[Bi,AH,lk,ren,renL,A9,AG]<;>(try omega))
 intro k hk
 by_cases hlt:k<l.length
 ·obtain⟨x,hx⟩: ∃x,l[k]?=some x:=⟨l[k],by simp[hlt]⟩
  have d1:decide ((k:Int)<(l.length:Int))=true:=decide_eq_true (by omega);(repeat' (first |refine A6 ?_ |refine A2 ?_ |refine A3 ?_ |refine A5 ?_ |((first |refine rR (fun K kp hK hkp=>?_) |refine rD (id:=6) AA 9 [0,1,2,3,4,5,6,7,8] (fun K kp hK hkp=>?_) |refine iG ?_ |refine iD ?_);simp(implicitDefEqProofs:=false) (maxSteps:=2000000) (disch:=omega) only[go_sem,hx,eO,d1,beq_self_eq_true,Bool.and_self,Bool.and_true,Bool.not_true];(repeat' (first |(refine hK _ ?_;clear hK hkp kp K) |(with_reducible refine And.intro ?_ ?_) |omega))) |((first |refine aG (fun h=>?_) (fun h=>?_) |refine aD (fun h=>?_) (fun h=>?_) |refine aX (fun h=>?_) (fun h=>?_))<;>simp only[h]) |refine A0 rfl ?_ |refine A1 rfl ?_ |((refine A4 rfl (fun h=>?_) (fun h=>?_)<;>try simp only[AK] at h)<;>(try (exfalso;omega))) |refine A7 ?_))
  ((first |(refine Ba (k+1) ?_ ?_ ?_) |(refine BT (k+1) ?_ ?_ ?_) |(refine nextE (k+1) ?_ ?_ ?_));rotate_left;(·(try dsimp only);(first |omega |(simp only[List.length_drop,List.length_cons,List.length_append];omega) |(simp;done) |(simp;omega)));(·(refine Am hE [] rfl ?_ ?_<;>simp[Bi,AH,lk,ren,renL,A9,AG]<;>(try omega))))
  omega
 ·have d1:decide ((k:Int)<(l.length:Int))=false:=decide_eq_false (by omega)
  (repeat' (first |refine A6 ?_ |refine A2 ?_ |refine A3 ?_ |refine A5 ?_ |((first |refine rR (fun K kp hK hkp=>?_) |refine rD (id:=6) AA 9 [0,1,2,3,4,5,6,7,8] (fun K kp hK hkp=>?_) |refine iG ?_ |refine iD ?_);simp(implicitDefEqProofs:=false) (maxSteps:=2000000) (disch:=omega) only[go_sem,d1];(repeat' (first |(refine hK _ ?_;clear hK hkp kp K) |(with_reducible refine And.intro ?_ ?_) |omega))) |((first |refine aG (fun h=>?_) (fun h=>?_) |refine aD (fun h=>?_) (fun h=>?_) |refine aX (fun h=>?_) (fun h=>?_))<;>simp only[h]) |refine A0 rfl ?_ |refine A1 rfl ?_ |((refine A4 rfl (fun h=>?_) (fun h=>?_)<;>try simp only[AK] at h)<;>(try (exfalso;omega))) |refine A7 ?_));(refine AB (by(simp(implicitDefEqProofs:=false) (maxSteps:=2000000) (disch:=omega) only[go_sem,results18]);rfl) ?_;refine eN hE ?_;simp[AI,ren,renL])
set_option maxHeartbeats 8000000 in
theorem Gu (G:List (Nat×List Value))(s:ST)(olc:s.cols.length≤1048576)(olr:s.row.length≤1048576)(oln:s.names.length≤1048576)(olw:s.wh.length≤1048576)(olt:s.to.length≤1048576):Con prog G 7 [.agg (CU s),.agg (CU s)] [] 0 (Is (.r (.bool true)) [] 0) No:=by
 refine A8 func7 rfl (by kernel_rfl) (of_decide_eq_true (by kernel_rfl)) ?_;intro E hG hE;subst hG;simp only[Ai];have c1:=NE E.G true true s.cols olc;have c2:=Lr E.G true true s.row olr;have c3:=JA E.G true true s.wh olw;have c4:=JA E.G true true s.to olt;(repeat' (first |refine A6 ?_ |refine A2 ?_ |refine A3 ?_ |refine A5 ?_ |((first |refine rR (fun K kp hK hkp=>?_) |refine rD (id:=8) AA 11 [0,1,2,3,4,5,6,7,8,9,10] (fun K kp hK hkp=>?_) |refine cR c1 ?_ |refine cD c1 ?_ |refine cR c2 ?_ |refine cD c2 ?_ |refine cR c3 ?_ |refine cD c3 ?_ |refine cR c4 ?_ |refine cD c4 ?_ |refine iG ?_ |refine iD ?_);simp(implicitDefEqProofs:=false) (maxSteps:=2000000) (disch:=omega) only[go_sem,CU,bne_self_eq_false,beq_self_eq_true,Bool.not_true];(repeat' (first |(refine hK _ ?_;clear hK hkp kp K) |(with_reducible refine And.intro ?_ ?_) |omega))) |((first |refine aG (fun h=>?_) (fun h=>?_) |refine aD (fun h=>?_) (fun h=>?_) |refine aX (fun h=>?_) (fun h=>?_))<;>simp only[h]) |refine A0 rfl ?_ |refine A1 rfl ?_ |((refine A4 rfl (fun h=>?_) (fun h=>?_)<;>try simp only[AK] at h)<;>(try (exfalso;omega))) |refine A7 ?_));have hn:=oln;refine Ap (fun k:Nat=>⟨[(5,.r (.int .i64 k)),(2,.p 0 0 0),(3,.p 1 0 0)],[(0,.box 29 (CU s)),(1,.box 29 (CU s))],2⟩) (fun k=>k≤s.names.length) (fun k=>s.names.length - k) 0 ?_ ?_ ?_
 ·simp
 ·(refine Am hE [0,1] rfl ?_ ?_<;>simp[Bi,AH,lk,ren,renL,A9,AG,CU]<;>(try omega))
 intro k hk
 by_cases hlt:k<s.names.length
 ·obtain⟨x,hx⟩: ∃x,s.names[k]?=some x:=⟨s.names[k],by simp[hlt]⟩
  have d1:decide ((k:Int)<(s.names.length:Int))=true:=decide_eq_true (by omega);(repeat' (first |refine A6 ?_ |refine A2 ?_ |refine A3 ?_ |refine A5 ?_ |((first |refine rR (fun K kp hK hkp=>?_) |refine rD (id:=8) AA 11 [0,1,2,3,4,5,6,7,8,9,10] (fun K kp hK hkp=>?_) |refine iG ?_ |refine iD ?_);simp(implicitDefEqProofs:=false) (maxSteps:=2000000) (disch:=omega) only[go_sem,CU,hx,Bc,d1,beq_self_eq_true,Bool.not_true];(repeat' (first |(refine hK _ ?_;clear hK hkp kp K) |(with_reducible refine And.intro ?_ ?_) |omega))) |((first |refine aG (fun h=>?_) (fun h=>?_) |refine aD (fun h=>?_) (fun h=>?_) |refine aX (fun h=>?_) (fun h=>?_))<;>simp only[h]) |refine A0 rfl ?_ |refine A1 rfl ?_ |((refine A4 rfl (fun h=>?_) (fun h=>?_)<;>try simp only[AK] at h)<;>(try (exfalso;omega))) |refine A7 ?_))
  ((first |(refine Ba (k+1) ?_ ?_ ?_) |(refine BT (k+1) ?_ ?_ ?_) |(refine nextE (k+1) ?_ ?_ ?_));rotate_left;(·(try dsimp only);(first |omega |(simp only[List.length_drop,List.length_cons,List.length_append];omega) |(simp;done) |(simp;omega)));(·(refine Am hE [0,1] rfl ?_ ?_<;>simp[Bi,AH,lk,ren,renL,A9,AG,CU]<;>(try omega))))
  omega
 ·have d1:decide ((k:Int)<(s.names.length:Int))=false:=decide_eq_false (by omega)
  (repeat' (first |refine A6 ?_ |refine A2 ?_ |refine A3 ?_ |refine A5 ?_ |((first |refine rR (fun K kp hK hkp=>?_) |refine rD (id:=8) AA 11 [0,1,2,3,4,5,6,7,8,9,10] (fun K kp hK hkp=>?_) |refine iG ?_ |refine iD ?_);simp(implicitDefEqProofs:=false) (maxSteps:=2000000) (disch:=omega) only[go_sem,CU,d1];(repeat' (first |(refine hK _ ?_;clear hK hkp kp K) |(with_reducible refine And.intro ?_ ?_) |omega))) |((first |refine aG (fun h=>?_) (fun h=>?_) |refine aD (fun h=>?_) (fun h=>?_) |refine aX (fun h=>?_) (fun h=>?_))<;>simp only[h]) |refine A0 rfl ?_ |refine A1 rfl ?_ |((refine A4 rfl (fun h=>?_) (fun h=>?_)<;>try simp only[AK] at h)<;>(try (exfalso;omega))) |refine A7 ?_));(refine AB (by(simp(implicitDefEqProofs:=false) (maxSteps:=2000000) (disch:=omega) only[go_sem,results7]);rfl) ?_;refine eN hE ?_;simp[AI,ren,renL])
end Go.AM
namespace Go.AM
open Go Go.RowKit
open Go.Proofs.YtmgddlckgpfccaaDoor (OP Ac AY AR str CK)
def DT {α:Type}(l:List TK0)(R:RM α)(Q:α→Prop):Prop:= ∀s,WkG l s→Q (R s).1
theorem Cv {α β:Type}{l:List TK0}{R:RM α}{P:Nat→PR α}{R2:α→RM β}{Q:α→Prop}{Q2:β→Prop}(h:Rel l R P)(h1:DT l R Q)(h2: ∀a,Q a→DT l (R2 a) Q2):DT l (AZ R R2) Q2:=fun s hs=>h2 _ (h1 s hs) _ (h.g s hs)
theorem Al {α β:Type}{l:List TK0}{R:RM α}{P:Nat→PR α}{R2:α→RM β}{Q2:β→Prop}(h:Rel l R P)(h2: ∀a,DT l (R2 a) Q2):DT l (AZ R R2) Q2:=fun s hs=>h2 _ _ (h.g s hs)
theorem CR {α:Type}{l:List TK0}{k:Int}{t:ByteArray}{A B:RM α}{Q:α→Prop}(h1:DT l A Q)(h2:DT l B Q):DT l (D9 l k t A B) Q:=fun s hs=>by
 unfold D9;split
 ·rename_i h;exact h1 _ (BY hs (As h).2)
 ·exact h2 _ hs
theorem BJ {α:Type}{l:List TK0}{a:α}{Q:α→Prop}(h:Q a):DT l (B0 a) Q:=fun _ _=>h
theorem FN {α:Type}{l:List TK0}{e:Int}{a:α}{Q:α→Prop}(h:Q a):DT l (DU l e a) Q:=fun _ _=>h
theorem Gk {α:Type}{l:List TK0}{a:α}{R:RM α}{Q:α→Prop}(h:Q a)(h2:DT l R Q):DT l (Cm a R) Q:=fun s hs=>by
 unfold Cm;split
 ·exact h
 ·exact h2 s hs
theorem IT {α:Type}{l:List TK0}{c:Prop}[Decidable c]{A B:RM α}{Q:α→Prop}(h1:DT l A Q)(h2:DT l B Q):DT l (if c then A else B) Q:=by
 split
 ·exact h1
 ·exact h2
theorem JS {l:List TK0}(hl:l.length≤100):DT l (D4 l) (fun q=>q.length≤41):=fun s hs=>by
 have h1:=EW hl hs;have w0:WkOk l {s with c:=0}:=⟨hs.ok.p,fun _=>Nat.zero_le _,Nat.zero_le _⟩;obtain⟨w1,_,h2⟩:=Be l _ 0 _ [] (D4 l s).1 (D4 l s).2 h1 (by omega) w0;have h3:=w1.c;rw[if_pos (by decide)] at h2;dsimp only at h2;omega
theorem F3 {l:List TK0}(hl:l.length≤100):DT l (D0 l) (fun q=>q.length≤41):=CR (JS hl) (BJ (by simp))
theorem JR {l:List TK0}: ∀(f:Nat)(out:List V),f+out.length≤7→DT l (HH l f out) (fun q=>q.length≤7)
 |0,out,h=>BJ (by omega)
 |f+1,out,h=>Gk (by omega) (IT (FN (by omega)) (Al (HR l) fun v=>CR (JR f _ (by rw[List.length_append];simp only[List.length_cons,List.length_nil];omega)) (BJ (by rw[List.length_append];simp only[List.length_cons,List.length_nil];omega))))
theorem Ma {l:List TK0}: ∀(f:Nat)(out:List V)(s:WK),WkG l s→WkG l (HH l f out s).2
 |0,out,s,h=>h
 |f+1,out,s,h=>by
  rw[HH];unfold Cm;split
  ·exact h
  split
  ·exact DZ h 10 (by decide)
  unfold AZ D9;have h1:=(HR l).g s h;dsimp only;split
  ·rename_i ho;exact Ma f _ _ (BY h1 (As ho).2)
  ·exact h1
theorem IV {α:Type}{l:List TK0}{a:α}{Q:α→Prop}(h:Q a):DT l (CZ l a) Q:=fun _ _=>h
theorem P8 {l:List TK0}:DT l (EQ l) (fun q=>q.length≤7):=
 Al (CF l Ax) fun _=>fun s hs=>IV (l:=l) (Q:=fun q:List V=>q.length≤7) (JR 7 [] (by simp) s hs) _ (Ma 7 [] s hs)
theorem IU {l:List TK0}: ∀(f:Nat)(out:List CO),f+out.length≤7→DT l (Ef l f out) (fun q=>q.length≤7)
 |0,out,h=>BJ (by omega)
 |f+1,out,h=>Gk (by omega) (IT (FN (by omega)) (Al (EP l out) fun v=>Al (Js l) fun k=>CR (IU f _ (by rw[List.length_append];simp only[List.length_cons,List.length_nil];omega)) (BJ (by rw[List.length_append];simp only[List.length_cons,List.length_nil];omega))))
theorem KY {l:List TK0}: ∀(f:Nat)(out:List CO)(s:WK),WkG l s→WkG l (Ef l f out s).2
 |0,out,s,h=>h
 |f+1,out,s,h=>by
  rw[Ef];unfold Cm;split
  ·exact h
  split
  ·exact DZ h 10 (by decide)
  unfold AZ D9;have h1:=(Js l).g _ ((EP l out).g s h);dsimp only;split
  ·rename_i ho;exact KY f _ _ (BY h1 (As ho).2)
  ·exact h1
theorem Nq {l:List TK0}:DT l (Dn l) (fun q=>q.length≤7):=
 Al (CF l Ax) fun _=>fun s hs=>IV (l:=l) (Q:=fun q:List CO=>q.length≤7) (IU 7 [] (by simp) s hs) _ (KY 7 [] s hs)
theorem IS {l:List TK0}: ∀(f:Nat)(out:List ByteArray),f+out.length≤7→DT l (ER l f out) (fun q=>q.length≤7)
 |0,out,h=>BJ (by omega)
 |f+1,out,h=>Gk (by omega) (IT (FN (by omega)) (Al (BN l) fun v=>CR (IS f _ (by rw[List.length_append];simp only[List.length_cons,List.length_nil];omega)) (BJ (by rw[List.length_append];simp only[List.length_cons,List.length_nil];omega))))
theorem Np {l:List TK0}:DT l (KX l) (fun w=>w.1.length≤7):=
 CR (Al (CF l Ax) fun _=>Al (CF l BQ) fun _=>Al (CF l AW) fun _=>BJ (by simp)) (CR (BJ (by simp)) (Cv (JC l 6 [] rfl) (IS 7 [] (by simp)) fun ns h=>BJ h))
structure LenST (s:ST):Prop where
 c:s.cols.length≤100
 r:s.row.length≤100
 n:s.names.length≤100
 w:s.wh.length≤100
 t:s.to.length≤100
theorem K7 (k:Int)(t:ByteArray):LenST (Cw k t):=by constructor<;>simp[Cw]
theorem MJ {l:List TK0}(hl:l.length≤100):DT l (Ak l) LenST:=by
 refine CR (Al (C1 l Bk) fun _=>Al (BN l) fun t=>Cv (Hs l) Nq fun cs h=>BJ ?_)
  (CR (Al (C1 l Bk) fun _=>Al (BN l) fun t=>BJ (K7 2 t))
  (CR (Al (C1 l ED) fun _=>Al (BN l) fun t=>Al (C1 l Cg) fun _=>Cv (Jt l) P8 fun r h=>BJ ?_)
  (CR (Cv (Hq l) Np fun w h=>Al (C1 l CI) fun _=>Al (BN l) fun t=>Cv (CP hl) (F3 hl) fun wh h2=>Al (Ju l) fun o=>Al (Mf l) fun n=>BJ ?_)
  (CR (Al (BN l) fun t=>Al (C1 l GS) fun _=>Al (BN l) fun s=>Al (CF l JQ) fun _=>Cv (Fy hl) (JS hl) fun to h=>Cv (CP hl) (F3 hl) fun wh h2=>BJ ?_)
  (CR (Al (C1 l CI) fun _=>Al (BN l) fun t=>Cv (CP hl) (F3 hl) fun wh h=>BJ ?_)
  (CR (BJ (K7 7 _)) (CR (BJ (K7 8 _)) (CR (BJ (K7 9 _)) (FN (K7 0 _))))))))))
 ·have:=K7 1 t;exact⟨by dsimp only;omega,this.r,this.n,this.w,this.t⟩
 ·have:=K7 3 t;exact⟨this.c,by dsimp only;omega,this.n,this.w,this.t⟩
 ·exact⟨by simp,by simp,by dsimp only;omega,by dsimp only;omega,by simp⟩
 ·have:=K7 5 t;exact⟨this.c,this.r,this.n,by dsimp only;omega,by dsimp only;omega⟩
 ·have:=K7 6 t;exact⟨this.c,this.r,this.n,by dsimp only;omega,this.t⟩
theorem Lw (l:List TK0):(∃i e:Int,BI l= .tup [.agg B8,.r (.int .i64 i),.r (.int .i64 e)])∨ ∃s,BI l= .tup [.agg (CU s),.r (.int .i64 0),.r (.int .i64 0)]∧LenST s:=by
 by_cases h100:100<l.length
 ·exact .inl ⟨_,_,by rw[BI,if_pos h100]⟩
 cases hb:E7 0 l with
 |some x=>obtain⟨i,e⟩:=x;exact .inl ⟨_,_,by rw[BI,if_neg h100,hb]⟩
 |none=>
  rw[Ms (by omega) hb];split
  ·exact .inr ⟨_,rfl,MJ (by omega) w0 (OB l)⟩
  ·exact .inl ⟨_,_,rfl⟩
attribute [local irreducible] AWP BS
theorem Kc (G:List (Nat×List Value))(t:Bool)(l:List TK0)(hl:l.length≤1048576):Con prog G 4 [.ro t 3 (l.map eT)] [] 0 (Is (.ro true 3 (l.map eT)) [] 0) No:=by
 refine A8 func4 rfl (by kernel_rfl) (of_decide_eq_true (by kernel_rfl)) ?_;intro E hG hE;subst hG;simp only[Ai];(repeat' (first |refine A6 ?_ |((refine rR (fun K kp hK hkp=>?_));simp(implicitDefEqProofs:=false) (maxSteps:=2000000) (disch:=omega) only[go_sem];(repeat' (first |(refine hK _ ?_;clear hK hkp kp K) |(with_reducible refine And.intro ?_ ?_) |omega))) |refine A7 ?_));(refine AB (by(simp(implicitDefEqProofs:=false) (maxSteps:=2000000) (disch:=omega) only[go_sem,results4]);rfl) ?_;refine CJ (by simp only[AI];simp(implicitDefEqProofs:=false) (maxSteps:=2000000) (disch:=omega) only[go_sem];rfl) ?_;refine(LL hE (by simp) ?_).s;simp[AI,ren,renL])
theorem NC (G:List (Nat×List Value)):Con prog G 7 [.agg B8,.agg B8] [] 0 (Is (.r (.bool true)) [] 0) No:=
 (Gu G ⟨0,str [],[],[],[],false,[],str [],false,0,str [],[]⟩ (by simp) (by simp) (by simp) (by simp) (by simp)).weak (by simp[GJ,wk,CU,B8,str])
set_option maxHeartbeats 16000000 in
theorem J1 {G:List (Nat×List Value)}(T:TabsP G)(l:List TK0)(hl:l.length≤1048576)(hsz: ∀x ∈ l,Fh x.s)(hhi: ∀x ∈ l,x.n≤9223372036854775807):Con prog G 3 [.ro true 3 (l.map eT)] [] 0 (Is (.r (.bool true)) [] 0) No:=by
 refine A8 func3 rfl (by kernel_rfl) (of_decide_eq_true (by kernel_rfl)) ?_;intro E hG hE;subst hG;simp only[Ai];have cc:=Kc E.G true l hl;have pc:=NO T l hl hsz hhi;have dc:=QK E.G l hl hsz hhi;have sm:=ND E.G true true l hl
 rcases Lw l with ⟨i,e,hx⟩ |⟨s,hx,hs⟩
 ·have ss:=NC E.G
  rw[hx] at pc dc;simp only[B8] at pc dc ss;(repeat' (first |refine A6 ?_ |((first |refine rR (fun K kp hK hkp=>?_) |refine cR cc ?_ |refine cR pc ?_ |refine cR dc ?_ |refine cR sm ?_ |refine cR ss ?_);simp(implicitDefEqProofs:=false) (maxSteps:=2000000) (disch:=omega) only[go_sem,beq_self_eq_true];(repeat' (refine hK _ ?_;clear hK hkp kp K))) |refine A7 ?_));(refine AB (by(simp(implicitDefEqProofs:=false) (maxSteps:=2000000) (disch:=omega) only[go_sem,results3]);rfl) ?_;refine eN hE ?_;simp[AI,ren,renL])
 ·have ss:=Gu E.G s (Nat.le_trans hs.c (by decide)) (Nat.le_trans hs.r (by decide)) (Nat.le_trans hs.n (by decide)) (Nat.le_trans hs.w (by decide)) (Nat.le_trans hs.t (by decide))
  rw[hx] at pc dc;simp only[CU] at pc dc ss;(repeat' (first |refine A6 ?_ |((first |refine rR (fun K kp hK hkp=>?_) |refine cR cc ?_ |refine cR pc ?_ |refine cR dc ?_ |refine cR sm ?_ |refine cR ss ?_);simp(implicitDefEqProofs:=false) (maxSteps:=2000000) (disch:=omega) only[go_sem,beq_self_eq_true];(repeat' (refine hK _ ?_;clear hK hkp kp K))) |refine A7 ?_));(refine AB (by(simp(implicitDefEqProofs:=false) (maxSteps:=2000000) (disch:=omega) only[go_sem,results3]);rfl) ?_;refine eN hE ?_;simp[AI,ren,renL])
end Go.AM
namespace Go.Proofs.YtmgddlckgpfccaaDoor
open Go.ChangeShapes Go.WideShapes Go.ChangeAt Go.RowKit
theorem own:ownKnob Tryd.prog.godebug=none:=by kernel_rfl
theorem Py:laidOutB Tryd.prog=true:=by kernel_rfl
theorem Ie:Tryd.prog.cellsOf 37=3:=by kernel_rfl
theorem Rm {P:Program}{w:World}{t e:TypeId}{n fuel:Nat}{cs:List Value}{ls:List (List UInt8)}{p:List MemPlace}{base:Nat}{spare:Nat→Bool}{held:Bool}
  (ht:P.underlying t=some (.array n e)) (he:P.underlying e=some .string) (hce:P.cellsOf e=1)
  (h:DataW.trod (fun _=>()) P w base spare held fuel t cs=some (.agg (ls.map fun l=> .lit (.string l)),p)):
  ls.length=n∧ ∀j:Nat,j<n→cs[j]?=some (.string (str (ls.getD j []))):=by
 obtain⟨xs,m',rfl,hx,hl,hn,hi⟩:=DataW.trod_array ht h;simp only[Prod.mk.injEq,DataW.agg.injEq] at hx
 have hlen:ls.length=n:=by
  have:=congrArg List.length hx.1;simpa[hn] using this
 refine⟨hlen,fun j hj=>?_⟩;have h1:=hi j hj;obtain⟨y,hy⟩: ∃y,xs[j]?=some y:=⟨xs[j],by simp[hn,hj]⟩;rw[hy] at h1;obtain⟨s,e1,rfl,_⟩:=DataW.trod_string he h1;have h2:=congrArg (fun l=>l[j]?) hx.1;simp only[List.getElem?_map,hy,Option.map_some] at h2
 have hj':j<ls.length:=by omega
 rw[List.getElem?_eq_getElem hj'] at h2;simp only[Option.map_some,Option.some.injEq,DataW.lit.injEq,Lit.string.injEq] at h2;rw[hce] at e1;have h4:=congrArg (fun l=>l[0]?) e1;simp at h4;rw[h4]
 have:s=str (ls.getD j []):=by
  rw[List.getD,List.getElem?_eq_getElem hj',Option.getD_some,h2]
  rfl
 rw[this]
def K1:List (List UInt8):=[[60,61],[62,61],[60,62],[40],[41],[44],[42],[43],[45],[61],[60],[62]]
theorem P3:Tryd.prog.globalNamed "padlock/lex.marks" =some 0:=by kernel_rfl
theorem QC:(Tryd.prog.globals[0]?).map (·.type)=some 55:=by kernel_rfl
theorem M1 {W:World}{rest:List (String×DataW Unit)}{ps:List MemPlace}(h:DataW.LaidVars Tryd.prog W (("padlock/lex.marks",Rows.laid_padlock_lex_marks)::rest) ps):
  StrsAt W 0 AY∧0<W.heap.size∧ ∃q,DataW.LaidVars Tryd.prog W rest q:=by
 obtain⟨g,t,cs,fuel,p,q,hg,ht,hvar,hd,hr,_⟩:=h;obtain rfl:=Option.some.inj (P3.symm.trans hg);obtain rfl:=Option.some.inj (QC.symm.trans ht);have e:(Rows.laid_padlock_lex_marks:DataW Unit)= .agg (K1.map fun l=> .lit (.string l)):=rfl;rw[e] at hd;obtain⟨h1,h2⟩:=Rm Tryd.underlying55 Tryd.underlying9 (by kernel_rfl) hd
 have hc: ∀j:Nat,j<12→W.cell? ⟨0,j,none⟩=some (.string (str (K1.getD j []))):=fun j hj=>by
  rw[World.var?_cell P3 hvar];have:=h2 j hj
  rwa [Array.getElem?_toList] at this
 refine⟨fun j hj=>?_,?_,q,hr⟩
 ·rw[hc j hj]
  have:AY=K1.map str:=rfl;rw[this,List.getD,List.getD,List.getElem?_map,List.getElem?_eq_getElem (show j<K1.length from hj)]
  rfl
 ·have h0:=hc 0 (by decide)
  rcases Nat.lt_or_ge 0 W.heap.size with h |h
  ·exact h
  ·simp[World.cell?,Array.getElem?_eq_none h] at h0
end Go.Proofs.YtmgddlckgpfccaaDoor
namespace Go.Proofs.YtmgddlckgpfccaaDoor
open Go.ChangeShapes Go.WideShapes Go.ChangeAt Go.RowKit
theorem P0:Tryd.prog.globalNamed "padlock/parse.words" =some 2:=by kernel_rfl
theorem QA:(Tryd.prog.globals[2]?).map (·.type)=some 82:=by kernel_rfl
theorem Lb {W:World}{rest:List (String×DataW Unit)}{ps:List MemPlace}(h:DataW.LaidVars Tryd.prog W (("padlock/parse.words",Rows.laid_padlock_parse_words)::rest) ps):
  StrsAt W 2 AR∧2<W.heap.size∧ ∃q,DataW.LaidVars Tryd.prog W rest q:=by
 obtain⟨g,t,cs,fuel,p,q,hg,ht,hvar,hd,hr,_⟩:=h;obtain rfl:=Option.some.inj (P0.symm.trans hg);obtain rfl:=Option.some.inj (QA.symm.trans ht);have e:(Rows.laid_padlock_parse_words:DataW Unit)= .agg (Ha.map fun l=> .lit (.string l)):=rfl;rw[e] at hd;obtain⟨h1,h2⟩:=Rm Tryd.underlying82 Tryd.underlying9 (by kernel_rfl) hd
 have hc: ∀j:Nat,j<30→W.cell? ⟨2,j,none⟩=some (.string (str (Ha.getD j []))):=fun j hj=>by
  rw[World.var?_cell P0 hvar];have:=h2 j hj
  rwa [Array.getElem?_toList] at this
 refine⟨fun j hj=>?_,?_,q,hr⟩
 ·rw[hc j hj]
  have:AR=Ha.map str:=rfl;rw[this,List.getD,List.getD,List.getElem?_map,List.getElem?_eq_getElem (show j<Ha.length from hj)]
  rfl
 ·have h0:=hc 0 (by decide)
  rcases Nat.lt_or_ge 2 W.heap.size with h |h
  ·exact h
  ·simp[World.cell?,Array.getElem?_eq_none h] at h0
end Go.Proofs.YtmgddlckgpfccaaDoor
namespace Go.Proofs.YtmgddlckgpfccaaDoor
open Go.ChangeShapes Go.WideShapes Go.ChangeAt Go.RowKit Go.AM
theorem PI {H:Type}(d:DataW H):1≤Rows.uptoBulk d:=by
 cases d with
 |lit l=>cases l<;>simp[Rows.uptoBulk]
 |nil=>simp[Rows.uptoBulk]
 |ptr d=>simp[Rows.uptoBulk]
 |slice elems spare=>simp[Rows.uptoBulk]
 |agg parts=>simp[Rows.uptoBulk]
 |iface t d=>simp[Rows.uptoBulk]
 |map entries=>simp[Rows.uptoBulk]
 |held h=>simp[Rows.uptoBulk]
theorem HC {H:Type}: ∀l:List (DataW H),l.length≤Rows.uptoBulkAll l
 | []=>by simp[Rows.uptoBulkAll]
 |x::r=>by have:=PI x;have:=HC r;simp only[Rows.uptoBulkAll,List.length_cons];omega
theorem MU {H:Type}(ds rest:List (DataW H)):ds.length+1≤Rows.uptoBulk (.slice ds rest):=by
 have:=HC ds;simp only[Rows.uptoBulk];omega
theorem MV {H:Type}{l:List (DataW H)}(hk:Rows.uptoSmall H l=true):Rows.uptoBulkAll l≤1048576:=of_decide_eq_true hk
theorem QR {H α:Type}{l:List α}{R:α→DataW H→Prop}{d:DataW H}(h:(l=[]∧d= .nil)∨ ∃ds rest,d= .slice ds rest∧ds.length=l.length∧ ∀(i:Nat) y,l[i]?=some y→ ∃d,ds[i]?=some d∧R y d):l.length≤Rows.uptoBulk d:=by
 rcases h with ⟨rfl,_⟩ |⟨ds,rest,rfl,h,_⟩
 ·exact Nat.zero_le _
 ·have:=MU ds rest;omega
end Go.Proofs.YtmgddlckgpfccaaDoor
namespace Go.Proofs.YtmgddlckgpfccaaDoor
open Go.ChangeShapes Go.WideShapes Go.ChangeAt Go.RowKit Go.AM
def Li:List (List UInt8):=[[],[66,79,79,76],[73,78,84],[84,69,88,84]]
theorem P1:Tryd.prog.globalNamed "padlock/parse.types" =some 1:=by kernel_rfl
theorem QB:(Tryd.prog.globals[1]?).map (·.type)=some 78:=by kernel_rfl
theorem Lh {W:World}{rest:List (String×DataW Unit)}{ps:List MemPlace}(h:DataW.LaidVars Tryd.prog W (("padlock/parse.types",Rows.laid_padlock_parse_types)::rest) ps):
  (∀j:Nat,j<4→W.cell? ⟨1,j,none⟩=some (.string (str (Li.getD j []))))∧1<W.heap.size∧ ∃q,DataW.LaidVars Tryd.prog W rest q:=by
 obtain⟨g,t,cs,fuel,p,q,hg,ht,hvar,hd,hr,_⟩:=h;obtain rfl:=Option.some.inj (P1.symm.trans hg);obtain rfl:=Option.some.inj (QB.symm.trans ht);have e:(Rows.laid_padlock_parse_types:DataW Unit)= .agg (Li.map fun l=> .lit (.string l)):=rfl;rw[e] at hd;obtain⟨h1,h2⟩:=Rm Tryd.underlying78 Tryd.underlying9 (by kernel_rfl) hd
 have hc: ∀j:Nat,j<4→W.cell? ⟨1,j,none⟩=some (.string (str (Li.getD j []))):=fun j hj=>by
  rw[World.var?_cell P1 hvar];have:=h2 j hj
  rwa [Array.getElem?_toList] at this
 refine⟨hc,?_,q,hr⟩;have h0:=hc 0 (by decide)
 rcases Nat.lt_or_ge 1 W.heap.size with h |h
 ·exact h
 ·simp[World.cell?,Array.getElem?_eq_none h] at h0
def GT:List (Nat×List Value):=[(1,GR.map .string),(0,AY.map .string),(2,AR.map .string)]
end Go.Proofs.YtmgddlckgpfccaaDoor
namespace Go.Proofs.YtmgddlckgpfccaaDoor
open Go.ChangeShapes Go.WideShapes Go.ChangeAt Go.RowKit Go.AM
theorem Mx:Tryd.prog.cellsOf 90=4:=by kernel_rfl
theorem Px {H:Type}{E:TypeId×Value→H}{w:World}{base:Nat}{spare:Nat→Bool}{held:Bool}(fuel:Nat)(cs:List Value)(x:DataW H×List MemPlace)
  (h:DataW.trod E Tryd.prog w base spare held fuel 90 cs=some x): ∃(s:ByteArray)(k:Int)(a b:Bool),x.1= .agg [.lit (.string s.data.toList),.lit (.int .i64 k),.lit (.bool a),.lit (.bool b)]∧cs=[.string s,.int .i64 k,.bool a,.bool b]:=by
 obtain⟨y0,y1,y2,y3,n,hx,hl,h0,h1,h2,h3⟩:=Joins.trod_struct4 Tryd.underlying90 h;rw[Mx] at hl
 obtain⟨c0,c1,c2,c3,rfl⟩: ∃a b c d,cs=[a,b,c,d]:=by
  match cs,hl with
  | [a,b,c,d],_=>exact⟨a,b,c,d,rfl⟩
 obtain⟨s,e0,d0,_⟩:=DataW.trod_string Tryd.underlying9 h0;obtain⟨k,e1,d1,_⟩:=DataW.trod_int Tryd.underlying3 h1;obtain⟨a,e2,d2⟩:=DataW.trod_bool Tryd.underlying4 h2;obtain⟨b,e3,d3⟩:=DataW.trod_bool Tryd.underlying4 h3;rw[show Tryd.prog.cellsOf 9=1 by kernel_rfl] at e0;rw[show Tryd.prog.cellsOf 3=1 by kernel_rfl] at e1;rw[show Tryd.prog.cellsOf 4=1 by kernel_rfl] at e2 e3;simp at e0 e1 e2 e3;subst e0 e1 e2 e3 d0 d1 d2 d3;exact⟨s,k,a,b,by rw[hx],rfl⟩
def UW:List (List UInt8×Int×Bool×Bool):=[([61],6,false,false),([60,62],6,false,true),([60],7,false,false),([62],7,true,false),([62,61],7,false,true),([60,61],7,true,true)]
def UX:List Value:=KT.flatMap fun m=>[.string m.s,.int .i64 m.k,.bool m.sw,.bool m.nt]
theorem Nv {α:Type}(l:List α)(n m:Nat)(h:m=n+4):l.drop n=(l.drop n).take 4++l.drop m:=by
 subst h;rw[←List.drop_drop];exact(List.take_append_drop 4 _).symm
theorem Ta:Tryd.prog.globalNamed "padlock/parse.marks" =some 3:=by kernel_rfl
theorem T_:(Tryd.prog.globals[3]?).map (·.type)=some 91:=by kernel_rfl
theorem Uv {w:World}{fuel:Nat}{cs:List Value}{p:List MemPlace}{base:Nat}{spare:Nat→Bool}{held:Bool}
  (h:DataW.trod (fun _=>()) Tryd.prog w base spare held fuel 91 cs=some (.agg (UW.map fun m=> .agg [.lit (.string m.1),.lit (.int .i64 m.2.1),.lit (.bool m.2.2.1),.lit (.bool m.2.2.2)]),p)):cs=UX:=by
 obtain⟨xs,m',rfl,hx,hl,hn,hi⟩:=DataW.trod_array Tryd.underlying91 h;simp only[Prod.mk.injEq,DataW.agg.injEq] at hx;have hl:cs.length=24:=hl.trans (by kernel_rfl)
 have key: ∀(j:Nat) m,UW[j]?=some m→(cs.drop (j * 4)).take 4=[.string (str m.1),.int .i64 m.2.1,.bool m.2.2.1,.bool m.2.2.2]:=fun j m hm=>by
  have hj:j<6:=by have:=(List.getElem?_eq_some_iff.1 hm).1;simpa[UW] using this
  have h1:=hi j hj;rw[Mx] at h1;obtain⟨y,hy⟩: ∃y,xs[j]?=some y:=⟨xs[j],by simp[hn,hj]⟩;rw[hy] at h1;obtain⟨s,k,a,b,e1,e2⟩:=Px _ _ _ h1;have h2:=congrArg (fun l=>l[j]?) hx.1;simp only[List.getElem?_map,hy,hm,Option.map_some] at h2;rw[e1] at h2;simp only[Option.some.injEq,DataW.agg.injEq,List.cons.injEq,DataW.lit.injEq,Lit.string.injEq,Lit.int.injEq,Lit.bool.injEq,true_and,and_true] at h2;obtain⟨h3,h4,h5,h6⟩:=h2;rw[e2,h3,h4,h5,h6]
  rfl
 have e:cs=cs.drop 0:=rfl;rw[e,Nv cs 0 4 rfl,Nv cs 4 8 rfl,Nv cs 8 12 rfl,Nv cs 12 16 rfl,Nv cs 16 20 rfl,Nv cs 20 24 rfl,List.drop_eq_nil_of_le (by omega:cs.length≤24),key 0 _ rfl,key 1 _ rfl,key 2 _ rfl,key 3 _ rfl,key 4 _ rfl,key 5 _ rfl]
 rfl
theorem PC {W:World}{rest:List (String×DataW Unit)}{ps:List MemPlace}(h:DataW.LaidVars Tryd.prog W (("padlock/parse.marks",Rows.laid_padlock_parse_marks)::rest) ps):
  (∀(j:Nat) u,UX[j]?=some u→W.cell? ⟨3,j,none⟩=some u)∧3<W.heap.size:=by
 obtain⟨g,t,cs,fuel,p,q,hg,ht,hvar,hd,hr,_⟩:=h;obtain rfl:=Option.some.inj (Ta.symm.trans hg);obtain rfl:=Option.some.inj (T_.symm.trans ht);have e:(Rows.laid_padlock_parse_marks:DataW Unit)= .agg (UW.map fun m=> .agg [.lit (.string m.1),.lit (.int .i64 m.2.1),.lit (.bool m.2.2.1),.lit (.bool m.2.2.2)]):=rfl;rw[e] at hd;have hcs:=Uv hd
 have hc: ∀(j:Nat) u,UX[j]?=some u→W.cell? ⟨3,j,none⟩=some u:=fun j u hu=>by
  rw[World.var?_cell Ta hvar,←hu,←hcs,Array.getElem?_toList]
 refine⟨hc,?_⟩;have h0:=hc 0 _ rfl
 rcases Nat.lt_or_ge 3 W.heap.size with h |h
 ·exact h
 ·simp[World.cell?,Array.getElem?_eq_none h] at h0
def SN:List (Nat×List Value):=(3,UX)::GT
theorem Pa:TabsP SN:=⟨⟨by simp[SN,GT],by simp[SN,GT],rfl⟩,rfl⟩
theorem N7 {W:World}(h:laidMetH Tryd.prog [("padlock/lex.marks",Rows.laid_padlock_lex_marks),("padlock/parse.words",Rows.laid_padlock_parse_words),("padlock/parse.types",Rows.laid_padlock_parse_types),("padlock/parse.marks",Rows.laid_padlock_parse_marks)] W):PN SN W:=by
 obtain⟨ps,h,_⟩:=h;obtain⟨h1,h2,q,h3⟩:=M1 h;obtain⟨h4,h5,q2,h6⟩:=Lb h3;obtain⟨h7,h8,q3,h9⟩:=Lh h6;obtain⟨h10,h11⟩:=PC h9;intro g cs hg;simp only[SN,GT,List.mem_cons,Prod.mk.injEq,List.not_mem_nil,or_false] at hg
 rcases hg with ⟨rfl,rfl⟩ |⟨rfl,rfl⟩ |⟨rfl,rfl⟩ |⟨rfl,rfl⟩
 ·exact⟨h11,fun j u hu=>h10 j u hu⟩
 ·refine⟨h8,fun j u hu=>?_⟩
  have hj:j<4:=by have:=(List.getElem?_eq_some_iff.1 hu).1;simpa[GR] using this
  rw[h7 j hj,←hu]
  match j,hj with
  |0,_=>rfl
  |1,_=>rfl
  |2,_=>rfl
  |3,_=>rfl
 ·refine⟨h2,fun j u hu=>?_⟩
  have hj:=(List.getElem?_eq_some_iff.1 hu).1;rw[List.length_map] at hj;rw[h1 j hj,←hu,List.getElem?_map,List.getD,List.getElem?_eq_getElem hj];rfl
 ·refine⟨h5,fun j u hu=>?_⟩
  have hj:=(List.getElem?_eq_some_iff.1 hu).1;rw[List.length_map] at hj;rw[h4 j hj,←hu,List.getElem?_map,List.getD,List.getElem?_eq_getElem hj];rfl
theorem Q8 {n:Int}(h:(Lit.int .i64 n).wf=true): -9223372036854775808≤n∧n≤9223372036854775807:=by
 simp[Lit.wf,IntKind.min,IntKind.max,IntKind.signed,IntKind.bits] at h;omega
theorem Nc {H:Type}{E:TypeId×Value→H}{w:World}{base:Nat}{spare:Nat→Bool}{held:Bool}(fuel:Nat)(cs:List Value)(x:DataW H×List MemPlace)
  (h:DataW.trod E Tryd.prog w base spare held fuel 37 cs=some x): ∃y:TK0,Reps w (L_ w) [] (eT y) cs∧(∀v ∈ cs,v.oneCell'=true)∧(Fh y.s∧ -9223372036854775808≤y.n∧y.n≤9223372036854775807):=by
 obtain⟨y0,y1,y2,n,_,hl,h0,h1,h2⟩:=Deep.trod_struct3 Tryd.underlying37 h;rw[Ie] at hl
 obtain⟨c0,c1,c2,rfl⟩: ∃a b c,cs=[a,b,c]:=by
  match cs,hl with
  | [a,b,c],_=>exact⟨a,b,c,rfl⟩
 obtain⟨k,e0,_,_⟩:=DataW.trod_int Tryd.underlying3 h0;obtain⟨s,e1,_,w1⟩:=DataW.trod_string Tryd.underlying9 h1;obtain⟨m,e2,_,wm⟩:=DataW.trod_int Tryd.underlying3 h2;rw[show Tryd.prog.cellsOf 3=1 by kernel_rfl] at e0 e2;rw[show Tryd.prog.cellsOf 9=1 by kernel_rfl] at e1;simp at e0 e1 e2;subst e0 e1 e2;exact⟨⟨k,s,m⟩,.cons (.r _ _) (.cons (.r _ _) (.cons (.r _ _) .nil)),by simp[Value.oneCell'],w1,Q8 wm⟩
theorem Lx {H:Type}{E:TypeId×Value→H}{w:World}{base:Nat}{spare:Nat→Bool}{held:Bool}{b0:Nat}{v:Value}{d:DataW H}{p:List MemPlace}
  (hv:Value.okWide Tryd.prog w .any b0 22 v) (h:DataW.Trod E Tryd.prog w base spare held 22 v d p):
  ∃l:List TK0,Rep w (L_ w) [] (.ro true 3 (l.map eT)) v∧l.length≤Rows.uptoBulk d∧ ∀c ∈ l,Fh c.s∧ -9223372036854775808≤c.n∧c.n≤9223372036854775807:=by
 obtain⟨f,hf⟩:=h;obtain⟨u,l,h1,h2,_,h3⟩:=Pn eT (fun y _=>Fh y.s∧ -9223372036854775808≤y.n∧y.n≤9223372036854775807) true Tryd.underlying22 Ie (by omega) Nc hf;obtain⟨a',n',c',rfl⟩:=okWide_slice Tryd.underlying22 hv;obtain rfl:Value.slice a' n' c'=u:=List.head_eq_of_cons_eq (show[Value.slice a' n' c']=[u] from h1);refine⟨l,h2,QR h3,fun c hc=>?_⟩;obtain⟨i,hi⟩:=List.mem_iff_getElem?.1 hc
 rcases h3 with ⟨rfl,_⟩ |⟨ds,rest,_,_,h6⟩
 ·simp at hi
 ·exact(h6 i c hi).choose_spec.2
end Go.Proofs.YtmgddlckgpfccaaDoor
