/- Texts of the law ParseParses, part 7: lemmas; what is proved stands in the last text. -/
import Derived.Test.YtmgddlckgpfccaaDoorZz6
open Go.Proofs.Tryd
set_option linter.unusedSimpArgs false
set_option linter.unusedVariables false
set_option maxRecDepth 100000
namespace Go.AM
open Go Go.RowKit
open Go.Proofs.YtmgddlckgpfccaaDoor (OP Ac AY AR str)
attribute [local irreducible] AWP BS
theorem AJ (G:List (Nat×List Value))(l:List TK0)(s:WK)(k:Int)(t:ByteArray)(hl:l.length≤100)(hp:s.p≤100)(h:BX l s k t=false):Con prog G 37 [.p 0 0 0,.r (.int .i64 k),.r (.string t)] (Aj l s) 1 (Is (.r (.bool false)) (Aj l s) 1) No:=by
 have:=FC G l s k t hl hp;rw[Bv,h] at this;exact this
theorem B6 (G:List (Nat×List Value))(l:List TK0)(s:WK)(k:Int)(t:ByteArray)(hl:l.length≤100)(hp:s.p≤100)(h:BX l s k t=true):Con prog G 37 [.p 0 0 0,.r (.int .i64 k),.r (.string t)] (Aj l s) 1 (Is (.r (.bool true)) (Aj l (AF s)) 1) No:=by
 have:=FC G l s k t hl hp;rw[Bv,h] at this;exact this
theorem Es {l:List TK0}{s:WK}{k:Int}{t:ByteArray}(h:s.e=0):BX l s k t=AP l s.p k t:=by rw[BX,decide_eq_true h,Bool.true_and]
set_option maxHeartbeats 16000000 in
theorem L9 (G:List (Nat×List Value))(l:List TK0)(s:WK)(hk: ∀t ∈ l,TokOk t)(hl:l.length≤100)(hp:s.p≤100):Con prog G 54 [.p 0 0 0] (Aj l s) 1 (Is (.tup [.agg (eV (Bp l s).1.1),.r (.bool (Bp l s).1.2)]) (Aj l (Bp l s).2) 1) No:=by
 have yt:=M_ G true;have yf:=M_ G false;simp only[if_true,Bool.false_eq_true,if_false,str] at yt yf;rw[Bp];cases h1:BX l s 1 Ah;rotate_left
 ·have e1:=B6 G l s 1 Ah hl hp h1
  simp only[Ah,str] at e1;simp only[if_true];unfold Aj AF at *;refine A8 func54 rfl (by kernel_rfl) (of_decide_eq_true (by kernel_rfl)) ?_;intro E hG hE;subst hG;simp only[Ai];(repeat' (first |refine A6 ?_ |refine A2 ?_ |refine A3 ?_ |refine A5 ?_ |((first |refine rR (fun K kp hK hkp=>?_) |refine rD (id:=7) AA 17 [0,1,2,3,4,5,6,7,8,9,10,11,12,13,14,15,16] (fun K kp hK hkp=>?_) |refine rD (id:=9) AA 11 [0,1,2,3,4,5,6,7,8,9,10] (fun K kp hK hkp=>?_) |refine rD (id:=21) AA 24 [0,1,2,3,4,5,6,7,8,9,10,11,12,13,14,15,16,17,18,19,20,21,22,23] (fun K kp hK hkp=>?_) |refine rD (id:=23) AA 14 [0,1,2,3,4,5,6,7,8,9,10,11,12,13] (fun K kp hK hkp=>?_) |refine oR [0] e1 ?_ |refine iG ?_ |refine iD ?_);simp(implicitDefEqProofs:=false) (maxSteps:=2000000) (disch:=omega) only[go_sem];(repeat' (first |(refine hK _ ?_;clear hK hkp kp K) |(with_reducible refine And.intro ?_ ?_) |omega))) |((first |refine aG (fun h=>?_) (fun h=>?_) |refine aD (fun h=>?_) (fun h=>?_) |refine aX (fun h=>?_) (fun h=>?_))<;>simp only[h]) |refine A0 rfl ?_ |refine A1 rfl ?_ |((refine A4 rfl (fun h=>?_) (fun h=>?_)<;>try simp only[AK] at h)<;>(try (exfalso;omega))) |refine A7 ?_));(refine AB (by(simp(implicitDefEqProofs:=false) (maxSteps:=2000000) (disch:=omega) only[go_sem,results54,eV,v0,str]);rfl) ?_;refine(AC hE [0] rfl ?_ ?_).s<;>simp[AI,AH,lk,ren,renL,A9,AG,eV,v0,str])
 have e1:=AJ G l s 1 Ah hl hp h1;simp only[Ah,str] at e1;simp only[Bool.false_eq_true,if_false];cases h2:BX l s 1 BW;rotate_left
 ·have e2:=B6 G l s 1 BW hl hp h2
  simp only[BW,str] at e2;simp only[if_true];unfold Aj AF at *;refine A8 func54 rfl (by kernel_rfl) (of_decide_eq_true (by kernel_rfl)) ?_;intro E hG hE;subst hG;simp only[Ai];(repeat' (first |refine A6 ?_ |refine A2 ?_ |refine A3 ?_ |refine A5 ?_ |((first |refine rR (fun K kp hK hkp=>?_) |refine rD (id:=7) AA 17 [0,1,2,3,4,5,6,7,8,9,10,11,12,13,14,15,16] (fun K kp hK hkp=>?_) |refine rD (id:=9) AA 11 [0,1,2,3,4,5,6,7,8,9,10] (fun K kp hK hkp=>?_) |refine rD (id:=21) AA 24 [0,1,2,3,4,5,6,7,8,9,10,11,12,13,14,15,16,17,18,19,20,21,22,23] (fun K kp hK hkp=>?_) |refine rD (id:=23) AA 14 [0,1,2,3,4,5,6,7,8,9,10,11,12,13] (fun K kp hK hkp=>?_) |refine oR [0] e1 ?_ |refine oR [0] e2 ?_ |refine cR yt ?_ |refine cD yt ?_ |refine iG ?_ |refine iD ?_);simp(implicitDefEqProofs:=false) (maxSteps:=2000000) (disch:=omega) only[go_sem];(repeat' (first |(refine hK _ ?_;clear hK hkp kp K) |(with_reducible refine And.intro ?_ ?_) |omega))) |((first |refine aG (fun h=>?_) (fun h=>?_) |refine aD (fun h=>?_) (fun h=>?_) |refine aX (fun h=>?_) (fun h=>?_))<;>simp only[h]) |refine A0 rfl ?_ |refine A1 rfl ?_ |((refine A4 rfl (fun h=>?_) (fun h=>?_)<;>try simp only[AK] at h)<;>(try (exfalso;omega))) |refine A7 ?_));(refine AB (by(simp(implicitDefEqProofs:=false) (maxSteps:=2000000) (disch:=omega) only[go_sem,results54,eV,str]);rfl) ?_;refine(AC hE [0] rfl ?_ ?_).s<;>simp[AI,AH,lk,ren,renL,A9,AG,eV,str])
 have e2:=AJ G l s 1 BW hl hp h2;simp only[BW,str] at e2;simp only[Bool.false_eq_true,if_false];cases h3:BX l s 1 BD;rotate_left
 ·have e3:=B6 G l s 1 BD hl hp h3
  simp only[BD,str] at e3;simp only[if_true];unfold Aj AF at *;refine A8 func54 rfl (by kernel_rfl) (of_decide_eq_true (by kernel_rfl)) ?_;intro E hG hE;subst hG;simp only[Ai];(repeat' (first |refine A6 ?_ |refine A2 ?_ |refine A3 ?_ |refine A5 ?_ |((first |refine rR (fun K kp hK hkp=>?_) |refine rD (id:=7) AA 17 [0,1,2,3,4,5,6,7,8,9,10,11,12,13,14,15,16] (fun K kp hK hkp=>?_) |refine rD (id:=9) AA 11 [0,1,2,3,4,5,6,7,8,9,10] (fun K kp hK hkp=>?_) |refine rD (id:=21) AA 24 [0,1,2,3,4,5,6,7,8,9,10,11,12,13,14,15,16,17,18,19,20,21,22,23] (fun K kp hK hkp=>?_) |refine rD (id:=23) AA 14 [0,1,2,3,4,5,6,7,8,9,10,11,12,13] (fun K kp hK hkp=>?_) |refine oR [0] e1 ?_ |refine oR [0] e2 ?_ |refine oR [0] e3 ?_ |refine cR yf ?_ |refine cD yf ?_ |refine iG ?_ |refine iD ?_);simp(implicitDefEqProofs:=false) (maxSteps:=2000000) (disch:=omega) only[go_sem];(repeat' (first |(refine hK _ ?_;clear hK hkp kp K) |(with_reducible refine And.intro ?_ ?_) |omega))) |((first |refine aG (fun h=>?_) (fun h=>?_) |refine aD (fun h=>?_) (fun h=>?_) |refine aX (fun h=>?_) (fun h=>?_))<;>simp only[h]) |refine A0 rfl ?_ |refine A1 rfl ?_ |((refine A4 rfl (fun h=>?_) (fun h=>?_)<;>try simp only[AK] at h)<;>(try (exfalso;omega))) |refine A7 ?_));(refine AB (by(simp(implicitDefEqProofs:=false) (maxSteps:=2000000) (disch:=omega) only[go_sem,results54,eV,str]);rfl) ?_;refine(AC hE [0] rfl ?_ ?_).s<;>simp[AI,AH,lk,ren,renL,A9,AG,eV,str])
 have e3:=AJ G l s 1 BD hl hp h3;simp only[BD,str] at e3;simp only[Bool.false_eq_true,if_false]
 by_cases h0:s.e=0
 rotate_left
 ·have d0:(s.e !=0)=true:=by simpa using h0
  rw[if_pos h0];unfold Aj at *;refine A8 func54 rfl (by kernel_rfl) (of_decide_eq_true (by kernel_rfl)) ?_;intro E hG hE;subst hG;simp only[Ai];(repeat' (first |refine A6 ?_ |refine A2 ?_ |refine A3 ?_ |refine A5 ?_ |((first |refine rR (fun K kp hK hkp=>?_) |refine rD (id:=7) AA 17 [0,1,2,3,4,5,6,7,8,9,10,11,12,13,14,15,16] (fun K kp hK hkp=>?_) |refine rD (id:=9) AA 11 [0,1,2,3,4,5,6,7,8,9,10] (fun K kp hK hkp=>?_) |refine rD (id:=21) AA 24 [0,1,2,3,4,5,6,7,8,9,10,11,12,13,14,15,16,17,18,19,20,21,22,23] (fun K kp hK hkp=>?_) |refine rD (id:=23) AA 14 [0,1,2,3,4,5,6,7,8,9,10,11,12,13] (fun K kp hK hkp=>?_) |refine oR [0] e1 ?_ |refine oR [0] e2 ?_ |refine oR [0] e3 ?_ |refine iG ?_ |refine iD ?_);simp(implicitDefEqProofs:=false) (maxSteps:=2000000) (disch:=omega) only[go_sem,d0];(repeat' (first |(refine hK _ ?_;clear hK hkp kp K) |(with_reducible refine And.intro ?_ ?_) |omega))) |((first |refine aG (fun h=>?_) (fun h=>?_) |refine aD (fun h=>?_) (fun h=>?_) |refine aX (fun h=>?_) (fun h=>?_))<;>simp only[h]) |refine A0 rfl ?_ |refine A1 rfl ?_ |((refine A4 rfl (fun h=>?_) (fun h=>?_)<;>try simp only[AK] at h)<;>(try (exfalso;omega))) |refine A7 ?_));(refine AB (by(simp(implicitDefEqProofs:=false) (maxSteps:=2000000) (disch:=omega) only[go_sem,results54,eV,v0,str]);rfl) ?_;refine(AC hE [0] rfl ?_ ?_).s<;>simp[AI,AH,lk,ren,renL,A9,AG,eV,v0,str])
 have d0:(s.e !=0)=false:=by simpa using h0
 rw[if_neg (by simpa using h0)]
 cases hx:l[s.p]? with
 |none=>
  have hlt:=List.getElem?_eq_none_iff.1 hx;have d1:decide ((s.p:Int)≥(l.length:Int))=true:=decide_eq_true (by omega)
  have ht:CS l s.p=none:=by rw[CS,hx]
  have hn:Bw l s.p=none:=by rw[Bw,hx]
  have ho:AP l s.p 4 B7=false:=by rw[AP,hx]
  rw[ht,hn,ho];simp only[Bool.false_eq_true,if_false];unfold Aj at *;refine A8 func54 rfl (by kernel_rfl) (of_decide_eq_true (by kernel_rfl)) ?_;intro E hG hE;subst hG;simp only[Ai];(repeat' (first |refine A6 ?_ |refine A2 ?_ |refine A3 ?_ |refine A5 ?_ |((first |refine rR (fun K kp hK hkp=>?_) |refine rD (id:=7) AA 17 [0,1,2,3,4,5,6,7,8,9,10,11,12,13,14,15,16] (fun K kp hK hkp=>?_) |refine rD (id:=9) AA 11 [0,1,2,3,4,5,6,7,8,9,10] (fun K kp hK hkp=>?_) |refine rD (id:=21) AA 24 [0,1,2,3,4,5,6,7,8,9,10,11,12,13,14,15,16,17,18,19,20,21,22,23] (fun K kp hK hkp=>?_) |refine rD (id:=23) AA 14 [0,1,2,3,4,5,6,7,8,9,10,11,12,13] (fun K kp hK hkp=>?_) |refine oR [0] e1 ?_ |refine oR [0] e2 ?_ |refine oR [0] e3 ?_ |refine iG ?_ |refine iD ?_);simp(implicitDefEqProofs:=false) (maxSteps:=2000000) (disch:=omega) only[go_sem,d0,d1];(repeat' (first |(refine hK _ ?_;clear hK hkp kp K) |(with_reducible refine And.intro ?_ ?_) |omega))) |((first |refine aG (fun h=>?_) (fun h=>?_) |refine aD (fun h=>?_) (fun h=>?_) |refine aX (fun h=>?_) (fun h=>?_))<;>simp only[h]) |refine A0 rfl ?_ |refine A1 rfl ?_ |((refine A4 rfl (fun h=>?_) (fun h=>?_)<;>try simp only[AK] at h)<;>(try (exfalso;omega))) |refine A7 ?_));(refine AB (by(simp(implicitDefEqProofs:=false) (maxSteps:=2000000) (disch:=omega) only[go_sem,results54,eV,v0,str]);rfl) ?_;refine(AC hE [0] rfl ?_ ?_).s<;>simp[AI,AH,lk,ren,renL,A9,AG,eV,v0,str])
 |some x=>
  have hlt:=(List.getElem?_eq_some_iff.1 hx).1;have d1:decide ((s.p:Int)≥(l.length:Int))=false:=decide_eq_false (by omega);have hxo:=hk x (List.mem_of_getElem? hx);cases d2:(x.k==3);rotate_left
  ·have ht:CS l s.p=some x.s:=by rw[CS,hx];exact if_pos (by simpa using d2)
   rw[ht];dsimp only
   by_cases hs:20<x.s.size
   ·have d3:decide ((x.s.size:Int)>20)=true:=decide_eq_true (by omega)
    rw[if_pos hs];have sc:=Bl G l s 1 hl hp;unfold Aj at *;refine A8 func54 rfl (by kernel_rfl) (of_decide_eq_true (by kernel_rfl)) ?_;intro E hG hE;subst hG;simp only[Ai];(repeat' (first |refine A6 ?_ |refine A2 ?_ |refine A3 ?_ |refine A5 ?_ |((first |refine rR (fun K kp hK hkp=>?_) |refine rD (id:=7) AA 17 [0,1,2,3,4,5,6,7,8,9,10,11,12,13,14,15,16] (fun K kp hK hkp=>?_) |refine rD (id:=9) AA 11 [0,1,2,3,4,5,6,7,8,9,10] (fun K kp hK hkp=>?_) |refine rD (id:=21) AA 24 [0,1,2,3,4,5,6,7,8,9,10,11,12,13,14,15,16,17,18,19,20,21,22,23] (fun K kp hK hkp=>?_) |refine rD (id:=23) AA 14 [0,1,2,3,4,5,6,7,8,9,10,11,12,13] (fun K kp hK hkp=>?_) |refine oR [0] e1 ?_ |refine oR [0] e2 ?_ |refine oR [0] e3 ?_ |refine oR [0] sc ?_ |refine iG ?_ |refine iD ?_);simp(implicitDefEqProofs:=false) (maxSteps:=2000000) (disch:=omega) only[go_sem,d0,d1,hx,eT,d2,d3];(repeat' (first |(refine hK _ ?_;clear hK hkp kp K) |(with_reducible refine And.intro ?_ ?_) |omega))) |((first |refine aG (fun h=>?_) (fun h=>?_) |refine aD (fun h=>?_) (fun h=>?_) |refine aX (fun h=>?_) (fun h=>?_))<;>simp only[h]) |refine A0 rfl ?_ |refine A1 rfl ?_ |((refine A4 rfl (fun h=>?_) (fun h=>?_)<;>try simp only[AK] at h)<;>(try (exfalso;omega))) |refine A7 ?_));(refine AB (by(simp(implicitDefEqProofs:=false) (maxSteps:=2000000) (disch:=omega) only[go_sem,results54,eV,v0,str]);rfl) ?_;refine(AC hE [0] rfl ?_ ?_).s<;>simp[AI,AH,lk,ren,renL,A9,AG,eV,v0,str])
   ·have d3:decide ((x.s.size:Int)>20)=false:=decide_eq_false (by omega)
    rw[if_neg hs];unfold Aj AF at *;refine A8 func54 rfl (by kernel_rfl) (of_decide_eq_true (by kernel_rfl)) ?_;intro E hG hE;subst hG;simp only[Ai];(repeat' (first |refine A6 ?_ |refine A2 ?_ |refine A3 ?_ |refine A5 ?_ |((first |refine rR (fun K kp hK hkp=>?_) |refine rD (id:=7) AA 17 [0,1,2,3,4,5,6,7,8,9,10,11,12,13,14,15,16] (fun K kp hK hkp=>?_) |refine rD (id:=9) AA 11 [0,1,2,3,4,5,6,7,8,9,10] (fun K kp hK hkp=>?_) |refine rD (id:=21) AA 24 [0,1,2,3,4,5,6,7,8,9,10,11,12,13,14,15,16,17,18,19,20,21,22,23] (fun K kp hK hkp=>?_) |refine rD (id:=23) AA 14 [0,1,2,3,4,5,6,7,8,9,10,11,12,13] (fun K kp hK hkp=>?_) |refine oR [0] e1 ?_ |refine oR [0] e2 ?_ |refine oR [0] e3 ?_ |refine iG ?_ |refine iD ?_);simp(implicitDefEqProofs:=false) (maxSteps:=2000000) (disch:=omega) only[go_sem,d0,d1,hx,eT,d2,d3];(repeat' (first |(refine hK _ ?_;clear hK hkp kp K) |(with_reducible refine And.intro ?_ ?_) |omega))) |((first |refine aG (fun h=>?_) (fun h=>?_) |refine aD (fun h=>?_) (fun h=>?_) |refine aX (fun h=>?_) (fun h=>?_))<;>simp only[h]) |refine A0 rfl ?_ |refine A1 rfl ?_ |((refine A4 rfl (fun h=>?_) (fun h=>?_)<;>try simp only[AK] at h)<;>(try (exfalso;omega))) |refine A7 ?_));(refine AB (by(simp(implicitDefEqProofs:=false) (maxSteps:=2000000) (disch:=omega) only[go_sem,results54,eV,str]);rfl) ?_;refine(AC hE [0] rfl ?_ ?_).s<;>simp[AI,AH,lk,ren,renL,A9,AG,eV,str])
  have ht:CS l s.p=none:=by rw[CS,hx];exact if_neg (by simpa using d2)
  rw[ht];dsimp only;cases d4:(x.k==2);rotate_left
  ·have hn:Bw l s.p=some x.n:=by rw[Bw,hx];exact if_pos (by simpa using d4)
   rw[hn];dsimp only;unfold Aj AF at *;refine A8 func54 rfl (by kernel_rfl) (of_decide_eq_true (by kernel_rfl)) ?_;intro E hG hE;subst hG;simp only[Ai];(repeat' (first |refine A6 ?_ |refine A2 ?_ |refine A3 ?_ |refine A5 ?_ |((first |refine rR (fun K kp hK hkp=>?_) |refine rD (id:=7) AA 17 [0,1,2,3,4,5,6,7,8,9,10,11,12,13,14,15,16] (fun K kp hK hkp=>?_) |refine rD (id:=9) AA 11 [0,1,2,3,4,5,6,7,8,9,10] (fun K kp hK hkp=>?_) |refine rD (id:=21) AA 24 [0,1,2,3,4,5,6,7,8,9,10,11,12,13,14,15,16,17,18,19,20,21,22,23] (fun K kp hK hkp=>?_) |refine rD (id:=23) AA 14 [0,1,2,3,4,5,6,7,8,9,10,11,12,13] (fun K kp hK hkp=>?_) |refine oR [0] e1 ?_ |refine oR [0] e2 ?_ |refine oR [0] e3 ?_ |refine iG ?_ |refine iD ?_);simp(implicitDefEqProofs:=false) (maxSteps:=2000000) (disch:=omega) only[go_sem,d0,d1,hx,eT,d2,d4];(repeat' (first |(refine hK _ ?_;clear hK hkp kp K) |(with_reducible refine And.intro ?_ ?_) |omega))) |((first |refine aG (fun h=>?_) (fun h=>?_) |refine aD (fun h=>?_) (fun h=>?_) |refine aX (fun h=>?_) (fun h=>?_))<;>simp only[h]) |refine A0 rfl ?_ |refine A1 rfl ?_ |((refine A4 rfl (fun h=>?_) (fun h=>?_)<;>try simp only[AK] at h)<;>(try (exfalso;omega))) |refine A7 ?_));(refine AB (by(simp(implicitDefEqProofs:=false) (maxSteps:=2000000) (disch:=omega) only[go_sem,results54,eV,str]);rfl) ?_;refine(AC hE [0] rfl ?_ ?_).s<;>simp[AI,AH,lk,ren,renL,A9,AG,eV,str])
  have hn:Bw l s.p=none:=by rw[Bw,hx];exact if_neg (by simpa using d4)
  rw[hn];dsimp only
  have ho:AP l s.p 4 B7=((x.k==4)&&(x.s.toList==B7.toList)):=by rw[AP,hx]
  rw[ho];cases d5:(x.k==4)
  ·simp only[Bool.false_and,Bool.false_eq_true,if_false]
   unfold Aj at *;refine A8 func54 rfl (by kernel_rfl) (of_decide_eq_true (by kernel_rfl)) ?_;intro E hG hE;subst hG;simp only[Ai];(repeat' (first |refine A6 ?_ |refine A2 ?_ |refine A3 ?_ |refine A5 ?_ |((first |refine rR (fun K kp hK hkp=>?_) |refine rD (id:=7) AA 17 [0,1,2,3,4,5,6,7,8,9,10,11,12,13,14,15,16] (fun K kp hK hkp=>?_) |refine rD (id:=9) AA 11 [0,1,2,3,4,5,6,7,8,9,10] (fun K kp hK hkp=>?_) |refine rD (id:=21) AA 24 [0,1,2,3,4,5,6,7,8,9,10,11,12,13,14,15,16,17,18,19,20,21,22,23] (fun K kp hK hkp=>?_) |refine rD (id:=23) AA 14 [0,1,2,3,4,5,6,7,8,9,10,11,12,13] (fun K kp hK hkp=>?_) |refine oR [0] e1 ?_ |refine oR [0] e2 ?_ |refine oR [0] e3 ?_ |refine iG ?_ |refine iD ?_);simp(implicitDefEqProofs:=false) (maxSteps:=2000000) (disch:=omega) only[go_sem,d0,d1,hx,eT,d2,d4,d5];(repeat' (first |(refine hK _ ?_;clear hK hkp kp K) |(with_reducible refine And.intro ?_ ?_) |omega))) |((first |refine aG (fun h=>?_) (fun h=>?_) |refine aD (fun h=>?_) (fun h=>?_) |refine aX (fun h=>?_) (fun h=>?_))<;>simp only[h]) |refine A0 rfl ?_ |refine A1 rfl ?_ |((refine A4 rfl (fun h=>?_) (fun h=>?_)<;>try simp only[AK] at h)<;>(try (exfalso;omega))) |refine A7 ?_));(refine AB (by(simp(implicitDefEqProofs:=false) (maxSteps:=2000000) (disch:=omega) only[go_sem,results54,eV,v0,str]);rfl) ?_;refine(AC hE [0] rfl ?_ ?_).s<;>simp[AI,AH,lk,ren,renL,A9,AG,eV,v0,str])
  simp only[Bool.true_and];cases d6:(x.s.toList==B7.toList)
  ·simp only[B7,str] at d6
   simp only[Bool.false_eq_true,if_false];unfold Aj at *;refine A8 func54 rfl (by kernel_rfl) (of_decide_eq_true (by kernel_rfl)) ?_;intro E hG hE;subst hG;simp only[Ai];(repeat' (first |refine A6 ?_ |refine A2 ?_ |refine A3 ?_ |refine A5 ?_ |((first |refine rR (fun K kp hK hkp=>?_) |refine rD (id:=7) AA 17 [0,1,2,3,4,5,6,7,8,9,10,11,12,13,14,15,16] (fun K kp hK hkp=>?_) |refine rD (id:=9) AA 11 [0,1,2,3,4,5,6,7,8,9,10] (fun K kp hK hkp=>?_) |refine rD (id:=21) AA 24 [0,1,2,3,4,5,6,7,8,9,10,11,12,13,14,15,16,17,18,19,20,21,22,23] (fun K kp hK hkp=>?_) |refine rD (id:=23) AA 14 [0,1,2,3,4,5,6,7,8,9,10,11,12,13] (fun K kp hK hkp=>?_) |refine oR [0] e1 ?_ |refine oR [0] e2 ?_ |refine oR [0] e3 ?_ |refine iG ?_ |refine iD ?_);simp(implicitDefEqProofs:=false) (maxSteps:=2000000) (disch:=omega) only[go_sem,d0,d1,hx,eT,d2,d4,d5,d6];(repeat' (first |(refine hK _ ?_;clear hK hkp kp K) |(with_reducible refine And.intro ?_ ?_) |omega))) |((first |refine aG (fun h=>?_) (fun h=>?_) |refine aD (fun h=>?_) (fun h=>?_) |refine aX (fun h=>?_) (fun h=>?_))<;>simp only[h]) |refine A0 rfl ?_ |refine A1 rfl ?_ |((refine A4 rfl (fun h=>?_) (fun h=>?_)<;>try simp only[AK] at h)<;>(try (exfalso;omega))) |refine A7 ?_));(refine AB (by(simp(implicitDefEqProofs:=false) (maxSteps:=2000000) (disch:=omega) only[go_sem,results54,eV,v0,str]);rfl) ?_;refine(AC hE [0] rfl ?_ ?_).s<;>simp[AI,AH,lk,ren,renL,A9,AG,eV,v0,str])
  simp only[B7,str] at d6;simp only[if_true];obtain⟨a1,ha1⟩: ∃a1,a1=s.p+1:=⟨_,rfl⟩
  have z1:(s.p:Int)+1=(a1:Int):=by omega
  have est:AF s={s with p:=a1}:=by rw[AF,ha1]
  rw[est,←ha1]
  cases hn2:Bw l a1 with
  |none=>
   dsimp only;have sc:=Bl G l {s with p:=a1} 6 hl (by change a1≤100;omega)
   cases hy:l[a1]? with
   |none=>
    have:=List.getElem?_eq_none_iff.1 hy;have d7:decide ((a1:Int)<(l.length:Int))=false:=decide_eq_false (by omega);unfold Aj at *;refine A8 func54 rfl (by kernel_rfl) (of_decide_eq_true (by kernel_rfl)) ?_;intro E hG hE;subst hG;simp only[Ai];(repeat' (first |refine A6 ?_ |refine A2 ?_ |refine A3 ?_ |refine A5 ?_ |((first |refine rR (fun K kp hK hkp=>?_) |refine rD (id:=7) AA 17 [0,1,2,3,4,5,6,7,8,9,10,11,12,13,14,15,16] (fun K kp hK hkp=>?_) |refine rD (id:=9) AA 11 [0,1,2,3,4,5,6,7,8,9,10] (fun K kp hK hkp=>?_) |refine rD (id:=21) AA 24 [0,1,2,3,4,5,6,7,8,9,10,11,12,13,14,15,16,17,18,19,20,21,22,23] (fun K kp hK hkp=>?_) |refine rU (id:=23) AA 14 [⟨0,0,[],[]⟩,⟨0,0,[0],[]⟩,⟨0,0,[0,1],[]⟩,⟨0,0,[0,1,2],[]⟩,⟨0,0,[],[]⟩,⟨0,0,[4],[]⟩,⟨0,0,[4,5],[]⟩,⟨0,0,[4,5,6],[]⟩,⟨0,0,[4,5,6,7],[]⟩,⟨0,0,[0,1,2,3,4,5,6,7,8],[]⟩,⟨0,0,[0,1,2,3,4,5,6,7,8,9],[]⟩,⟨0,0,[0,1,2,3,4,5,6,7,8,9,10],[]⟩,⟨0,0,[0,1,2,3,4,5,6,7,8,9,10,11],[]⟩,⟨0,0,[0,1,2,3,4,5,6,7,8,9,10,11,12],[]⟩] 0 [121,122,123,124,125,126,127,128,129,130,131,132,133,134] [] (fun K kp hK hkp=>?_) |refine oR [0] e1 ?_ |refine oR [0] e2 ?_ |refine oR [0] e3 ?_ |refine oR [0] sc ?_ |refine iG ?_ |refine iD ?_);simp(implicitDefEqProofs:=false) (maxSteps:=2000000) (disch:=omega) only[go_sem,d0,d1,hx,eT,d2,d4,d5,d6,z1,d7];(repeat' (first |(refine hK _ ?_;clear hK hkp kp K) |(with_reducible refine And.intro ?_ ?_) |omega))) |((first |refine aG (fun h=>?_) (fun h=>?_) |refine aD (fun h=>?_) (fun h=>?_) |refine aX (fun h=>?_) (fun h=>?_))<;>simp only[h]) |refine A0 rfl ?_ |refine A1 rfl ?_ |((refine A4 rfl (fun h=>?_) (fun h=>?_)<;>try simp only[AK] at h)<;>(try (exfalso;omega))) |refine A7 ?_));(refine AB (by(simp(implicitDefEqProofs:=false) (maxSteps:=2000000) (disch:=omega) only[go_sem,results54,eV,v0,str]);rfl) ?_;refine(AC hE [0] rfl ?_ ?_).s<;>simp[AI,AH,lk,ren,renL,A9,AG,eV,v0,str])
   |some y=>
    have:=(List.getElem?_eq_some_iff.1 hy).1;have d7:decide ((a1:Int)<(l.length:Int))=true:=decide_eq_true (by omega);have d8:=Cn hn2 hy;unfold Aj at *;refine A8 func54 rfl (by kernel_rfl) (of_decide_eq_true (by kernel_rfl)) ?_;intro E hG hE;subst hG;simp only[Ai];(repeat' (first |refine A6 ?_ |refine A2 ?_ |refine A3 ?_ |refine A5 ?_ |((first |refine rR (fun K kp hK hkp=>?_) |refine rD (id:=7) AA 17 [0,1,2,3,4,5,6,7,8,9,10,11,12,13,14,15,16] (fun K kp hK hkp=>?_) |refine rD (id:=9) AA 11 [0,1,2,3,4,5,6,7,8,9,10] (fun K kp hK hkp=>?_) |refine rD (id:=21) AA 24 [0,1,2,3,4,5,6,7,8,9,10,11,12,13,14,15,16,17,18,19,20,21,22,23] (fun K kp hK hkp=>?_) |refine rU (id:=23) AA 14 [⟨0,0,[],[]⟩,⟨0,0,[0],[]⟩,⟨0,0,[0,1],[]⟩,⟨0,0,[0,1,2],[]⟩,⟨0,0,[],[]⟩,⟨0,0,[4],[]⟩,⟨0,0,[4,5],[]⟩,⟨0,0,[4,5,6],[]⟩,⟨0,0,[4,5,6,7],[]⟩,⟨0,0,[0,1,2,3,4,5,6,7,8],[]⟩,⟨0,0,[0,1,2,3,4,5,6,7,8,9],[]⟩,⟨0,0,[0,1,2,3,4,5,6,7,8,9,10],[]⟩,⟨0,0,[0,1,2,3,4,5,6,7,8,9,10,11],[]⟩,⟨0,0,[0,1,2,3,4,5,6,7,8,9,10,11,12],[]⟩] 0 [121,122,123,124,125,126,127,128,129,130,131,132,133,134] [] (fun K kp hK hkp=>?_) |refine oR [0] e1 ?_ |refine oR [0] e2 ?_ |refine oR [0] e3 ?_ |refine oR [0] sc ?_ |refine iG ?_ |refine iD ?_);simp(implicitDefEqProofs:=false) (maxSteps:=2000000) (disch:=omega) only[go_sem,d0,d1,hx,eT,d2,d4,d5,d6,z1,d7,hy,d8];(repeat' (first |(refine hK _ ?_;clear hK hkp kp K) |(with_reducible refine And.intro ?_ ?_) |omega))) |((first |refine aG (fun h=>?_) (fun h=>?_) |refine aD (fun h=>?_) (fun h=>?_) |refine aX (fun h=>?_) (fun h=>?_))<;>simp only[h]) |refine A0 rfl ?_ |refine A1 rfl ?_ |((refine A4 rfl (fun h=>?_) (fun h=>?_)<;>try simp only[AK] at h)<;>(try (exfalso;omega))) |refine A7 ?_));(refine AB (by(simp(implicitDefEqProofs:=false) (maxSteps:=2000000) (disch:=omega) only[go_sem,results54,eV,v0,str]);rfl) ?_;refine(AC hE [0] rfl ?_ ?_).s<;>simp[AI,AH,lk,ren,renL,A9,AG,eV,v0,str])
  |some n=>
   obtain⟨y,hy,hyk,rfl⟩:=DD hn2;have hyo:=hk y (List.mem_of_getElem? hy);have hy0:=hyo.lo hyk;have hy1:=hyo.hi;have:=(List.getElem?_eq_some_iff.1 hy).1;have d7:decide ((a1:Int)<(l.length:Int))=true:=decide_eq_true (by omega)
   have d8:(y.k==2)=true:=by simpa using hyk
   have z3:((a1:Int)+1) - 1=(a1:Int):=by omega
   dsimp only;unfold AF;unfold Aj at *;refine A8 func54 rfl (by kernel_rfl) (of_decide_eq_true (by kernel_rfl)) ?_;intro E hG hE;subst hG;simp only[Ai];(repeat' (first |refine A6 ?_ |refine A2 ?_ |refine A3 ?_ |refine A5 ?_ |((first |refine rR (fun K kp hK hkp=>?_) |refine rD (id:=7) AA 17 [0,1,2,3,4,5,6,7,8,9,10,11,12,13,14,15,16] (fun K kp hK hkp=>?_) |refine rD (id:=9) AA 11 [0,1,2,3,4,5,6,7,8,9,10] (fun K kp hK hkp=>?_) |refine rD (id:=21) AA 24 [0,1,2,3,4,5,6,7,8,9,10,11,12,13,14,15,16,17,18,19,20,21,22,23] (fun K kp hK hkp=>?_) |refine rU (id:=23) AA 14 [⟨0,0,[],[]⟩,⟨0,0,[0],[]⟩,⟨0,0,[0,1],[]⟩,⟨0,0,[0,1,2],[]⟩,⟨0,0,[],[]⟩,⟨0,0,[4],[]⟩,⟨0,0,[4,5],[]⟩,⟨0,0,[4,5,6],[]⟩,⟨0,0,[4,5,6,7],[]⟩,⟨0,0,[0,1,2,3,4,5,6,7,8],[]⟩,⟨0,0,[0,1,2,3,4,5,6,7,8,9],[]⟩,⟨0,0,[0,1,2,3,4,5,6,7,8,9,10],[]⟩,⟨0,0,[0,1,2,3,4,5,6,7,8,9,10,11],[]⟩,⟨0,0,[0,1,2,3,4,5,6,7,8,9,10,11,12],[]⟩] 0 [121,122,123,124,125,126,127,128,129,130,131,132,133,134] [] (fun K kp hK hkp=>?_) |refine oR [0] e1 ?_ |refine oR [0] e2 ?_ |refine oR [0] e3 ?_ |refine iG ?_ |refine iD ?_);simp(implicitDefEqProofs:=false) (maxSteps:=2000000) (disch:=omega) only[go_sem,d0,d1,hx,eT,d2,d4,d5,d6,z1,z3,d7,hy,d8];(repeat' (first |(refine hK _ ?_;clear hK hkp kp K) |(with_reducible refine And.intro ?_ ?_) |omega))) |((first |refine aG (fun h=>?_) (fun h=>?_) |refine aD (fun h=>?_) (fun h=>?_) |refine aX (fun h=>?_) (fun h=>?_))<;>simp only[h]) |refine A0 rfl ?_ |refine A1 rfl ?_ |((refine A4 rfl (fun h=>?_) (fun h=>?_)<;>try simp only[AK] at h)<;>(try (exfalso;omega))) |refine A7 ?_));(refine AB (by(simp(implicitDefEqProofs:=false) (maxSteps:=2000000) (disch:=omega) only[go_sem,results54,eV,str]);rfl) ?_;refine(AC hE [0] rfl ?_ ?_).s<;>simp[AI,AH,lk,ren,renL,A9,AG,eV,str])
theorem C5 (G:List (Nat×List Value))(l:List TK0)(s:WK)(q:List OP)(o:OP)(hl:l.length≤100)(hp:s.p≤100)(h1:s.e=0→1≤s.p)(hq:q.length≤1000)(hc:s.c≤1000):Con prog G 61 [.p 0 0 0,.s 1 0 q.length,.agg (eO o)] (Aj l s++[(1,B4 q)]) 2
  (Is (.s 2 0 (Bo l s q o).1.length) [(0,.box 48 [.ro true 3 (l.map eT),.r (.int .i64 (Bo l s q o).2.p),.r (.int .i64 (Bo l s q o).2.fl),.r (.int .i64 (Bo l s q o).2.e),.r (.int .i64 (Bo l s q o).2.c)]),(2,B4 (Bo l s q o).1)] 3) No:=by
 rw[Bo]
 by_cases h0:s.e=0
 rotate_left
 ·have d0:(s.e !=0)=true:=by simpa using h0
  rw[if_pos h0];unfold Aj B4 eO;simp only[List.cons_append,List.nil_append];refine A8 func61 rfl (by kernel_rfl) (of_decide_eq_true (by kernel_rfl)) ?_;intro E hG hE;subst hG;simp only[Ai];(repeat' (first |refine A6 ?_ |refine A2 ?_ |refine A3 ?_ |refine A5 ?_ |((first |refine rR (fun K kp hK hkp=>?_) |refine iG ?_);simp(implicitDefEqProofs:=false) (maxSteps:=2000000) (disch:=omega) only[go_sem,d0];(repeat' (first |(refine hK _ ?_;clear hK hkp kp K) |(with_reducible refine And.intro ?_ ?_) |omega))) |((first |refine aG (fun h=>?_) (fun h=>?_) |refine aD (fun h=>?_) (fun h=>?_) |refine aX (fun h=>?_) (fun h=>?_))<;>simp only[h]) |refine A0 rfl ?_ |refine A1 rfl ?_ |((refine A4 rfl (fun h=>?_) (fun h=>?_)<;>try simp only[AK] at h)<;>(try (exfalso;omega))) |refine A7 ?_));(refine AB (by(simp(implicitDefEqProofs:=false) (maxSteps:=2000000) (disch:=omega) only[go_sem,results61]);rfl) ?_;refine(JT [0,1,1] ?_ ?_ ?_ ?_ ?_ ?_).s<;>simp[J2,AI,AH,lk,ren,renL,A9,AG,hE]<;>(try (intro i hi;first |(rcases i with _ |_ |i;rfl;rfl;(exfalso;omega)) |(rcases i with _ |_ |_ |i;rfl;rfl;rfl;(exfalso;omega)) |(rcases i with _ |_ |_ |_ |i;rfl;rfl;rfl;rfl;(exfalso;omega)) |(rcases i with _ |_ |_ |_ |_ |i;rfl;rfl;rfl;rfl;rfl;(exfalso;omega)) |(rcases i with _ |_ |_ |_ |_ |_ |i;rfl;rfl;rfl;rfl;rfl;rfl;(exfalso;omega)))))
 have d0:(s.e !=0)=false:=by simpa using h0
 rw[if_neg (by simpa using h0)];have h1:=h1 h0
 by_cases h40:40≤s.c
 ·have d1:decide (((s.c:Int)+1)>40)=true:=decide_eq_true (by omega)
  rw[if_pos h40];have sc:=Bl G l {s with c:=s.c+1,p:=s.p - 1} 10 hl (by change s.p - 1≤100;omega)
  have z1:((s.p:Nat):Int) - 1=((s.p - 1:Nat):Int):=by omega
  unfold Aj B4 eO at *;simp only[List.cons_append,List.nil_append];refine A8 func61 rfl (by kernel_rfl) (of_decide_eq_true (by kernel_rfl)) ?_;intro E hG hE;subst hG;simp only[Ai];(repeat' (first |refine A6 ?_ |refine A2 ?_ |refine A3 ?_ |refine A5 ?_ |((first |refine rR (fun K kp hK hkp=>?_) |refine oR [0] sc ?_ |refine iG ?_);simp(implicitDefEqProofs:=false) (maxSteps:=2000000) (disch:=omega) only[go_sem,d0,d1,z1];(repeat' (first |(refine hK _ ?_;clear hK hkp kp K) |(with_reducible refine And.intro ?_ ?_) |omega))) |((first |refine aG (fun h=>?_) (fun h=>?_) |refine aD (fun h=>?_) (fun h=>?_) |refine aX (fun h=>?_) (fun h=>?_))<;>simp only[h]) |refine A0 rfl ?_ |refine A1 rfl ?_ |((refine A4 rfl (fun h=>?_) (fun h=>?_)<;>try simp only[AK] at h)<;>(try (exfalso;omega))) |refine A7 ?_));(refine AB (by(simp(implicitDefEqProofs:=false) (maxSteps:=2000000) (disch:=omega) only[go_sem,results61]);rfl) ?_;refine(JT [0,1,1] ?_ ?_ ?_ ?_ ?_ ?_).s<;>simp[J2,AI,AH,lk,ren,renL,A9,AG,hE]<;>(try (intro i hi;first |(rcases i with _ |_ |i;rfl;rfl;(exfalso;omega)) |(rcases i with _ |_ |_ |i;rfl;rfl;rfl;(exfalso;omega)) |(rcases i with _ |_ |_ |_ |i;rfl;rfl;rfl;rfl;(exfalso;omega)) |(rcases i with _ |_ |_ |_ |_ |i;rfl;rfl;rfl;rfl;rfl;(exfalso;omega)) |(rcases i with _ |_ |_ |_ |_ |_ |i;rfl;rfl;rfl;rfl;rfl;rfl;(exfalso;omega)))))
 ·have d1:decide (((s.c:Int)+1)>40)=false:=decide_eq_false (by omega)
  rw[if_neg h40];unfold Aj B4 eO at *;simp only[List.cons_append,List.nil_append];refine A8 func61 rfl (by kernel_rfl) (of_decide_eq_true (by kernel_rfl)) ?_;intro E hG hE;subst hG;simp only[Ai];(repeat' (first |refine A6 ?_ |refine A2 ?_ |refine A3 ?_ |refine A5 ?_ |((first |refine rR (fun K kp hK hkp=>?_) |refine iG ?_);simp(implicitDefEqProofs:=false) (maxSteps:=2000000) (disch:=omega) only[go_sem,d0,d1];(repeat' (first |(refine hK _ ?_;clear hK hkp kp K) |(with_reducible refine And.intro ?_ ?_) |omega))) |((first |refine aG (fun h=>?_) (fun h=>?_) |refine aD (fun h=>?_) (fun h=>?_) |refine aX (fun h=>?_) (fun h=>?_))<;>simp only[h]) |refine A0 rfl ?_ |refine A1 rfl ?_ |((refine A4 rfl (fun h=>?_) (fun h=>?_)<;>try simp only[AK] at h)<;>(try (exfalso;omega))) |refine A7 ?_));(refine AB (by(simp(implicitDefEqProofs:=false) (maxSteps:=2000000) (disch:=omega) only[go_sem,results61]);rfl) ?_;refine(AC hE [0,1,4] rfl ?_ ?_).s<;>simp[AI,AH,lk,ren,renL,A9,AG])
end Go.AM
namespace Go.AM
open Go Go.RowKit
open Go.Proofs.YtmgddlckgpfccaaDoor (OP Ac AY AR str)
structure WkOk (l:List TK0)(s:WK):Prop where
 p:s.p≤l.length
 live:s.e=0→s.c≤40
 c:s.c≤41
theorem Cf {l:List TK0}{s:WK}(h:WkOk l s)(e:Int)(he:e≠0):WkOk l (BA l s e)∧(BA l s e).c=s.c∧(BA l s e).p=s.p:=by
 unfold BA;split
 ·refine⟨⟨h.p,fun h0=>?_,h.c⟩,rfl,rfl⟩
  dsimp only at h0;split at h0
  ·cases h0
  ·exact absurd h0 he
 ·exact⟨h,rfl,rfl⟩
theorem As {l:List TK0}{s:WK}{k:Int}{t:ByteArray}(h:BX l s k t=true):s.e=0∧s.p<l.length:=by
 unfold BX at h;simp only[Bool.and_eq_true,decide_eq_true_eq] at h;exact⟨h.1,Aq h.2⟩
theorem Av {l:List TK0}{s:WK}(h:WkOk l s)(hp:s.p<l.length):WkOk l (AF s)∧(AF s).c=s.c:=⟨⟨hp,h.live,h.c⟩,rfl⟩
theorem HO {l:List TK0}{s:WK}(h:WkOk l s)(k:Int)(t:ByteArray):WkOk l (BC l s k t)∧(BC l s k t).c=s.c:=by
 unfold BC;split
 ·rename_i h1;exact Av h (As h1).2
 ·exact⟨(Cf h 6 (by decide)).1,(Cf h 6 (by decide)).2.1⟩
theorem Hc {l:List TK0}{s:WK}(h:WkOk l s):WkOk l (Ae l s).2∧(Ae l s).2.c=s.c:=by
 unfold Ae;split
 ·exact⟨h,rfl⟩
 split
 ·exact⟨(Cf h 6 (by decide)).1,(Cf h 6 (by decide)).2.1⟩
 rename_i t hx;have hlt:=(List.getElem?_eq_some_iff.1 hx).1;split
 ·exact⟨(Cf h 6 (by decide)).1,(Cf h 6 (by decide)).2.1⟩
 split
 ·rename_i hn;exact⟨(Cf h _ hn).1,(Cf h _ hn).2.1⟩
 ·exact Av h hlt
theorem Jb {l:List TK0}{s:WK}(h:WkOk l s):WkOk l (Bp l s).2∧(Bp l s).2.c=s.c∧((Bp l s).1.2=true→s.p<(Bp l s).2.p)∧((Bp l s).2.p=s.p∨s.p<l.length):=by
 unfold Bp;split
 ·rename_i h1;exact⟨(Av h (As h1).2).1,rfl,fun _=>Nat.lt_succ_self _,.inr (As h1).2⟩
 split
 ·rename_i h1;exact⟨(Av h (As h1).2).1,rfl,fun _=>Nat.lt_succ_self _,.inr (As h1).2⟩
 split
 ·rename_i h1;exact⟨(Av h (As h1).2).1,rfl,fun _=>Nat.lt_succ_self _,.inr (As h1).2⟩
 split
 ·exact⟨h,rfl,fun h=>(Bool.false_ne_true h).elim,.inl rfl⟩
 split
 ·rename_i t ht
  have hlt:=Kb ht;split
  ·exact⟨(Cf h 1 (by decide)).1,(Cf h 1 (by decide)).2.1,fun h=>(Bool.false_ne_true h).elim,.inr hlt⟩
  ·exact⟨(Av h hlt).1,rfl,fun _=>Nat.lt_succ_self _,.inr hlt⟩
 split
 ·rename_i n hn
  have hlt:=Eu hn;exact⟨(Av h hlt).1,rfl,fun _=>Nat.lt_succ_self _,.inr hlt⟩
 split
 ·rename_i hm
  have hlt:=Aq hm;have h1:=(Av h hlt).1;split
  ·rename_i n hn
   have hl2:=Eu hn;exact⟨(Av h1 hl2).1,rfl,fun _=>by change s.p<s.p+1+1;omega,.inr hlt⟩
  ·exact⟨(Cf h1 6 (by decide)).1,(Cf h1 6 (by decide)).2.1,fun h=>(Bool.false_ne_true h).elim,.inr hlt⟩
 ·exact⟨h,rfl,fun h=>(Bool.false_ne_true h).elim,.inl rfl⟩
theorem Ck {l:List TK0}{s:WK}(h:WkOk l s)(q:List OP)(o:OP):WkOk l (Bo l s q o).2∧s.c≤(Bo l s q o).2.c∧(Bo l s q o).1.length+s.c≤q.length+(Bo l s q o).2.c:=by
 unfold Bo;split
 ·exact⟨h,Nat.le_refl _,Nat.le_refl _⟩
 rename_i h0
 have h0:s.e=0:=by simpa using h0
 have hc:=h.live h0;split
 ·have h1:WkOk l {s with c:=s.c+1,p:=s.p - 1}→True:=fun _=>trivial
  refine⟨⟨?_,fun h2=>?_,?_⟩,?_,?_⟩
  ·unfold BA;split<;>(dsimp only;have:=h.p;omega)
  ·exfalso
   unfold BA at h2;rw[if_pos h0] at h2;dsimp only at h2
   split at h2<;>cases h2
  ·unfold BA;split<;>(dsimp only;omega)
  ·unfold BA;split<;>(dsimp only;omega)
  ·unfold BA;split<;>(dsimp only;omega)
 ·rename_i h40
  exact⟨⟨h.p,fun _=>by dsimp only;omega,by dsimp only;omega⟩,Nat.le_succ _,by simp only[List.length_append,List.length_cons,List.length_nil];omega⟩
theorem Be (l:List TK0): ∀(f n:Nat)(s:WK)(q q':List OP)(s':WK),Az l f n s q=some (q',s')→n≤14→WkOk l s→WkOk l s'∧s.c≤s'.c∧q'.length+s.c≤(if n<7 then 0 else q.length)+s'.c:=by
 intro f
 induction f with
 |zero=>intro n s q q' s' h;cases h
 |succ f ih=>
  intro n s q q' s' h hn hs;rw[Az] at h
  by_cases h7:n<7
  ·rw[if_pos h7] at h ⊢
   split at h
   ·cases h;exact⟨hs,Nat.le_refl _,by simp⟩
   split at h
   ·obtain⟨k1,k2,_,_⟩:=Jb hs
    split at h
    ·injection h with h
     obtain⟨a1,a2,a3⟩:=Ck k1 [] (I7 (Bp l s).1.1);rw[h] at a1 a2 a3;dsimp only at a1 a2 a3;simp only[List.length_nil] at a3;exact⟨a1,by omega,by omega⟩
    split at h
    ·rename_i ho
     obtain⟨w1,w2⟩:=Av k1 (As ho).2;split at h
     ·rename_i q1 s1 hy
      injection h with h;injection h with ha hb
      obtain⟨a1,a2,a3⟩:=ih _ _ _ _ _ hy (by omega) w1;rw[if_pos (by omega)] at a3;obtain⟨n1,n2⟩:=HO a1 4 AW;subst ha hb;exact⟨n1,by omega,by omega⟩
     ·cases h
    ·injection h with h
     obtain⟨w1,w2⟩:=Hc k1;obtain⟨a1,a2,a3⟩:=Ck w1 [] (HL (Ae l (Bp l s).2).1);rw[h] at a1 a2 a3;dsimp only at a1 a2 a3;simp only[List.length_nil] at a3;exact⟨a1,by omega,by omega⟩
   split at h
   ·rename_i h2
    obtain⟨w1,w2⟩:=Av hs (As h2.2).2;split at h
    ·rename_i q1 s1 hy
     injection h with h
     obtain⟨a1,a2,a3⟩:=ih _ _ _ _ _ hy (by omega) w1;rw[if_pos (by omega)] at a3;obtain⟨b1,b2,b3⟩:=Ck a1 q1 (Ay 5);rw[h] at b1 b2 b3;dsimp only at b1 b2 b3;exact⟨b1,by omega,by omega⟩
    ·cases h
   ·split at h
    ·rename_i q1 s1 hy
     obtain⟨a1,a2,a3⟩:=ih _ _ _ _ _ hy (by omega) hs
     have a3:q1.length+s.c≤s1.c:=by
      split at a3
      ·omega
      ·simp only[List.length_nil] at a3;omega
     split at h
     ·cases h;exact⟨a1,a2,by omega⟩
     split at h
     ·obtain⟨b1,b2,b3⟩:=ih _ _ _ _ _ h (by omega) a1
      rw[if_neg (by omega)] at b3;exact⟨b1,by omega,by omega⟩
     ·obtain⟨b1,b2,b3⟩:=ih _ _ _ _ _ h (by omega) a1
      rw[if_neg (by omega)] at b3;exact⟨b1,by omega,by omega⟩
    ·cases h
  rw[if_neg h7] at h ⊢;split at h
  ·split at h
   ·rename_i ho
    obtain⟨w1,w2⟩:=Av hs (As ho).2
    have ht:WkOk l (Bv l (AF s) 1 Bz).2∧(Bv l (AF s) 1 Bz).2.c=s.c:=by
     unfold Bv;split
     ·rename_i h1;exact⟨(Av w1 (As h1).2).1,rfl⟩
     ·exact⟨w1,rfl⟩
    obtain⟨n1,n2⟩:=HO ht.1 1 Ah;obtain⟨a1,a2,a3⟩:=Ck n1 q (Ay 11)
    injection h with h
    split at h
    ·obtain⟨b1,b2,b3⟩:=Ck a1 (Bo l (BC l (Bv l (AF s) 1 Bz).2 1 Ah) q (Ay 11)).1 (Ay 5)
     rw[h] at b1 b2 b3;dsimp only at b1 b2 b3;exact⟨b1,by omega,by omega⟩
    ·rw[h] at a1 a2 a3
     dsimp only at a1 a2 a3;exact⟨a1,by omega,by omega⟩
   ·split at h
    ·cases h;exact⟨hs,Nat.le_refl _,Nat.le_refl _⟩
    ·rename_i m hm
     have hlt:s.p<l.length:=by
      unfold Ct at hm;split at hm
      ·exact HZ hm
      ·cases hm
     obtain⟨w1,w2⟩:=Av hs hlt;split at h
     ·rename_i q2 s1 hy
      obtain⟨a1,a2,a3⟩:=ih _ _ _ _ _ hy (by omega) w1;rw[if_pos (by omega)] at a3
      have hl:(if m.sw=true then q2++q else q++q2).length=q.length+q2.length:=by split<;>simp[Nat.add_comm]
      obtain⟨b1,b2,b3⟩:=Ck a1 (if m.sw=true then q2++q else q++q2) (Ay m.k)
      injection h with h
      split at h
      ·obtain⟨e1,e2,e3⟩:=Ck b1 (Bo l s1 (if m.sw=true then q2++q else q++q2) (Ay m.k)).1 (Ay 5)
       rw[h] at e1 e2 e3;dsimp only at e1 e2 e3;exact⟨e1,by omega,by omega⟩
      ·rw[h] at b1 b2 b3
       dsimp only at b1 b2 b3;exact⟨b1,by omega,by omega⟩
     ·cases h
  ·split at h
   ·cases h;exact⟨hs,Nat.le_refl _,Nat.le_refl _⟩
   split at h
   ·cases h;exact⟨hs,Nat.le_refl _,Nat.le_refl _⟩
   ·rename_i k ho
    obtain⟨w1,w2⟩:=Av hs (Cc ho).1;split at h
    ·rename_i q2 s1 hy
     obtain⟨a1,a2,a3⟩:=ih _ _ _ _ _ hy (by have:=(Cc ho).2;omega) w1;rw[if_pos (by have:=(Cc ho).2;omega)] at a3;obtain⟨b1,b2,b3⟩:=Ck a1 (q++q2) (Ay k);rw[List.length_append] at b3;obtain⟨e1,e2,e3⟩:=ih _ _ _ _ _ h hn b1;rw[if_neg h7] at e3;exact⟨e1,by omega,by omega⟩
    ·cases h
theorem CD {l:List TK0}{s:WK}{e:Int}(he:e≠0)(h:(BA l s e).e=0):False:=by
 unfold BA at h;split at h
 ·dsimp only at h
  split at h
  ·cases h
  ·exact he h
 ·rename_i h0;exact h0 h
theorem EB {l:List TK0}{s:WK}{k:Int}{t:ByteArray}(h:(BC l s k t).e=0):s.e=0∧(BC l s k t).p=s.p+1:=by
 unfold BC at h ⊢;split
 ·rename_i h1;exact⟨(As h1).1,rfl⟩
 ·rename_i h1;rw[if_neg h1] at h;exact(CD (by decide) h).elim
theorem Fj {l:List TK0}{s:WK}(h:(Ae l s).2.e=0):s.e=0∧(Ae l s).2.p=s.p+1:=by
 have h0:s.e=0:=Classical.byContradiction fun h0=>by rw[Dz h0] at h;exact h0 h
 refine⟨h0,?_⟩;unfold Ae at h ⊢;rw[if_neg (by simpa using h0)] at h ⊢
 cases hx:l[s.p]? with
 |none=>rw[hx] at h;exact(CD (by decide) h).elim
 |some t=>
  rw[hx] at h;dsimp only at h ⊢;split
  ·rename_i h1;rw[if_pos h1] at h;exact(CD (by decide) h).elim
  ·rename_i h1
   rw[if_neg h1] at h;split
   ·rename_i h2;rw[if_pos h2] at h;exact(CD h2 h).elim
   ·rfl
theorem Cb {l:List TK0}{s:WK}{q:List OP}{o:OP}(h:(Bo l s q o).2.e=0):s.e=0∧(Bo l s q o).2.p=s.p:=by
 have h0:s.e=0:=Classical.byContradiction fun h0=>by rw[DN h0] at h;exact h0 h
 refine⟨h0,?_⟩;unfold Bo at h ⊢;rw[if_neg (by simpa using h0)] at h ⊢;split
 ·rename_i h1;rw[if_pos h1] at h;exact(CD (by decide) h).elim
 ·rfl
theorem G3 {l:List TK0}{s:WK}(h:(Bp l s).2.e=0):s.e=0∧s.p≤(Bp l s).2.p:=by
 have h0:s.e=0:=Classical.byContradiction fun h0=>by rw[JJ h0] at h;exact h0 h
 refine⟨h0,?_⟩;unfold Bp AF
 repeat' split
 all_goals first |exact Nat.le_refl _ |exact Nat.le_succ _ |(dsimp only;omega) |(unfold BA;split<;>(dsimp only;omega))
theorem CH (l:List TK0): ∀(f n:Nat)(s:WK)(q q':List OP)(s':WK),Az l f n s q=some (q',s')→n≤14→WkOk l s→s'.e=0→s.e=0∧(n<7→s.p<s'.p)∧(7≤n→s.p≤s'.p):=by
 intro f
 induction f with
 |zero=>intro n s q q' s' h;cases h
 |succ f ih=>
  intro n s q q' s' h hn hs hl;rw[Az] at h
  by_cases h7:n<7
  ·rw[if_pos h7] at h
   split at h
   ·rename_i h0;cases h;exact absurd hl h0
   rename_i h0
   have h0:s.e=0:=by simpa using h0
   refine⟨h0,fun _=>?_,fun h=>by omega⟩;split at h
   ·obtain⟨k1,k2,k3,_⟩:=Jb hs
    split at h
    ·rename_i hok
     injection h with h
     have:=Cb (l:=l) (s:=(Bp l s).2) (q:=[]) (o:=I7 (Bp l s).1.1) (by rw[h];exact hl);rw[h] at this;have:=k3 hok;dsimp only at *;omega
    split at h
    ·rename_i ho
     obtain⟨w1,w2⟩:=Av k1 (As ho).2;have hlit:=G3 (As ho).1;split at h
     ·rename_i q1 s1 hy
      injection h with h;injection h with ha hb
      subst ha hb;obtain⟨n1,n2⟩:=EB hl;obtain⟨_,a2,_⟩:=ih _ _ _ _ _ hy (by omega) w1 n1;have:=a2 (by omega);change (Bp l s).2.p+1<s1.p at this;omega
     ·cases h
    ·injection h with h
     obtain⟨o1,o2⟩:=Cb (l:=l) (s:=(Ae l (Bp l s).2).2) (q:=[]) (o:=HL (Ae l (Bp l s).2).1) (by rw[h];exact hl);obtain⟨n1,n2⟩:=Fj o1;have:=G3 n1;rw[h] at o2;dsimp only at *;omega
   split at h
   ·rename_i h2
    obtain⟨w1,w2⟩:=Av hs (As h2.2).2;split at h
    ·rename_i q1 s1 hy
     injection h with h
     obtain⟨o1,o2⟩:=Cb (l:=l) (s:=s1) (q:=q1) (o:=Ay 5) (by rw[h];exact hl);obtain⟨_,a2,_⟩:=ih _ _ _ _ _ hy (by omega) w1 o1;have:=a2 (by omega);change s.p+1<s1.p at this;rw[h] at o2;dsimp only at o2;omega
    ·cases h
   ·rename_i h6 _
    split at h
    ·rename_i q1 s1 hy
     have w1:=(Be l _ _ _ _ _ _ hy (by omega) hs).1;split at h
     ·cases h
      obtain⟨_,a2,_⟩:=ih _ _ _ _ _ hy (by omega) hs hl;exact a2 (by omega)
     split at h
     ·obtain⟨b1,_,b3⟩:=ih _ _ _ _ _ h (by omega) w1 hl
      obtain⟨_,a2,_⟩:=ih _ _ _ _ _ hy (by omega) hs b1
      have:=a2 (by omega);have:=b3 (by omega);omega
     ·obtain⟨b1,_,b3⟩:=ih _ _ _ _ _ h (by omega) w1 hl
      obtain⟨_,a2,_⟩:=ih _ _ _ _ _ hy (by omega) hs b1
      have:=a2 (by omega);have:=b3 (by omega);omega
    ·cases h
  rw[if_neg h7] at h;split at h
  ·split at h
   ·rename_i ho
    obtain⟨w1,w2⟩:=Av hs (As ho).2
    have tk:(Bv l (AF s) 1 Bz).2.e=0→s.p+1≤(Bv l (AF s) 1 Bz).2.p:=by
     intro _;unfold Bv;split
     ·change s.p+1≤s.p+1+1;omega
     ·exact Nat.le_refl _
    injection h with h
    refine⟨(As ho).1,fun h=>by omega,fun _=>?_⟩;split at h
    ·obtain⟨o1,o2⟩:=Cb (l:=l) (q:=(Bo l (BC l (Bv l (AF s) 1 Bz).2 1 Ah) q (Ay 11)).1) (s:=(Bo l (BC l (Bv l (AF s) 1 Bz).2 1 Ah) q (Ay 11)).2) (o:=Ay 5) (by rw[h];exact hl)
     obtain⟨p1,p2⟩:=Cb o1;obtain⟨n1,n2⟩:=EB p1;have:=tk n1;rw[h] at o2;dsimp only at o2;omega
    ·obtain⟨p1,p2⟩:=Cb (l:=l) (s:=BC l (Bv l (AF s) 1 Bz).2 1 Ah) (q:=q) (o:=Ay 11) (by rw[h];exact hl)
     obtain⟨n1,n2⟩:=EB p1;have:=tk n1;rw[h] at p2;dsimp only at p2;omega
   ·split at h
    ·cases h;exact⟨hl,fun h=>by omega,fun _=>Nat.le_refl _⟩
    ·rename_i m hm
     have hm0:s.e=0∧s.p<l.length:=by
      unfold Ct at hm;split at hm
      ·rename_i h0;exact⟨h0,HZ hm⟩
      ·cases hm
     obtain⟨w1,w2⟩:=Av hs hm0.2;refine⟨hm0.1,fun h=>by omega,fun _=>?_⟩;split at h
     ·rename_i q2 s1 hy
      injection h with h
      split at h
      ·obtain⟨o1,o2⟩:=Cb (l:=l) (s:=(Bo l s1 (if m.sw=true then q2++q else q++q2) (Ay m.k)).2) (q:=(Bo l s1 (if m.sw=true then q2++q else q++q2) (Ay m.k)).1) (o:=Ay 5) (by rw[h];exact hl)
       obtain⟨p1,p2⟩:=Cb o1;obtain⟨_,a2,_⟩:=ih _ _ _ _ _ hy (by omega) w1 p1;have:=a2 (by omega);change s.p+1<s1.p at this;rw[h] at o2;dsimp only at o2;omega
      ·obtain⟨p1,p2⟩:=Cb (l:=l) (s:=s1) (q:=if m.sw=true then q2++q else q++q2) (o:=Ay m.k) (by rw[h];exact hl)
       obtain⟨_,a2,_⟩:=ih _ _ _ _ _ hy (by omega) w1 p1;have:=a2 (by omega);change s.p+1<s1.p at this;rw[h] at p2;dsimp only at p2;omega
     ·cases h
  ·split at h
   ·rename_i h0;cases h;exact absurd hl h0
   rename_i h0
   have h0:s.e=0:=by simpa using h0
   refine⟨h0,fun h=>by omega,fun _=>?_⟩;split at h
   ·cases h;exact Nat.le_refl _
   ·rename_i k ho
    obtain⟨w1,w2⟩:=Av hs (Cc ho).1;split at h
    ·rename_i q2 s1 hy
     have w2:=(Be l _ _ _ _ _ _ hy (by have:=(Cc ho).2;omega) w1).1;have w3:=(Ck w2 (q++q2) (Ay k)).1;obtain⟨b1,_,b3⟩:=ih _ _ _ _ _ h hn w3 hl;obtain⟨p1,p2⟩:=Cb b1;obtain⟨_,a2,_⟩:=ih _ _ _ _ _ hy (by have:=(Cc ho).2;omega) w1 p1;have:=a2 (by have:=(Cc ho).2;omega);have:=b3 (by omega);change s.p+1<s1.p at *;omega
    ·cases h
end Go.AM
namespace Go.AM
open Go Go.RowKit
open Go.Proofs.YtmgddlckgpfccaaDoor (OP Ac AY AR str)
attribute [local irreducible] AWP BS
set_option maxHeartbeats 8000000 in
theorem Bn (G:List (Nat×List Value))(t u:Bool)(a b:List OP)(ha:a.length≤1000)(hb:b.length≤1000):Con prog G 63 [.ro t 5 (a.map eO),.ro u 5 (b.map eO)] [] 0 (Is (.s 0 0 (a++b).length) [(0,B4 (a++b))] 1) No:=by
 unfold B4;refine A8 func63 rfl (by kernel_rfl) (of_decide_eq_true (by kernel_rfl)) ?_;intro E hG hE;subst hG;simp only[Ai];(repeat' (first |refine A6 ?_ |refine A2 ?_ |refine A3 ?_ |refine A5 ?_ |((first |refine rR (fun K kp hK hkp=>?_) |refine iG ?_);simp(implicitDefEqProofs:=false) (maxSteps:=2000000) (disch:=omega) only[go_sem];(repeat' (first |(refine hK _ ?_;clear hK hkp kp K) |(with_reducible refine And.intro ?_ ?_) |omega))) |((first |refine aG (fun h=>?_) (fun h=>?_) |refine aD (fun h=>?_) (fun h=>?_) |refine aX (fun h=>?_) (fun h=>?_))<;>simp only[h]) |refine A0 rfl ?_ |refine A1 rfl ?_ |((refine A4 rfl (fun h=>?_) (fun h=>?_)<;>try simp only[AK] at h)<;>(try (exfalso;omega))) |refine A7 ?_));(refine AWP.emb (GD 5 73 5 ?_) ?_;(·rfl);dsimp only);refine Ap (fun k:Nat=>⟨[(6,.r (.int .i64 k)),(0,.ro t 5 (a.map eO)),(1,.ro u 5 (b.map eO)),(5,.s 0 0 (a.take k).length)],[(0,.lst 73 5 ((a.take k).map eO))],1⟩) (fun k=>k≤a.length) (fun k=>a.length - k) 0 ?_ ?_ ?_
 ·exact Nat.zero_le _
 ·(refine Am hE [0] rfl ?_ ?_<;>simp[Bi,AH,lk,ren,renL,A9,AG]<;>(try omega))
 intro k hk
 by_cases hlt:k<a.length
 ·obtain⟨x,hx⟩: ∃x,a[k]?=some x:=⟨a[k],by simp[hlt]⟩
  have d1:decide ((k:Int)<(a.length:Int))=true:=decide_eq_true (by omega)
  have htk:a.take (k+1)=a.take k++[x]:=by rw[List.take_add_one,hx];rfl
  have hle:(a.take k).length≤1000:=by rw[List.length_take];omega
  generalize a.take k=z at htk hle ⊢;(repeat' (first |refine A6 ?_ |refine A2 ?_ |refine A3 ?_ |refine A5 ?_ |((first |refine rR (fun K kp hK hkp=>?_) |refine iG ?_);simp(implicitDefEqProofs:=false) (maxSteps:=2000000) (disch:=omega) only[go_sem,hx,eO,d1];(repeat' (first |(refine hK _ ?_;clear hK hkp kp K) |(with_reducible refine And.intro ?_ ?_) |omega))) |((first |refine aG (fun h=>?_) (fun h=>?_) |refine aD (fun h=>?_) (fun h=>?_) |refine aX (fun h=>?_) (fun h=>?_))<;>simp only[h]) |refine A0 rfl ?_ |refine A1 rfl ?_ |((refine A4 rfl (fun h=>?_) (fun h=>?_)<;>try simp only[AK] at h)<;>(try (exfalso;omega))) |refine A7 ?_))
  ((first |(refine Ba (k+1) ?_ ?_ ?_) |(refine BT (k+1) ?_ ?_ ?_) |(refine nextE (k+1) ?_ ?_ ?_));rotate_left;(·(try dsimp only);(first |omega |(simp only[List.length_drop,List.length_cons,List.length_append];omega) |(simp;done) |(simp;omega)));(·(refine Am hE [2] rfl ?_ ?_<;>simp[Bi,AH,lk,ren,renL,A9,AG,htk,eO]<;>(try omega))))
  omega
 ·obtain rfl:k=a.length:=by omega
  have d1:decide ((a.length:Int)<(a.length:Int))=false:=decide_eq_false (by omega);rw[List.take_of_length_le (Nat.le_refl _)];(repeat' (first |refine A6 ?_ |refine A2 ?_ |refine A3 ?_ |refine A5 ?_ |((first |refine rR (fun K kp hK hkp=>?_) |refine iG ?_);simp(implicitDefEqProofs:=false) (maxSteps:=2000000) (disch:=omega) only[go_sem,d1];(repeat' (first |(refine hK _ ?_;clear hK hkp kp K) |(with_reducible refine And.intro ?_ ?_) |omega))) |((first |refine aG (fun h=>?_) (fun h=>?_) |refine aD (fun h=>?_) (fun h=>?_) |refine aX (fun h=>?_) (fun h=>?_))<;>simp only[h]) |refine A0 rfl ?_ |refine A1 rfl ?_ |((refine A4 rfl (fun h=>?_) (fun h=>?_)<;>try simp only[AK] at h)<;>(try (exfalso;omega))) |refine A7 ?_));refine Ap (fun k:Nat=>⟨[(7,.r (.int .i64 k)),(1,.ro u 5 (b.map eO)),(5,.s 0 0 (a++b.take k).length)],[(0,.lst 73 5 ((a++b.take k).map eO))],1⟩) (fun k=>k≤b.length) (fun k=>b.length - k) 0 ?_ ?_ ?_
  ·exact Nat.zero_le _
  ·(refine Am hE [0] rfl ?_ ?_<;>simp[Bi,AH,lk,ren,renL,A9,AG]<;>(try omega))
  intro k hk
  by_cases hlt:k<b.length
  ·obtain⟨x,hx⟩: ∃x,b[k]?=some x:=⟨b[k],by simp[hlt]⟩
   have d1:decide ((k:Int)<(b.length:Int))=true:=decide_eq_true (by omega)
   have htk:a++b.take (k+1)=(a++b.take k)++[x]:=by rw[List.take_add_one,hx,List.append_assoc];rfl
   have hle:(a++b.take k).length≤2000:=by rw[List.length_append,List.length_take];omega
   generalize a++b.take k=z at htk hle ⊢;(repeat' (first |refine A6 ?_ |refine A2 ?_ |refine A3 ?_ |refine A5 ?_ |((first |refine rR (fun K kp hK hkp=>?_) |refine iG ?_);simp(implicitDefEqProofs:=false) (maxSteps:=2000000) (disch:=omega) only[go_sem,hx,eO,d1];(repeat' (first |(refine hK _ ?_;clear hK hkp kp K) |(with_reducible refine And.intro ?_ ?_) |omega))) |((first |refine aG (fun h=>?_) (fun h=>?_) |refine aD (fun h=>?_) (fun h=>?_) |refine aX (fun h=>?_) (fun h=>?_))<;>simp only[h]) |refine A0 rfl ?_ |refine A1 rfl ?_ |((refine A4 rfl (fun h=>?_) (fun h=>?_)<;>try simp only[AK] at h)<;>(try (exfalso;omega))) |refine A7 ?_))
   ((first |(refine Ba (k+1) ?_ ?_ ?_) |(refine BT (k+1) ?_ ?_ ?_) |(refine nextE (k+1) ?_ ?_ ?_));rotate_left;(·(try dsimp only);(first |omega |(simp only[List.length_drop,List.length_cons,List.length_append];omega) |(simp;done) |(simp;omega)));(·(refine Am hE [2] rfl ?_ ?_<;>simp[Bi,AH,lk,ren,renL,A9,AG,htk,eO]<;>(try omega))))
   omega
  ·obtain rfl:k=b.length:=by omega
   have d1:decide ((b.length:Int)<(b.length:Int))=false:=decide_eq_false (by omega);rw[List.take_of_length_le (Nat.le_refl _)];generalize a++b=z;(repeat' (first |refine A6 ?_ |refine A2 ?_ |refine A3 ?_ |refine A5 ?_ |((first |refine rR (fun K kp hK hkp=>?_) |refine iG ?_);simp(implicitDefEqProofs:=false) (maxSteps:=2000000) (disch:=omega) only[go_sem,d1];(repeat' (first |(refine hK _ ?_;clear hK hkp kp K) |(with_reducible refine And.intro ?_ ?_) |omega))) |((first |refine aG (fun h=>?_) (fun h=>?_) |refine aD (fun h=>?_) (fun h=>?_) |refine aX (fun h=>?_) (fun h=>?_))<;>simp only[h]) |refine A0 rfl ?_ |refine A1 rfl ?_ |((refine A4 rfl (fun h=>?_) (fun h=>?_)<;>try simp only[AK] at h)<;>(try (exfalso;omega))) |refine A7 ?_));(refine AB (by(simp(implicitDefEqProofs:=false) (maxSteps:=2000000) (disch:=omega) only[go_sem,results63]);rfl) ?_;refine(AC hE [0] rfl ?_ ?_).s<;>simp[AI,AH,lk,ren,renL,A9,AG])
theorem Mh (G:List (Nat×List Value))(l:List TK0)(s:WK)(o:OP)(hl:l.length≤100)(hp:s.p≤100)(h1:s.e=0→1≤s.p)(hc:s.c≤1000):Con prog G 61 [.p 0 0 0,.r (.slice none 0 0),.agg (eO o)] (Aj l s) 1
  (Is (.s 1 0 (Bo l s [] o).1.length) [(0,.box 48 [.ro true 3 (l.map eT),.r (.int .i64 (Bo l s [] o).2.p),.r (.int .i64 (Bo l s [] o).2.fl),.r (.int .i64 (Bo l s [] o).2.e),.r (.int .i64 (Bo l s [] o).2.c)]),(1,B4 (Bo l s [] o).1)] 2) No:=by
 rw[Bo]
 by_cases h0:s.e=0
 rotate_left
 ·have d0:(s.e !=0)=true:=by simpa using h0
  rw[if_pos h0];unfold Aj B4 eO;refine A8 func61 rfl (by kernel_rfl) (of_decide_eq_true (by kernel_rfl)) ?_;intro E hG hE;subst hG;simp only[Ai];(repeat' (first |refine A6 ?_ |refine A2 ?_ |refine A3 ?_ |refine A5 ?_ |((first |refine rR (fun K kp hK hkp=>?_) |refine iG ?_);simp(implicitDefEqProofs:=false) (maxSteps:=2000000) (disch:=omega) only[go_sem,d0];(repeat' (first |(refine hK _ ?_;clear hK hkp kp K) |(with_reducible refine And.intro ?_ ?_) |omega))) |((first |refine aG (fun h=>?_) (fun h=>?_) |refine aD (fun h=>?_) (fun h=>?_) |refine aX (fun h=>?_) (fun h=>?_))<;>simp only[h]) |refine A0 rfl ?_ |refine A1 rfl ?_ |((refine A4 rfl (fun h=>?_) (fun h=>?_)<;>try simp only[AK] at h)<;>(try (exfalso;omega))) |refine A7 ?_));(refine AB (by(simp(implicitDefEqProofs:=false) (maxSteps:=2000000) (disch:=omega) only[go_sem,results61]);rfl) ?_;refine FO 73 5 ?_;refine(AC hE [0,2] rfl ?_ ?_).s<;>simp[AH,lk,ren,renL,A9,AG])
 have h1:=h1 h0
 have d0:(s.e !=0)=false:=by simpa using h0
 rw[if_neg (by simpa using h0)]
 by_cases h40:40≤s.c
 ·have d1:decide (((s.c:Int)+1)>40)=true:=decide_eq_true (by omega)
  rw[if_pos h40];have sc:=Bl G l {s with c:=s.c+1,p:=s.p - 1} 10 hl (by change s.p - 1≤100;omega)
  have z1:((s.p:Nat):Int) - 1=((s.p - 1:Nat):Int):=by omega
  unfold Aj B4 eO at *;refine A8 func61 rfl (by kernel_rfl) (of_decide_eq_true (by kernel_rfl)) ?_;intro E hG hE;subst hG;simp only[Ai];(repeat' (first |refine A6 ?_ |refine A2 ?_ |refine A3 ?_ |refine A5 ?_ |((first |refine rR (fun K kp hK hkp=>?_) |refine oR [0] sc ?_ |refine iG ?_);simp(implicitDefEqProofs:=false) (maxSteps:=2000000) (disch:=omega) only[go_sem,d0,d1,z1];(repeat' (first |(refine hK _ ?_;clear hK hkp kp K) |(with_reducible refine And.intro ?_ ?_) |omega))) |((first |refine aG (fun h=>?_) (fun h=>?_) |refine aD (fun h=>?_) (fun h=>?_) |refine aX (fun h=>?_) (fun h=>?_))<;>simp only[h]) |refine A0 rfl ?_ |refine A1 rfl ?_ |((refine A4 rfl (fun h=>?_) (fun h=>?_)<;>try simp only[AK] at h)<;>(try (exfalso;omega))) |refine A7 ?_));(refine AB (by(simp(implicitDefEqProofs:=false) (maxSteps:=2000000) (disch:=omega) only[go_sem,results61]);rfl) ?_;refine FO 73 5 ?_;refine(AC hE [0,2] rfl ?_ ?_).s<;>simp[AH,lk,ren,renL,A9,AG])
 ·have d1:decide (((s.c:Int)+1)>40)=false:=decide_eq_false (by omega)
  rw[if_neg h40];unfold Aj B4 eO at *;refine A8 func61 rfl (by kernel_rfl) (of_decide_eq_true (by kernel_rfl)) ?_;intro E hG hE;subst hG;simp only[Ai];(repeat' (first |refine A6 ?_ |refine A2 ?_ |refine A3 ?_ |refine A5 ?_ |((first |refine rR (fun K kp hK hkp=>?_) |refine iG ?_);simp(implicitDefEqProofs:=false) (maxSteps:=2000000) (disch:=omega) only[go_sem,d0,d1];(repeat' (first |(refine hK _ ?_;clear hK hkp kp K) |(with_reducible refine And.intro ?_ ?_) |omega))) |((first |refine aG (fun h=>?_) (fun h=>?_) |refine aD (fun h=>?_) (fun h=>?_) |refine aX (fun h=>?_) (fun h=>?_))<;>simp only[h]) |refine A0 rfl ?_ |refine A1 rfl ?_ |((refine A4 rfl (fun h=>?_) (fun h=>?_)<;>try simp only[AK] at h)<;>(try (exfalso;omega))) |refine A7 ?_));(refine AB (by(simp(implicitDefEqProofs:=false) (maxSteps:=2000000) (disch:=omega) only[go_sem,results61]);rfl) ?_;refine(AC hE [0,3] rfl ?_ ?_).s<;>simp[AI,AH,lk,ren,renL,A9,AG])
end Go.AM
namespace Go.AM
open Go Go.RowKit
open Go.Proofs.YtmgddlckgpfccaaDoor (OP Ac AY AR str)
attribute [local irreducible] AWP BS
def F9 (G:List (Nat×List Value))(l:List TK0)(f n:Nat):Prop:= ∀(s:WK)(q:List OP)(s':WK),Az l f n s []=some (q,s')→WkOk l s→Con prog G 55 [.p 0 0 0,.r (.int .i64 n)] (Aj l s) 1 (Is (.s 1 0 q.length) [(0,.box 48 [.ro true 3 (l.map eT),.r (.int .i64 s'.p),.r (.int .i64 s'.fl),.r (.int .i64 s'.e),.r (.int .i64 s'.c)]),(1,B4 q)] 2) No
theorem Pw {l:List TK0}{f:Nat}{s:WK}{q:List OP}:Az l (f+1) 14 s q=(if BX l s 1 E0=true then some (if (Bv l (AF s) 1 Bz).1=true then Bo l (Bo l (BC l (Bv l (AF s) 1 Bz).2 1 Ah) q (Ay 11)).2 (Bo l (BC l (Bv l (AF s) 1 Bz).2 1 Ah) q (Ay 11)).1 (Ay 5) else Bo l (BC l (Bv l (AF s) 1 Bz).2 1 Ah) q (Ay 11))
  else match Ct l s with
   |none=>some (q,s)
   |some m=>(match Az l f 4 (AF s) [] with
    |some (q2,s)=>some (if m.nt=true then Bo l (Bo l s (if m.sw=true then q2++q else q++q2) (Ay m.k)).2 (Bo l s (if m.sw=true then q2++q else q++q2) (Ay m.k)).1 (Ay 5) else Bo l s (if m.sw=true then q2++q else q++q2) (Ay m.k))
    |none=>none)):=by
 rw[Az,if_neg (by omega),if_pos rfl];rfl
theorem QM {l:List TK0}{p:Nat}{m:CM}{x:TK0}(hx:l[p]?=some x)(h:HM l p=some m):x.k=4∧x.s.toList=m.s.toList∧m ∈ KT:=by
 have h1:=List.find?_some h;have h2:=List.mem_of_find?_eq_some h;unfold AP at h1;rw[hx] at h1;simp only[Bool.and_eq_true,beq_iff_eq] at h1;exact⟨h1.1,h1.2,h2⟩
theorem MR {l:List TK0}{p:Nat}{x:TK0}(hx:l[p]?=some x)(hk:x.k=4)(h:HM l p=none): ∀m ∈ KT,(x.s.toList==m.s.toList)=false:=by
 intro m hm;have h1:=List.find?_eq_none.1 h m hm;unfold AP at h1;rw[hx] at h1;simpa[hk] using h1
set_option maxHeartbeats 16000000 in
theorem LP (G:List (Nat×List Value)){l:List TK0}(hl:l.length≤100)(s:WK)(q q':List OP)(s':WK)(hs:WkOk l s)(hq:q.length≤100)(ho:BX l s 1 E0=true)
  (h:(if (Bv l (AF s) 1 Bz).1=true then Bo l (Bo l (BC l (Bv l (AF s) 1 Bz).2 1 Ah) q (Ay 11)).2 (Bo l (BC l (Bv l (AF s) 1 Bz).2 1 Ah) q (Ay 11)).1 (Ay 5) else Bo l (BC l (Bv l (AF s) 1 Bz).2 1 Ah) q (Ay 11))=(q',s')):
  Con prog G 62 [.p 0 0 0,.s 1 0 q.length] (Aj l s++[(1,B4 q)]) 2 (Is (.s 2 0 q'.length) [(0,.box 48 [.ro true 3 (l.map eT),.r (.int .i64 s'.p),.r (.int .i64 s'.fl),.r (.int .i64 s'.e),.r (.int .i64 s'.c)]),(2,B4 q')] 3) No:=by
 have hp:=hs.p;have hlt:=(As ho).2;have e1:=B6 G l s 1 E0 hl (by omega) ho;simp only[E0,str] at e1;obtain⟨w1,_⟩:=Av hs hlt;have ea:eO (Ay 11)=[.r (.int .i64 11),.r (.int .i64 0),.r (.int .i64 0),.r (.string ⟨#[]⟩),.r (.string ⟨#[]⟩)]:=rfl;have eb:eO (Ay 5)=[.r (.int .i64 5),.r (.int .i64 0),.r (.int .i64 0),.r (.string ⟨#[]⟩),.r (.string ⟨#[]⟩)]:=rfl;cases hn:BX l (AF s) 1 Bz
 ·have e2:=AJ G l (AF s) 1 Bz hl (by have:=w1.p;omega) hn
  simp only[Bz,str] at e2
  have et:Bv l (AF s) 1 Bz=(false,AF s):=by rw[Bv,hn];rfl
  rw[et] at h;simp only[Bool.false_eq_true,if_false] at h;have e3:=B5 G l (AF s) 1 Ah hl (by have:=w1.p;omega);simp only[Ah,str] at e3;obtain⟨w2,_⟩:=HO w1 1 Ah;simp only[Ah,str] at w2 h;generalize hs2:BC l (AF s) 1 {data:=[78,85,76,76].toArray}=s2 at e3 w2 h;have o4:=C5 G l s2 q (Ay 11) hl (by have:=w2.p;omega) (fun h0=>by rw[←hs2] at h0 ⊢;have:=(EB h0).2;omega) (by omega) (by have:=w2.c;omega);rw[ea,h] at o4;unfold Aj B4 at *;simp only[List.cons_append,List.nil_append] at *;refine A8 func62 rfl (by kernel_rfl) (of_decide_eq_true (by kernel_rfl)) ?_;intro E hG hE;subst hG;simp only[Ai];(repeat' (first |refine A6 ?_ |refine A2 ?_ |refine A3 ?_ |refine A5 ?_ |((first |refine rR (fun K kp hK hkp=>?_) |refine rD (id:=9) AA 31 [0,1,2,3,4,5,6,7,8,9,10,11,12,13,14,15,16,17,18,19,20,21,22,23,24,25,26,27,28,29,30] (fun K kp hK hkp=>?_) |refine rD (id:=10) AA 12 [0,1,2,3,4,5,6,7,8,9,10,11] (fun K kp hK hkp=>?_) |refine oR [0] e1 ?_ |refine oR [0] e2 ?_ |refine oR [0] e3 ?_ |refine oR [0,1] o4 ?_ |refine iG ?_ |refine iD ?_);simp(implicitDefEqProofs:=false) (maxSteps:=2000000) (disch:=omega) only[go_sem];(repeat' (first |(refine hK _ ?_;clear hK hkp kp K) |(with_reducible refine And.intro ?_ ?_) |omega))) |((first |refine aG (fun h=>?_) (fun h=>?_) |refine aD (fun h=>?_) (fun h=>?_) |refine aX (fun h=>?_) (fun h=>?_))<;>simp only[h]) |refine A0 rfl ?_ |refine A1 rfl ?_ |((refine A4 rfl (fun h=>?_) (fun h=>?_)<;>try simp only[AK] at h)<;>(try (exfalso;omega))) |refine A7 ?_));(refine AB (by(simp(implicitDefEqProofs:=false) (maxSteps:=2000000) (disch:=omega) only[go_sem,results62]);rfl) ?_;refine(AC hE [0,1,2] rfl ?_ ?_).s<;>simp[AI,AH,lk,ren,renL,A9,AG])
 ·have e2:=B6 G l (AF s) 1 Bz hl (by have:=w1.p;omega) hn
  simp only[Bz,str] at e2;have hlt2:=(As hn).2
  have et:Bv l (AF s) 1 Bz=(true,AF (AF s)):=by rw[Bv,hn];rfl
  rw[et] at h;simp only[if_true] at h;obtain⟨w2,_⟩:=Av w1 hlt2;have e3:=B5 G l (AF (AF s)) 1 Ah hl (by have:=w2.p;omega);simp only[Ah,str] at e3;obtain⟨w3,_⟩:=HO w2 1 Ah;simp only[Ah,str] at w3 h;generalize hs3:BC l (AF (AF s)) 1 {data:=[78,85,76,76].toArray}=s3 at e3 w3 h
  have hp1:s3.e=0→1≤s3.p:=fun h0=>by rw[←hs3] at h0 ⊢;have:=(EB h0).2;omega
  have o4:=C5 G l s3 q (Ay 11) hl (by have:=w3.p;omega) hp1 (by omega) (by have:=w3.c;omega);obtain⟨w4,w4l⟩:=Ck w3 q (Ay 11);rw[ea] at o4;have o5:=C5 G l (Bo l s3 q (Ay 11)).2 (Bo l s3 q (Ay 11)).1 (Ay 5) hl (by have:=w4.p;omega) (fun h0=>by have:=Cb h0;have:=hp1 this.1;omega) (by have:=w4.c;omega) (by have:=w4.c;omega);rw[eb,h] at o5;generalize Bo l s3 q (Ay 11)=q4 at o4 o5 w4;unfold Aj B4 at *;simp only[List.cons_append,List.nil_append] at *;refine A8 func62 rfl (by kernel_rfl) (of_decide_eq_true (by kernel_rfl)) ?_;intro E hG hE;subst hG;simp only[Ai];(repeat' (first |refine A6 ?_ |refine A2 ?_ |refine A3 ?_ |refine A5 ?_ |((first |refine rR (fun K kp hK hkp=>?_) |refine rD (id:=9) AA 31 [0,1,2,3,4,5,6,7,8,9,10,11,12,13,14,15,16,17,18,19,20,21,22,23,24,25,26,27,28,29,30] (fun K kp hK hkp=>?_) |refine rD (id:=10) AA 12 [0,1,2,3,4,5,6,7,8,9,10,11] (fun K kp hK hkp=>?_) |refine oR [0] e1 ?_ |refine oR [0] e2 ?_ |refine oR [0] e3 ?_ |refine oR [0,1] o4 ?_ |refine oR [0,2] o5 ?_ |refine iG ?_ |refine iD ?_);simp(implicitDefEqProofs:=false) (maxSteps:=2000000) (disch:=omega) only[go_sem];(repeat' (first |(refine hK _ ?_;clear hK hkp kp K) |(with_reducible refine And.intro ?_ ?_) |omega))) |((first |refine aG (fun h=>?_) (fun h=>?_) |refine aD (fun h=>?_) (fun h=>?_) |refine aX (fun h=>?_) (fun h=>?_))<;>simp only[h]) |refine A0 rfl ?_ |refine A1 rfl ?_ |((refine A4 rfl (fun h=>?_) (fun h=>?_)<;>try simp only[AK] at h)<;>(try (exfalso;omega))) |refine A7 ?_));(refine AB (by(simp(implicitDefEqProofs:=false) (maxSteps:=2000000) (disch:=omega) only[go_sem,results62]);rfl) ?_;refine(AC hE [0,1,3] rfl ?_ ?_).s<;>simp[AI,AH,lk,ren,renL,A9,AG])
end Go.AM
namespace Go.AM
open Go Go.RowKit
open Go.Proofs.YtmgddlckgpfccaaDoor (OP Ac AY AR str)
attribute [local irreducible] AWP BS
theorem bL (x:Array UInt8):(⟨x⟩:ByteArray).toList=x.toList:=by rw[ByteArray.toList_eq]
def DY (l:List TK0)(j:Nat)(q:List OP)(s:WK):List (Nat×Nd):=[(0,.box 48 [.ro true 3 (l.map eT),.r (.int .i64 s.p),.r (.int .i64 s.fl),.r (.int .i64 s.e),.r (.int .i64 s.c)]),(j,B4 q)]
set_option maxHeartbeats 16000000 in
theorem LO (G:List (Nat×List Value)){l:List TK0}(hl:l.length≤100)(s:WK)(q:List OP)(hp:s.p≤l.length)(hq:q.length≤100)(ho:BX l s 1 E0=false)(hm:Ct l s=none):
  Con prog G 62 [.p 0 0 0,.s 1 0 q.length] (Aj l s++[(1,B4 q)]) 2 (Is (.s 2 0 q.length) (DY l 2 q s) 3) No:=by
 have e1:=AJ G l s 1 E0 hl (by omega) ho;simp only[E0,str] at e1
 have g0:((⟨#[]⟩:ByteArray).toList==(⟨#[61]⟩:ByteArray).toList)=false:=by rw[bL,bL];decide
 have g1:((⟨#[]⟩:ByteArray).toList==(⟨#[60,62]⟩:ByteArray).toList)=false:=by rw[bL,bL];decide
 have g2:((⟨#[]⟩:ByteArray).toList==(⟨#[60]⟩:ByteArray).toList)=false:=by rw[bL,bL];decide
 have g3:((⟨#[]⟩:ByteArray).toList==(⟨#[62]⟩:ByteArray).toList)=false:=by rw[bL,bL];decide
 have g4:((⟨#[]⟩:ByteArray).toList==(⟨#[60,61]⟩:ByteArray).toList)=false:=by rw[bL,bL];decide
 have g5:((⟨#[]⟩:ByteArray).toList==(⟨#[62,61]⟩:ByteArray).toList)=false:=by rw[bL,bL];decide
 by_cases h0:s.e=0
 rotate_left
 ·have d0:(s.e==0)=false:=by simpa using h0
  unfold DY Aj B4 at *;simp only[List.cons_append,List.nil_append];refine A8 func62 rfl (by kernel_rfl) (of_decide_eq_true (by kernel_rfl)) ?_;intro E hG hE;subst hG;simp only[Ai];(repeat' (first |refine A6 ?_ |refine A2 ?_ |refine A3 ?_ |refine A5 ?_ |((first |refine rR (fun K kp hK hkp=>?_) |refine rD (id:=9) AA 31 [0,1,2,3,4,5,6,7,8,9,10,11,12,13,14,15,16,17,18,19,20,21,22,23,24,25,26,27,28,29,30] (fun K kp hK hkp=>?_) |refine rD (id:=10) AA 12 [0,1,2,3,4,5,6,7,8,9,10,11] (fun K kp hK hkp=>?_) |refine oR [0] e1 ?_ |refine iG ?_ |refine iD ?_);simp(implicitDefEqProofs:=false) (maxSteps:=2000000) (disch:=omega) only[go_sem,d0,g0,g1,g2,g3,g4,g5];(repeat' (first |(refine hK _ ?_;clear hK hkp kp K) |(with_reducible refine And.intro ?_ ?_) |omega))) |((first |refine aG (fun h=>?_) (fun h=>?_) |refine aD (fun h=>?_) (fun h=>?_) |refine aX (fun h=>?_) (fun h=>?_))<;>simp only[h]) |refine A0 rfl ?_ |refine A1 rfl ?_ |((refine A4 rfl (fun h=>?_) (fun h=>?_)<;>try simp only[AK] at h)<;>(try (exfalso;omega))) |refine A7 ?_));(refine AB (by(simp(implicitDefEqProofs:=false) (maxSteps:=2000000) (disch:=omega) only[go_sem,results62]);rfl) ?_;refine(JT [0,1,1] ?_ ?_ ?_ ?_ ?_ ?_).s<;>simp[J2,AI,AH,lk,ren,renL,A9,AG,hE]<;>(try (intro i hi;first |(rcases i with _ |_ |i;rfl;rfl;(exfalso;omega)) |(rcases i with _ |_ |_ |i;rfl;rfl;rfl;(exfalso;omega)) |(rcases i with _ |_ |_ |_ |i;rfl;rfl;rfl;rfl;(exfalso;omega)) |(rcases i with _ |_ |_ |_ |_ |i;rfl;rfl;rfl;rfl;rfl;(exfalso;omega)) |(rcases i with _ |_ |_ |_ |_ |_ |i;rfl;rfl;rfl;rfl;rfl;rfl;(exfalso;omega)))))
 have d0:(s.e==0)=true:=by simpa using h0
 cases hx:l[s.p]? with
 |none=>
  have hlt:=List.getElem?_eq_none_iff.1 hx;have d1:decide ((s.p:Int)<(l.length:Int))=false:=decide_eq_false (by omega);unfold DY Aj B4 at *;simp only[List.cons_append,List.nil_append];refine A8 func62 rfl (by kernel_rfl) (of_decide_eq_true (by kernel_rfl)) ?_;intro E hG hE;subst hG;simp only[Ai];(repeat' (first |refine A6 ?_ |refine A2 ?_ |refine A3 ?_ |refine A5 ?_ |((first |refine rR (fun K kp hK hkp=>?_) |refine rD (id:=9) AA 31 [0,1,2,3,4,5,6,7,8,9,10,11,12,13,14,15,16,17,18,19,20,21,22,23,24,25,26,27,28,29,30] (fun K kp hK hkp=>?_) |refine rD (id:=10) AA 12 [0,1,2,3,4,5,6,7,8,9,10,11] (fun K kp hK hkp=>?_) |refine oR [0] e1 ?_ |refine iG ?_ |refine iD ?_);simp(implicitDefEqProofs:=false) (maxSteps:=2000000) (disch:=omega) only[go_sem,d0,d1,g0,g1,g2,g3,g4,g5];(repeat' (first |(refine hK _ ?_;clear hK hkp kp K) |(with_reducible refine And.intro ?_ ?_) |omega))) |((first |refine aG (fun h=>?_) (fun h=>?_) |refine aD (fun h=>?_) (fun h=>?_) |refine aX (fun h=>?_) (fun h=>?_))<;>simp only[h]) |refine A0 rfl ?_ |refine A1 rfl ?_ |((refine A4 rfl (fun h=>?_) (fun h=>?_)<;>try simp only[AK] at h)<;>(try (exfalso;omega))) |refine A7 ?_));(refine AB (by(simp(implicitDefEqProofs:=false) (maxSteps:=2000000) (disch:=omega) only[go_sem,results62]);rfl) ?_;refine(JT [0,1,1] ?_ ?_ ?_ ?_ ?_ ?_).s<;>simp[J2,AI,AH,lk,ren,renL,A9,AG,hE]<;>(try (intro i hi;first |(rcases i with _ |_ |i;rfl;rfl;(exfalso;omega)) |(rcases i with _ |_ |_ |i;rfl;rfl;rfl;(exfalso;omega)) |(rcases i with _ |_ |_ |_ |i;rfl;rfl;rfl;rfl;(exfalso;omega)) |(rcases i with _ |_ |_ |_ |_ |i;rfl;rfl;rfl;rfl;rfl;(exfalso;omega)) |(rcases i with _ |_ |_ |_ |_ |_ |i;rfl;rfl;rfl;rfl;rfl;rfl;(exfalso;omega)))))
 |some x=>
  have hlt:=(List.getElem?_eq_some_iff.1 hx).1;have d1:decide ((s.p:Int)<(l.length:Int))=true:=decide_eq_true (by omega);cases d2:(x.k==4)
  ·unfold DY Aj B4 at *
   simp only[List.cons_append,List.nil_append];refine A8 func62 rfl (by kernel_rfl) (of_decide_eq_true (by kernel_rfl)) ?_;intro E hG hE;subst hG;simp only[Ai];(repeat' (first |refine A6 ?_ |refine A2 ?_ |refine A3 ?_ |refine A5 ?_ |((first |refine rR (fun K kp hK hkp=>?_) |refine rD (id:=9) AA 31 [0,1,2,3,4,5,6,7,8,9,10,11,12,13,14,15,16,17,18,19,20,21,22,23,24,25,26,27,28,29,30] (fun K kp hK hkp=>?_) |refine rD (id:=10) AA 12 [0,1,2,3,4,5,6,7,8,9,10,11] (fun K kp hK hkp=>?_) |refine oR [0] e1 ?_ |refine iG ?_ |refine iD ?_);simp(implicitDefEqProofs:=false) (maxSteps:=2000000) (disch:=omega) only[go_sem,d0,d1,hx,eT,d2,g0,g1,g2,g3,g4,g5];(repeat' (first |(refine hK _ ?_;clear hK hkp kp K) |(with_reducible refine And.intro ?_ ?_) |omega))) |((first |refine aG (fun h=>?_) (fun h=>?_) |refine aD (fun h=>?_) (fun h=>?_) |refine aX (fun h=>?_) (fun h=>?_))<;>simp only[h]) |refine A0 rfl ?_ |refine A1 rfl ?_ |((refine A4 rfl (fun h=>?_) (fun h=>?_)<;>try simp only[AK] at h)<;>(try (exfalso;omega))) |refine A7 ?_));(refine AB (by(simp(implicitDefEqProofs:=false) (maxSteps:=2000000) (disch:=omega) only[go_sem,results62]);rfl) ?_;refine(JT [0,1,1] ?_ ?_ ?_ ?_ ?_ ?_).s<;>simp[J2,AI,AH,lk,ren,renL,A9,AG,hE]<;>(try (intro i hi;first |(rcases i with _ |_ |i;rfl;rfl;(exfalso;omega)) |(rcases i with _ |_ |_ |i;rfl;rfl;rfl;(exfalso;omega)) |(rcases i with _ |_ |_ |_ |i;rfl;rfl;rfl;rfl;(exfalso;omega)) |(rcases i with _ |_ |_ |_ |_ |i;rfl;rfl;rfl;rfl;rfl;(exfalso;omega)) |(rcases i with _ |_ |_ |_ |_ |_ |i;rfl;rfl;rfl;rfl;rfl;rfl;(exfalso;omega)))))
  ·rw[Ct,if_pos h0] at hm
   have hn:=MR hx (by simpa using d2) hm;have c0:(x.s.toList==(⟨#[61]⟩:ByteArray).toList)=false:=hn ⟨JQ,6,false,false⟩ (by simp[KT]);have c1:(x.s.toList==(⟨#[60,62]⟩:ByteArray).toList)=false:=hn ⟨U5,6,false,true⟩ (by simp[KT]);have c2:(x.s.toList==(⟨#[60]⟩:ByteArray).toList)=false:=hn ⟨U7,7,false,false⟩ (by simp[KT]);have c3:(x.s.toList==(⟨#[62]⟩:ByteArray).toList)=false:=hn ⟨UG,7,true,false⟩ (by simp[KT]);have c4:(x.s.toList==(⟨#[60,61]⟩:ByteArray).toList)=false:=hn ⟨UA,7,true,true⟩ (by simp[KT]);have c5:(x.s.toList==(⟨#[62,61]⟩:ByteArray).toList)=false:=hn ⟨UQ,7,false,true⟩ (by simp[KT]);unfold DY Aj B4 at *;simp only[List.cons_append,List.nil_append];refine A8 func62 rfl (by kernel_rfl) (of_decide_eq_true (by kernel_rfl)) ?_;intro E hG hE;subst hG;simp only[Ai];(repeat' (first |refine A6 ?_ |refine A2 ?_ |refine A3 ?_ |refine A5 ?_ |((first |refine rR (fun K kp hK hkp=>?_) |refine rD (id:=9) AA 31 [0,1,2,3,4,5,6,7,8,9,10,11,12,13,14,15,16,17,18,19,20,21,22,23,24,25,26,27,28,29,30] (fun K kp hK hkp=>?_) |refine rD (id:=10) AA 12 [0,1,2,3,4,5,6,7,8,9,10,11] (fun K kp hK hkp=>?_) |refine oR [0] e1 ?_ |refine iG ?_ |refine iD ?_);simp(implicitDefEqProofs:=false) (maxSteps:=2000000) (disch:=omega) only[go_sem,d0,d1,hx,eT,d2,c0,c1,c2,c3,c4,c5];(repeat' (first |(refine hK _ ?_;clear hK hkp kp K) |(with_reducible refine And.intro ?_ ?_) |omega))) |((first |refine aG (fun h=>?_) (fun h=>?_) |refine aD (fun h=>?_) (fun h=>?_) |refine aX (fun h=>?_) (fun h=>?_))<;>simp only[h]) |refine A0 rfl ?_ |refine A1 rfl ?_ |((refine A4 rfl (fun h=>?_) (fun h=>?_)<;>try simp only[AK] at h)<;>(try (exfalso;omega))) |refine A7 ?_));(refine AB (by(simp(implicitDefEqProofs:=false) (maxSteps:=2000000) (disch:=omega) only[go_sem,results62]);rfl) ?_;refine(JT [0,1,1] ?_ ?_ ?_ ?_ ?_ ?_).s<;>simp[J2,AI,AH,lk,ren,renL,A9,AG,hE]<;>(try (intro i hi;first |(rcases i with _ |_ |i;rfl;rfl;(exfalso;omega)) |(rcases i with _ |_ |_ |i;rfl;rfl;rfl;(exfalso;omega)) |(rcases i with _ |_ |_ |_ |i;rfl;rfl;rfl;rfl;(exfalso;omega)) |(rcases i with _ |_ |_ |_ |_ |i;rfl;rfl;rfl;rfl;rfl;(exfalso;omega)) |(rcases i with _ |_ |_ |_ |_ |_ |i;rfl;rfl;rfl;rfl;rfl;rfl;(exfalso;omega)))))
set_option maxHeartbeats 16000000 in
theorem KJ (G:List (Nat×List Value)){l:List TK0}(hl:l.length≤100){f:Nat}(hL:F9 G l f 4)(s:WK)(q q2 q':List OP)(s2 s':WK)(hs:WkOk l s)(hq:q.length≤41)(ho:BX l s 1 E0=false){x:TK0}(hx:l[s.p]?=some x)(h0:s.e=0)(hk:x.k=4)(hxs:x.s.toList=(⟨#[61]⟩:ByteArray).toList)(h4:Az l f 4 (AF s) []=some (q2,s2))
  (h:Bo l s2 (q++q2) (Ay 6)=(q',s')):
  Con prog G 62 [.p 0 0 0,.s 1 0 q.length] (Aj l s++[(1,B4 q)]) 2 (Is (.s 2 0 q'.length) (DY l 2 q' s') 3) No:=by
 have hp:=hs.p;have e1:=AJ G l s 1 E0 hl (by omega) ho;simp only[E0,str] at e1;have hlt:=(List.getElem?_eq_some_iff.1 hx).1;obtain⟨w1,w1c⟩:=Av hs hlt;obtain⟨w2,w2c,w2q⟩:=Be l f 4 (AF s) [] q2 s2 h4 (by omega) w1;have w2a:=fun h1=>(CH l f 4 (AF s) [] q2 s2 h4 (by omega) w1 h1).2.1 (by omega);have hc2:=w2.c;have hp2:=w2.p;simp only[if_pos (show 4<7 by omega)] at w2q;have lv:=hL (AF s) q2 s2 h4 w1
 have d0:(s.e==0)=true:=by simpa using h0
 have d1:decide ((s.p:Int)<(l.length:Int))=true:=decide_eq_true (by omega)
 have d2:(x.k==4)=true:=by simpa using hk
 have c0:(x.s.toList==(⟨#[61]⟩:ByteArray).toList)=true:=by rw[hxs,bL];decide
 have c1:(x.s.toList==(⟨#[60,62]⟩:ByteArray).toList)=false:=by rw[hxs,bL,bL];decide
 have c2:(x.s.toList==(⟨#[60]⟩:ByteArray).toList)=false:=by rw[hxs,bL,bL];decide
 have c3:(x.s.toList==(⟨#[62]⟩:ByteArray).toList)=false:=by rw[hxs,bL,bL];decide
 have c4:(x.s.toList==(⟨#[60,61]⟩:ByteArray).toList)=false:=by rw[hxs,bL,bL];decide
 have c5:(x.s.toList==(⟨#[62,61]⟩:ByteArray).toList)=false:=by rw[hxs,bL,bL];decide
 have jn:=Bn G false false q q2 (by omega) (by omega);have ea:eO (Ay 6)=[.r (.int .i64 6),.r (.int .i64 0),.r (.int .i64 0),.r (.string ⟨#[]⟩),.r (.string ⟨#[]⟩)]:=rfl
 have hj:(q++q2).length≤200:=by rw[List.length_append];omega
 have o4:=C5 G l s2 (q++q2) (Ay 6) hl (by omega) (fun h1=>by have:=w2a h1;omega) (by omega) (by omega);obtain⟨w4,w4c,w4l⟩:=Ck w2 (q++q2) (Ay 6);rw[ea] at o4;rw[h] at o4;obtain⟨a1,ha1⟩: ∃a1,a1=s.p+1:=⟨_,rfl⟩
 have z1:(s.p:Int)+1=(a1:Int):=by omega
 have est:AF s={s with p:=a1}:=by rw[AF,ha1]
 rw[est] at lv;generalize q++q2=jq at jn o4;unfold DY Aj B4 at *;simp only[List.cons_append,List.nil_append] at o4 ⊢;refine A8 func62 rfl (by kernel_rfl) (of_decide_eq_true (by kernel_rfl)) ?_;intro E hG hE;subst hG;simp only[Ai];(repeat' (first |refine A6 ?_ |refine A2 ?_ |refine A3 ?_ |refine A5 ?_ |((first |refine rR (fun K kp hK hkp=>?_) |refine rD (id:=9) AA 31 [0,1,2,3,4,5,6,7,8,9,10,11,12,13,14,15,16,17,18,19,20,21,22,23,24,25,26,27,28,29,30] (fun K kp hK hkp=>?_) |refine rD (id:=10) AA 12 [0,1,2,3,4,5,6,7,8,9,10,11] (fun K kp hK hkp=>?_) |refine oR [0] e1 ?_ |refine oR [0] lv ?_ |refine oR [0,3] o4 ?_ |refine cR jn ?_ |refine cD jn ?_ |refine cU jn ?_ |refine iG ?_ |refine iD ?_);simp(implicitDefEqProofs:=false) (maxSteps:=2000000) (disch:=omega) only[go_sem,d0,d1,hx,eT,d2,z1,c0,c1,c2,c3,c4,c5];(repeat' (first |(refine hK _ ?_;clear hK hkp kp K) |(with_reducible refine And.intro ?_ ?_) |omega))) |((first |refine aG (fun h=>?_) (fun h=>?_) |refine aD (fun h=>?_) (fun h=>?_) |refine aX (fun h=>?_) (fun h=>?_))<;>simp only[h]) |refine A0 rfl ?_ |refine A1 rfl ?_ |((refine A4 rfl (fun h=>?_) (fun h=>?_)<;>try simp only[AK] at h)<;>(try (exfalso;omega))) |refine A7 ?_));(refine AB (by(simp(implicitDefEqProofs:=false) (maxSteps:=2000000) (disch:=omega) only[go_sem,results62]);rfl) ?_;refine(AC hE [0,1,4] rfl ?_ ?_).s<;>simp[AI,AH,lk,ren,renL,A9,AG])
set_option maxHeartbeats 16000000 in
theorem KE (G:List (Nat×List Value)){l:List TK0}(hl:l.length≤100){f:Nat}(hL:F9 G l f 4)(s:WK)(q q2 q':List OP)(s2 s':WK)(hs:WkOk l s)(hq:q.length≤41)(ho:BX l s 1 E0=false){x:TK0}(hx:l[s.p]?=some x)(h0:s.e=0)(hk:x.k=4)(hxs:x.s.toList=(⟨#[60,62]⟩:ByteArray).toList)(h4:Az l f 4 (AF s) []=some (q2,s2))
  (h:Bo l (Bo l s2 (q++q2) (Ay 6)).2 (Bo l s2 (q++q2) (Ay 6)).1 (Ay 5)=(q',s')):
  Con prog G 62 [.p 0 0 0,.s 1 0 q.length] (Aj l s++[(1,B4 q)]) 2 (Is (.s 2 0 q'.length) (DY l 2 q' s') 3) No:=by
 have hp:=hs.p;have e1:=AJ G l s 1 E0 hl (by omega) ho;simp only[E0,str] at e1;have hlt:=(List.getElem?_eq_some_iff.1 hx).1;obtain⟨w1,w1c⟩:=Av hs hlt;obtain⟨w2,w2c,w2q⟩:=Be l f 4 (AF s) [] q2 s2 h4 (by omega) w1;have w2a:=fun h1=>(CH l f 4 (AF s) [] q2 s2 h4 (by omega) w1 h1).2.1 (by omega);have hc2:=w2.c;have hp2:=w2.p;simp only[if_pos (show 4<7 by omega)] at w2q;have lv:=hL (AF s) q2 s2 h4 w1
 have d0:(s.e==0)=true:=by simpa using h0
 have d1:decide ((s.p:Int)<(l.length:Int))=true:=decide_eq_true (by omega)
 have d2:(x.k==4)=true:=by simpa using hk
 have c0:(x.s.toList==(⟨#[61]⟩:ByteArray).toList)=false:=by rw[hxs,bL,bL];decide
 have c1:(x.s.toList==(⟨#[60,62]⟩:ByteArray).toList)=true:=by rw[hxs,bL];decide
 have c2:(x.s.toList==(⟨#[60]⟩:ByteArray).toList)=false:=by rw[hxs,bL,bL];decide
 have c3:(x.s.toList==(⟨#[62]⟩:ByteArray).toList)=false:=by rw[hxs,bL,bL];decide
 have c4:(x.s.toList==(⟨#[60,61]⟩:ByteArray).toList)=false:=by rw[hxs,bL,bL];decide
 have c5:(x.s.toList==(⟨#[62,61]⟩:ByteArray).toList)=false:=by rw[hxs,bL,bL];decide
 have jn:=Bn G false false q q2 (by omega) (by omega);have ea:eO (Ay 6)=[.r (.int .i64 6),.r (.int .i64 0),.r (.int .i64 0),.r (.string ⟨#[]⟩),.r (.string ⟨#[]⟩)]:=rfl
 have hj:(q++q2).length≤200:=by rw[List.length_append];omega
 have o4:=C5 G l s2 (q++q2) (Ay 6) hl (by omega) (fun h1=>by have:=w2a h1;omega) (by omega) (by omega);obtain⟨w4,w4c,w4l⟩:=Ck w2 (q++q2) (Ay 6);rw[ea] at o4;have eb:eO (Ay 5)=[.r (.int .i64 5),.r (.int .i64 0),.r (.int .i64 0),.r (.string ⟨#[]⟩),.r (.string ⟨#[]⟩)]:=rfl;have hc4:=w4.c;have hp4:=w4.p;have o5:=C5 G l (Bo l s2 (q++q2) (Ay 6)).2 (Bo l s2 (q++q2) (Ay 6)).1 (Ay 5) hl (by omega) (fun h1=>by have h2:=Cb h1;have:=w2a h2.1;omega) (by omega) (by omega);rw[eb,h] at o5;generalize Bo l s2 (q++q2) (Ay 6)=q4 at o4 o5;obtain⟨a1,ha1⟩: ∃a1,a1=s.p+1:=⟨_,rfl⟩
 have z1:(s.p:Int)+1=(a1:Int):=by omega
 have est:AF s={s with p:=a1}:=by rw[AF,ha1]
 rw[est] at lv;generalize q++q2=jq at jn o4;unfold DY Aj B4 at *;simp only[List.cons_append,List.nil_append] at o4 o5 ⊢;refine A8 func62 rfl (by kernel_rfl) (of_decide_eq_true (by kernel_rfl)) ?_;intro E hG hE;subst hG;simp only[Ai];(repeat' (first |refine A6 ?_ |refine A2 ?_ |refine A3 ?_ |refine A5 ?_ |((first |refine rR (fun K kp hK hkp=>?_) |refine rD (id:=9) AA 31 [0,1,2,3,4,5,6,7,8,9,10,11,12,13,14,15,16,17,18,19,20,21,22,23,24,25,26,27,28,29,30] (fun K kp hK hkp=>?_) |refine rD (id:=10) AA 12 [0,1,2,3,4,5,6,7,8,9,10,11] (fun K kp hK hkp=>?_) |refine oR [0] e1 ?_ |refine oR [0] lv ?_ |refine oR [0,3] o4 ?_ |refine oR [0,4] o5 ?_ |refine cR jn ?_ |refine cD jn ?_ |refine cU jn ?_ |refine iG ?_ |refine iD ?_);simp(implicitDefEqProofs:=false) (maxSteps:=2000000) (disch:=omega) only[go_sem,d0,d1,hx,eT,d2,z1,c0,c1,c2,c3,c4,c5];(repeat' (first |(refine hK _ ?_;clear hK hkp kp K) |(with_reducible refine And.intro ?_ ?_) |omega))) |((first |refine aG (fun h=>?_) (fun h=>?_) |refine aD (fun h=>?_) (fun h=>?_) |refine aX (fun h=>?_) (fun h=>?_))<;>simp only[h]) |refine A0 rfl ?_ |refine A1 rfl ?_ |((refine A4 rfl (fun h=>?_) (fun h=>?_)<;>try simp only[AK] at h)<;>(try (exfalso;omega))) |refine A7 ?_));(refine AB (by(simp(implicitDefEqProofs:=false) (maxSteps:=2000000) (disch:=omega) only[go_sem,results62]);rfl) ?_;refine(AC hE [0,1,5] rfl ?_ ?_).s<;>simp[AI,AH,lk,ren,renL,A9,AG])
set_option maxHeartbeats 16000000 in
theorem KF (G:List (Nat×List Value)){l:List TK0}(hl:l.length≤100){f:Nat}(hL:F9 G l f 4)(s:WK)(q q2 q':List OP)(s2 s':WK)(hs:WkOk l s)(hq:q.length≤41)(ho:BX l s 1 E0=false){x:TK0}(hx:l[s.p]?=some x)(h0:s.e=0)(hk:x.k=4)(hxs:x.s.toList=(⟨#[60]⟩:ByteArray).toList)(h4:Az l f 4 (AF s) []=some (q2,s2))
  (h:Bo l s2 (q++q2) (Ay 7)=(q',s')):
  Con prog G 62 [.p 0 0 0,.s 1 0 q.length] (Aj l s++[(1,B4 q)]) 2 (Is (.s 2 0 q'.length) (DY l 2 q' s') 3) No:=by
 have hp:=hs.p;have e1:=AJ G l s 1 E0 hl (by omega) ho;simp only[E0,str] at e1;have hlt:=(List.getElem?_eq_some_iff.1 hx).1;obtain⟨w1,w1c⟩:=Av hs hlt;obtain⟨w2,w2c,w2q⟩:=Be l f 4 (AF s) [] q2 s2 h4 (by omega) w1;have w2a:=fun h1=>(CH l f 4 (AF s) [] q2 s2 h4 (by omega) w1 h1).2.1 (by omega);have hc2:=w2.c;have hp2:=w2.p;simp only[if_pos (show 4<7 by omega)] at w2q;have lv:=hL (AF s) q2 s2 h4 w1
 have d0:(s.e==0)=true:=by simpa using h0
 have d1:decide ((s.p:Int)<(l.length:Int))=true:=decide_eq_true (by omega)
 have d2:(x.k==4)=true:=by simpa using hk
 have c0:(x.s.toList==(⟨#[61]⟩:ByteArray).toList)=false:=by rw[hxs,bL,bL];decide
 have c1:(x.s.toList==(⟨#[60,62]⟩:ByteArray).toList)=false:=by rw[hxs,bL,bL];decide
 have c2:(x.s.toList==(⟨#[60]⟩:ByteArray).toList)=true:=by rw[hxs,bL];decide
 have c3:(x.s.toList==(⟨#[62]⟩:ByteArray).toList)=false:=by rw[hxs,bL,bL];decide
 have c4:(x.s.toList==(⟨#[60,61]⟩:ByteArray).toList)=false:=by rw[hxs,bL,bL];decide
 have c5:(x.s.toList==(⟨#[62,61]⟩:ByteArray).toList)=false:=by rw[hxs,bL,bL];decide
 have jn:=Bn G false false q q2 (by omega) (by omega);have ea:eO (Ay 7)=[.r (.int .i64 7),.r (.int .i64 0),.r (.int .i64 0),.r (.string ⟨#[]⟩),.r (.string ⟨#[]⟩)]:=rfl
 have hj:(q++q2).length≤200:=by rw[List.length_append];omega
 have o4:=C5 G l s2 (q++q2) (Ay 7) hl (by omega) (fun h1=>by have:=w2a h1;omega) (by omega) (by omega);obtain⟨w4,w4c,w4l⟩:=Ck w2 (q++q2) (Ay 7);rw[ea] at o4;rw[h] at o4;obtain⟨a1,ha1⟩: ∃a1,a1=s.p+1:=⟨_,rfl⟩
 have z1:(s.p:Int)+1=(a1:Int):=by omega
 have est:AF s={s with p:=a1}:=by rw[AF,ha1]
 rw[est] at lv;generalize q++q2=jq at jn o4;unfold DY Aj B4 at *;simp only[List.cons_append,List.nil_append] at o4 ⊢;refine A8 func62 rfl (by kernel_rfl) (of_decide_eq_true (by kernel_rfl)) ?_;intro E hG hE;subst hG;simp only[Ai];(repeat' (first |refine A6 ?_ |refine A2 ?_ |refine A3 ?_ |refine A5 ?_ |((first |refine rR (fun K kp hK hkp=>?_) |refine rD (id:=9) AA 31 [0,1,2,3,4,5,6,7,8,9,10,11,12,13,14,15,16,17,18,19,20,21,22,23,24,25,26,27,28,29,30] (fun K kp hK hkp=>?_) |refine rD (id:=10) AA 12 [0,1,2,3,4,5,6,7,8,9,10,11] (fun K kp hK hkp=>?_) |refine oR [0] e1 ?_ |refine oR [0] lv ?_ |refine oR [0,3] o4 ?_ |refine cR jn ?_ |refine cD jn ?_ |refine cU jn ?_ |refine iG ?_ |refine iD ?_);simp(implicitDefEqProofs:=false) (maxSteps:=2000000) (disch:=omega) only[go_sem,d0,d1,hx,eT,d2,z1,c0,c1,c2,c3,c4,c5];(repeat' (first |(refine hK _ ?_;clear hK hkp kp K) |(with_reducible refine And.intro ?_ ?_) |omega))) |((first |refine aG (fun h=>?_) (fun h=>?_) |refine aD (fun h=>?_) (fun h=>?_) |refine aX (fun h=>?_) (fun h=>?_))<;>simp only[h]) |refine A0 rfl ?_ |refine A1 rfl ?_ |((refine A4 rfl (fun h=>?_) (fun h=>?_)<;>try simp only[AK] at h)<;>(try (exfalso;omega))) |refine A7 ?_));(refine AB (by(simp(implicitDefEqProofs:=false) (maxSteps:=2000000) (disch:=omega) only[go_sem,results62]);rfl) ?_;refine(AC hE [0,1,4] rfl ?_ ?_).s<;>simp[AI,AH,lk,ren,renL,A9,AG])
set_option maxHeartbeats 16000000 in
theorem KH (G:List (Nat×List Value)){l:List TK0}(hl:l.length≤100){f:Nat}(hL:F9 G l f 4)(s:WK)(q q2 q':List OP)(s2 s':WK)(hs:WkOk l s)(hq:q.length≤41)(ho:BX l s 1 E0=false){x:TK0}(hx:l[s.p]?=some x)(h0:s.e=0)(hk:x.k=4)(hxs:x.s.toList=(⟨#[62]⟩:ByteArray).toList)(h4:Az l f 4 (AF s) []=some (q2,s2))
  (h:Bo l s2 (q2++q) (Ay 7)=(q',s')):
  Con prog G 62 [.p 0 0 0,.s 1 0 q.length] (Aj l s++[(1,B4 q)]) 2 (Is (.s 2 0 q'.length) (DY l 2 q' s') 3) No:=by
 have hp:=hs.p;have e1:=AJ G l s 1 E0 hl (by omega) ho;simp only[E0,str] at e1;have hlt:=(List.getElem?_eq_some_iff.1 hx).1;obtain⟨w1,w1c⟩:=Av hs hlt;obtain⟨w2,w2c,w2q⟩:=Be l f 4 (AF s) [] q2 s2 h4 (by omega) w1;have w2a:=fun h1=>(CH l f 4 (AF s) [] q2 s2 h4 (by omega) w1 h1).2.1 (by omega);have hc2:=w2.c;have hp2:=w2.p;simp only[if_pos (show 4<7 by omega)] at w2q;have lv:=hL (AF s) q2 s2 h4 w1
 have d0:(s.e==0)=true:=by simpa using h0
 have d1:decide ((s.p:Int)<(l.length:Int))=true:=decide_eq_true (by omega)
 have d2:(x.k==4)=true:=by simpa using hk
 have c0:(x.s.toList==(⟨#[61]⟩:ByteArray).toList)=false:=by rw[hxs,bL,bL];decide
 have c1:(x.s.toList==(⟨#[60,62]⟩:ByteArray).toList)=false:=by rw[hxs,bL,bL];decide
 have c2:(x.s.toList==(⟨#[60]⟩:ByteArray).toList)=false:=by rw[hxs,bL,bL];decide
 have c3:(x.s.toList==(⟨#[62]⟩:ByteArray).toList)=true:=by rw[hxs,bL];decide
 have c4:(x.s.toList==(⟨#[60,61]⟩:ByteArray).toList)=false:=by rw[hxs,bL,bL];decide
 have c5:(x.s.toList==(⟨#[62,61]⟩:ByteArray).toList)=false:=by rw[hxs,bL,bL];decide
 have jn:=Bn G false false q2 q (by omega) (by omega);have ea:eO (Ay 7)=[.r (.int .i64 7),.r (.int .i64 0),.r (.int .i64 0),.r (.string ⟨#[]⟩),.r (.string ⟨#[]⟩)]:=rfl
 have hj:(q2++q).length≤200:=by rw[List.length_append];omega
 have o4:=C5 G l s2 (q2++q) (Ay 7) hl (by omega) (fun h1=>by have:=w2a h1;omega) (by omega) (by omega);obtain⟨w4,w4c,w4l⟩:=Ck w2 (q2++q) (Ay 7);rw[ea] at o4;rw[h] at o4;obtain⟨a1,ha1⟩: ∃a1,a1=s.p+1:=⟨_,rfl⟩
 have z1:(s.p:Int)+1=(a1:Int):=by omega
 have est:AF s={s with p:=a1}:=by rw[AF,ha1]
 rw[est] at lv;generalize q2++q=jq at jn o4;unfold DY Aj B4 at *;simp only[List.cons_append,List.nil_append] at o4 ⊢;refine A8 func62 rfl (by kernel_rfl) (of_decide_eq_true (by kernel_rfl)) ?_;intro E hG hE;subst hG;simp only[Ai];(repeat' (first |refine A6 ?_ |refine A2 ?_ |refine A3 ?_ |refine A5 ?_ |((first |refine rR (fun K kp hK hkp=>?_) |refine rD (id:=9) AA 31 [0,1,2,3,4,5,6,7,8,9,10,11,12,13,14,15,16,17,18,19,20,21,22,23,24,25,26,27,28,29,30] (fun K kp hK hkp=>?_) |refine rD (id:=10) AA 12 [0,1,2,3,4,5,6,7,8,9,10,11] (fun K kp hK hkp=>?_) |refine oR [0] e1 ?_ |refine oR [0] lv ?_ |refine oR [0,3] o4 ?_ |refine cR jn ?_ |refine cD jn ?_ |refine cU jn ?_ |refine iG ?_ |refine iD ?_);simp(implicitDefEqProofs:=false) (maxSteps:=2000000) (disch:=omega) only[go_sem,d0,d1,hx,eT,d2,z1,c0,c1,c2,c3,c4,c5];(repeat' (first |(refine hK _ ?_;clear hK hkp kp K) |(with_reducible refine And.intro ?_ ?_) |omega))) |((first |refine aG (fun h=>?_) (fun h=>?_) |refine aD (fun h=>?_) (fun h=>?_) |refine aX (fun h=>?_) (fun h=>?_))<;>simp only[h]) |refine A0 rfl ?_ |refine A1 rfl ?_ |((refine A4 rfl (fun h=>?_) (fun h=>?_)<;>try simp only[AK] at h)<;>(try (exfalso;omega))) |refine A7 ?_));(refine AB (by(simp(implicitDefEqProofs:=false) (maxSteps:=2000000) (disch:=omega) only[go_sem,results62]);rfl) ?_;refine(AC hE [0,1,4] rfl ?_ ?_).s<;>simp[AI,AH,lk,ren,renL,A9,AG])
set_option maxHeartbeats 16000000 in
theorem KI (G:List (Nat×List Value)){l:List TK0}(hl:l.length≤100){f:Nat}(hL:F9 G l f 4)(s:WK)(q q2 q':List OP)(s2 s':WK)(hs:WkOk l s)(hq:q.length≤41)(ho:BX l s 1 E0=false){x:TK0}(hx:l[s.p]?=some x)(h0:s.e=0)(hk:x.k=4)(hxs:x.s.toList=(⟨#[62,61]⟩:ByteArray).toList)(h4:Az l f 4 (AF s) []=some (q2,s2))
  (h:Bo l (Bo l s2 (q++q2) (Ay 7)).2 (Bo l s2 (q++q2) (Ay 7)).1 (Ay 5)=(q',s')):
  Con prog G 62 [.p 0 0 0,.s 1 0 q.length] (Aj l s++[(1,B4 q)]) 2 (Is (.s 2 0 q'.length) (DY l 2 q' s') 3) No:=by
 have hp:=hs.p;have e1:=AJ G l s 1 E0 hl (by omega) ho;simp only[E0,str] at e1;have hlt:=(List.getElem?_eq_some_iff.1 hx).1;obtain⟨w1,w1c⟩:=Av hs hlt;obtain⟨w2,w2c,w2q⟩:=Be l f 4 (AF s) [] q2 s2 h4 (by omega) w1;have w2a:=fun h1=>(CH l f 4 (AF s) [] q2 s2 h4 (by omega) w1 h1).2.1 (by omega);have hc2:=w2.c;have hp2:=w2.p;simp only[if_pos (show 4<7 by omega)] at w2q;have lv:=hL (AF s) q2 s2 h4 w1
 have d0:(s.e==0)=true:=by simpa using h0
 have d1:decide ((s.p:Int)<(l.length:Int))=true:=decide_eq_true (by omega)
 have d2:(x.k==4)=true:=by simpa using hk
 have c0:(x.s.toList==(⟨#[61]⟩:ByteArray).toList)=false:=by rw[hxs,bL,bL];decide
 have c1:(x.s.toList==(⟨#[60,62]⟩:ByteArray).toList)=false:=by rw[hxs,bL,bL];decide
 have c2:(x.s.toList==(⟨#[60]⟩:ByteArray).toList)=false:=by rw[hxs,bL,bL];decide
 have c3:(x.s.toList==(⟨#[62]⟩:ByteArray).toList)=false:=by rw[hxs,bL,bL];decide
 have c4:(x.s.toList==(⟨#[60,61]⟩:ByteArray).toList)=false:=by rw[hxs,bL,bL];decide
 have c5:(x.s.toList==(⟨#[62,61]⟩:ByteArray).toList)=true:=by rw[hxs,bL];decide
 have jn:=Bn G false false q q2 (by omega) (by omega);have ea:eO (Ay 7)=[.r (.int .i64 7),.r (.int .i64 0),.r (.int .i64 0),.r (.string ⟨#[]⟩),.r (.string ⟨#[]⟩)]:=rfl
 have hj:(q++q2).length≤200:=by rw[List.length_append];omega
 have o4:=C5 G l s2 (q++q2) (Ay 7) hl (by omega) (fun h1=>by have:=w2a h1;omega) (by omega) (by omega);obtain⟨w4,w4c,w4l⟩:=Ck w2 (q++q2) (Ay 7);rw[ea] at o4;have eb:eO (Ay 5)=[.r (.int .i64 5),.r (.int .i64 0),.r (.int .i64 0),.r (.string ⟨#[]⟩),.r (.string ⟨#[]⟩)]:=rfl;have hc4:=w4.c;have hp4:=w4.p;have o5:=C5 G l (Bo l s2 (q++q2) (Ay 7)).2 (Bo l s2 (q++q2) (Ay 7)).1 (Ay 5) hl (by omega) (fun h1=>by have h2:=Cb h1;have:=w2a h2.1;omega) (by omega) (by omega);rw[eb,h] at o5;generalize Bo l s2 (q++q2) (Ay 7)=q4 at o4 o5;obtain⟨a1,ha1⟩: ∃a1,a1=s.p+1:=⟨_,rfl⟩
 have z1:(s.p:Int)+1=(a1:Int):=by omega
 have est:AF s={s with p:=a1}:=by rw[AF,ha1]
 rw[est] at lv;generalize q++q2=jq at jn o4;unfold DY Aj B4 at *;simp only[List.cons_append,List.nil_append] at o4 o5 ⊢;refine A8 func62 rfl (by kernel_rfl) (of_decide_eq_true (by kernel_rfl)) ?_;intro E hG hE;subst hG;simp only[Ai];(repeat' (first |refine A6 ?_ |refine A2 ?_ |refine A3 ?_ |refine A5 ?_ |((first |refine rR (fun K kp hK hkp=>?_) |refine rD (id:=9) AA 31 [0,1,2,3,4,5,6,7,8,9,10,11,12,13,14,15,16,17,18,19,20,21,22,23,24,25,26,27,28,29,30] (fun K kp hK hkp=>?_) |refine rD (id:=10) AA 12 [0,1,2,3,4,5,6,7,8,9,10,11] (fun K kp hK hkp=>?_) |refine oR [0] e1 ?_ |refine oR [0] lv ?_ |refine oR [0,3] o4 ?_ |refine oR [0,4] o5 ?_ |refine cR jn ?_ |refine cD jn ?_ |refine cU jn ?_ |refine iG ?_ |refine iD ?_);simp(implicitDefEqProofs:=false) (maxSteps:=2000000) (disch:=omega) only[go_sem,d0,d1,hx,eT,d2,z1,c0,c1,c2,c3,c4,c5];(repeat' (first |(refine hK _ ?_;clear hK hkp kp K) |(with_reducible refine And.intro ?_ ?_) |omega))) |((first |refine aG (fun h=>?_) (fun h=>?_) |refine aD (fun h=>?_) (fun h=>?_) |refine aX (fun h=>?_) (fun h=>?_))<;>simp only[h]) |refine A0 rfl ?_ |refine A1 rfl ?_ |((refine A4 rfl (fun h=>?_) (fun h=>?_)<;>try simp only[AK] at h)<;>(try (exfalso;omega))) |refine A7 ?_));(refine AB (by(simp(implicitDefEqProofs:=false) (maxSteps:=2000000) (disch:=omega) only[go_sem,results62]);rfl) ?_;refine(AC hE [0,1,5] rfl ?_ ?_).s<;>simp[AI,AH,lk,ren,renL,A9,AG])
set_option maxHeartbeats 16000000 in
theorem KG (G:List (Nat×List Value)){l:List TK0}(hl:l.length≤100){f:Nat}(hL:F9 G l f 4)(s:WK)(q q2 q':List OP)(s2 s':WK)(hs:WkOk l s)(hq:q.length≤41)(ho:BX l s 1 E0=false){x:TK0}(hx:l[s.p]?=some x)(h0:s.e=0)(hk:x.k=4)(hxs:x.s.toList=(⟨#[60,61]⟩:ByteArray).toList)(h4:Az l f 4 (AF s) []=some (q2,s2))
  (h:Bo l (Bo l s2 (q2++q) (Ay 7)).2 (Bo l s2 (q2++q) (Ay 7)).1 (Ay 5)=(q',s')):
  Con prog G 62 [.p 0 0 0,.s 1 0 q.length] (Aj l s++[(1,B4 q)]) 2 (Is (.s 2 0 q'.length) (DY l 2 q' s') 3) No:=by
 have hp:=hs.p;have e1:=AJ G l s 1 E0 hl (by omega) ho;simp only[E0,str] at e1;have hlt:=(List.getElem?_eq_some_iff.1 hx).1;obtain⟨w1,w1c⟩:=Av hs hlt;obtain⟨w2,w2c,w2q⟩:=Be l f 4 (AF s) [] q2 s2 h4 (by omega) w1;have w2a:=fun h1=>(CH l f 4 (AF s) [] q2 s2 h4 (by omega) w1 h1).2.1 (by omega);have hc2:=w2.c;have hp2:=w2.p;simp only[if_pos (show 4<7 by omega)] at w2q;have lv:=hL (AF s) q2 s2 h4 w1
 have d0:(s.e==0)=true:=by simpa using h0
 have d1:decide ((s.p:Int)<(l.length:Int))=true:=decide_eq_true (by omega)
 have d2:(x.k==4)=true:=by simpa using hk
 have c0:(x.s.toList==(⟨#[61]⟩:ByteArray).toList)=false:=by rw[hxs,bL,bL];decide
 have c1:(x.s.toList==(⟨#[60,62]⟩:ByteArray).toList)=false:=by rw[hxs,bL,bL];decide
 have c2:(x.s.toList==(⟨#[60]⟩:ByteArray).toList)=false:=by rw[hxs,bL,bL];decide
 have c3:(x.s.toList==(⟨#[62]⟩:ByteArray).toList)=false:=by rw[hxs,bL,bL];decide
 have c4:(x.s.toList==(⟨#[60,61]⟩:ByteArray).toList)=true:=by rw[hxs,bL];decide
 have c5:(x.s.toList==(⟨#[62,61]⟩:ByteArray).toList)=false:=by rw[hxs,bL,bL];decide
 have jn:=Bn G false false q2 q (by omega) (by omega);have ea:eO (Ay 7)=[.r (.int .i64 7),.r (.int .i64 0),.r (.int .i64 0),.r (.string ⟨#[]⟩),.r (.string ⟨#[]⟩)]:=rfl
 have hj:(q2++q).length≤200:=by rw[List.length_append];omega
 have o4:=C5 G l s2 (q2++q) (Ay 7) hl (by omega) (fun h1=>by have:=w2a h1;omega) (by omega) (by omega);obtain⟨w4,w4c,w4l⟩:=Ck w2 (q2++q) (Ay 7);rw[ea] at o4;have eb:eO (Ay 5)=[.r (.int .i64 5),.r (.int .i64 0),.r (.int .i64 0),.r (.string ⟨#[]⟩),.r (.string ⟨#[]⟩)]:=rfl;have hc4:=w4.c;have hp4:=w4.p;have o5:=C5 G l (Bo l s2 (q2++q) (Ay 7)).2 (Bo l s2 (q2++q) (Ay 7)).1 (Ay 5) hl (by omega) (fun h1=>by have h2:=Cb h1;have:=w2a h2.1;omega) (by omega) (by omega);rw[eb,h] at o5;generalize Bo l s2 (q2++q) (Ay 7)=q4 at o4 o5;obtain⟨a1,ha1⟩: ∃a1,a1=s.p+1:=⟨_,rfl⟩
 have z1:(s.p:Int)+1=(a1:Int):=by omega
 have est:AF s={s with p:=a1}:=by rw[AF,ha1]
 rw[est] at lv;generalize q2++q=jq at jn o4;unfold DY Aj B4 at *;simp only[List.cons_append,List.nil_append] at o4 o5 ⊢;refine A8 func62 rfl (by kernel_rfl) (of_decide_eq_true (by kernel_rfl)) ?_;intro E hG hE;subst hG;simp only[Ai];(repeat' (first |refine A6 ?_ |refine A2 ?_ |refine A3 ?_ |refine A5 ?_ |((first |refine rR (fun K kp hK hkp=>?_) |refine rD (id:=9) AA 31 [0,1,2,3,4,5,6,7,8,9,10,11,12,13,14,15,16,17,18,19,20,21,22,23,24,25,26,27,28,29,30] (fun K kp hK hkp=>?_) |refine rD (id:=10) AA 12 [0,1,2,3,4,5,6,7,8,9,10,11] (fun K kp hK hkp=>?_) |refine oR [0] e1 ?_ |refine oR [0] lv ?_ |refine oR [0,3] o4 ?_ |refine oR [0,4] o5 ?_ |refine cR jn ?_ |refine cD jn ?_ |refine cU jn ?_ |refine iG ?_ |refine iD ?_);simp(implicitDefEqProofs:=false) (maxSteps:=2000000) (disch:=omega) only[go_sem,d0,d1,hx,eT,d2,z1,c0,c1,c2,c3,c4,c5];(repeat' (first |(refine hK _ ?_;clear hK hkp kp K) |(with_reducible refine And.intro ?_ ?_) |omega))) |((first |refine aG (fun h=>?_) (fun h=>?_) |refine aD (fun h=>?_) (fun h=>?_) |refine aX (fun h=>?_) (fun h=>?_))<;>simp only[h]) |refine A0 rfl ?_ |refine A1 rfl ?_ |((refine A4 rfl (fun h=>?_) (fun h=>?_)<;>try simp only[AK] at h)<;>(try (exfalso;omega))) |refine A7 ?_));(refine AB (by(simp(implicitDefEqProofs:=false) (maxSteps:=2000000) (disch:=omega) only[go_sem,results62]);rfl) ?_;refine(AC hE [0,1,5] rfl ?_ ?_).s<;>simp[AI,AH,lk,ren,renL,A9,AG])
end Go.AM
namespace Go.AM
open Go Go.RowKit
open Go.Proofs.YtmgddlckgpfccaaDoor (OP Ac AY AR str)
attribute [local irreducible] AWP BS
theorem KK (G:List (Nat×List Value)){l:List TK0}(hl:l.length≤100){f:Nat}(hL:F9 G l f 4)(s:WK)(q q':List OP)(s':WK)(hs:WkOk l s)(hq:q.length≤41)(h:Az l (f+1) 14 s q=some (q',s')):
  Con prog G 62 [.p 0 0 0,.s 1 0 q.length] (Aj l s++[(1,B4 q)]) 2 (Is (.s 2 0 q'.length) (DY l 2 q' s') 3) No:=by
 rw[Pw] at h;cases ho:BX l s 1 E0
 ·rw[if_neg (by rw[ho];decide)] at h
  cases hm:Ct l s with
  |none=>rw[hm] at h;cases h;exact LO G hl s q hs.p (by omega) ho hm
  |some m=>
   rw[hm] at h;dsimp only at h
   cases h4:Az l f 4 (AF s) [] with
   |none=>rw[h4] at h;cases h
   |some r=>
    obtain⟨q2,s2⟩:=r;rw[h4] at h;dsimp only at h
    have h0:s.e=0:=Classical.byContradiction fun h0=>by rw[Ct,if_neg h0] at hm;cases hm
    rw[Ct,if_pos h0] at hm
    cases hx:l[s.p]? with
    |none=>
     have h1:=List.find?_some hm;unfold AP at h1;rw[hx] at h1;cases h1
    |some x=>
     obtain⟨hk,ht,hmem⟩:=QM hx hm;simp only[KT,List.mem_cons,List.not_mem_nil,or_false] at hmem
     rcases hmem with rfl |rfl |rfl |rfl |rfl |rfl
     ·exact KJ G hl hL s q q2 q' s2 s' hs hq ho hx h0 hk ht h4 (by simpa using h)
     ·exact KE G hl hL s q q2 q' s2 s' hs hq ho hx h0 hk ht h4 (by simpa using h)
     ·exact KF G hl hL s q q2 q' s2 s' hs hq ho hx h0 hk ht h4 (by simpa using h)
     ·exact KH G hl hL s q q2 q' s2 s' hs hq ho hx h0 hk ht h4 (by simpa using h)
     ·exact KI G hl hL s q q2 q' s2 s' hs hq ho hx h0 hk ht h4 (by simpa using h)
     ·exact KG G hl hL s q q2 q' s2 s' hs hq ho hx h0 hk ht h4 (by simpa using h)
 ·rw[if_pos ho] at h
  exact LP G hl s q q' s' hs (by omega) ho (Option.some.inj h)
set_option maxHeartbeats 8000000 in
theorem M6 (G:List (Nat×List Value))(l:List TK0)(s:WK)(n:Nat)(h0:s.e≠0):
  Con prog G 55 [.p 0 0 0,.r (.int .i64 n)] (Aj l s) 1 (Is (.s 1 0 ([]:List OP).length) (DY l 1 [] s) 2) No:=by
 have d0:(s.e !=0)=true:=by simpa using h0
 unfold DY Aj B4;refine A8 func55 rfl (by kernel_rfl) (of_decide_eq_true (by kernel_rfl)) ?_;intro E hG hE;subst hG;simp only[Ai];(repeat' (first |refine A6 ?_ |refine A2 ?_ |refine A3 ?_ |refine A5 ?_ |((first |refine rR (fun K kp hK hkp=>?_) |refine iG ?_);simp(implicitDefEqProofs:=false) (maxSteps:=2000000) (disch:=omega) only[go_sem,d0];(repeat' (first |(refine hK _ ?_;clear hK hkp kp K) |(with_reducible refine And.intro ?_ ?_) |omega))) |((first |refine aG (fun h=>?_) (fun h=>?_) |refine aD (fun h=>?_) (fun h=>?_) |refine aX (fun h=>?_) (fun h=>?_))<;>simp only[h]) |refine A0 rfl ?_ |refine A1 rfl ?_ |((refine A4 rfl (fun h=>?_) (fun h=>?_)<;>try simp only[AK] at h)<;>(try (exfalso;omega))) |refine A7 ?_));(refine AB (by(simp(implicitDefEqProofs:=false) (maxSteps:=2000000) (disch:=omega) only[go_sem,results55]);rfl) ?_;refine FO 73 5 ?_;refine(AC hE [0,1] rfl ?_ ?_).s<;>simp[AH,lk,ren,renL,A9,AG])
set_option maxHeartbeats 16000000 in
theorem SQ (G:List (Nat×List Value)){l:List TK0}(hk: ∀t ∈ l,TokOk t)(hks: ∀t ∈ l,Fh t.s)(hl:l.length≤100)(f:Nat)(IH:F9 G l f 0)(s:WK)(q':List OP)(s':WK)(h:Az l (f+1) 6 s []=some (q',s'))(hs:WkOk l s)(h0:s.e=0):
  Con prog G 55 [.p 0 0 0,.r (.int .i64 6)] (Aj l s) 1 (Is (.s 1 0 q'.length) (DY l 1 q' s') 2) No:=by
 have hp:=hs.p
 have d0:(s.e !=0)=false:=by simpa using h0
 rw[Az,if_pos (by omega),if_neg (by simpa using h0),if_pos rfl] at h;have e1:=L9 G l s hk hl (by omega);obtain⟨w1,w1c,w1p,_⟩:=Jb hs;have w1a:=fun h=>(@G3 l s h).2;generalize Bp l s=r at h e1 w1 w1c w1p w1a;obtain⟨⟨v,b⟩,s1⟩:=r;dsimp only at h e1 w1 w1c w1p w1a;have hp1:=w1.p;cases b;rotate_left
 ·rw[if_pos rfl] at h
  have hc1:=w1.c;have w1p:=w1p rfl;have o2:=Mh G l s1 (I7 v) hl (by omega) (fun _=>by omega) (by omega);have ea:eO (I7 v)=[.r (.int .i64 1),.r (.int .i64 v.k),.r (.int .i64 v.n),.r (.string v.s),.r (.string ⟨#[]⟩)]:=rfl;rw[ea,Option.some.inj h] at o2;unfold DY Aj B4 eV at *;refine A8 func55 rfl (by kernel_rfl) (of_decide_eq_true (by kernel_rfl)) ?_;intro E hG hE;subst hG;simp only[Ai];(repeat' (first |refine A6 ?_ |refine A2 ?_ |refine A3 ?_ |refine A5 ?_ |((first |refine rR (fun K kp hK hkp=>?_) |refine oR [0] e1 ?_ |refine oR [0] o2 ?_ |refine iG ?_);simp(implicitDefEqProofs:=false) (maxSteps:=2000000) (disch:=omega) only[go_sem,d0];(repeat' (first |(refine hK _ ?_;clear hK hkp kp K) |(with_reducible refine And.intro ?_ ?_) |omega))) |((first |refine aG (fun h=>?_) (fun h=>?_) |refine aD (fun h=>?_) (fun h=>?_) |refine aX (fun h=>?_) (fun h=>?_))<;>simp only[h]) |refine A0 rfl ?_ |refine A1 rfl ?_ |((refine A4 rfl (fun h=>?_) (fun h=>?_)<;>try simp only[AK] at h)<;>(try (exfalso;omega))) |refine A7 ?_));(refine AB (by(simp(implicitDefEqProofs:=false) (maxSteps:=2000000) (disch:=omega) only[go_sem,results55]);rfl) ?_;refine(AC hE [0,2] rfl ?_ ?_).s<;>simp[AI,AH,lk,ren,renL,A9,AG])
 rw[if_neg (by decide)] at h;cases ho:BX l s1 4 Ax;rotate_left
 ·rw[if_pos ho] at h
  have e2:=B6 G l s1 4 Ax hl (by omega) ho;simp only[Ax,str] at e2;obtain⟨w2,_⟩:=Av w1 (As ho).2
  cases hy:Az l f 0 (AF s1) [] with
  |none=>rw[hy] at h;cases h
  |some y=>
  obtain⟨q2,s2⟩:=y;rw[hy] at h;cases h;have lv:=IH (AF s1) q' s2 hy w2;obtain⟨w3,_,_⟩:=Be l f 0 (AF s1) [] q' s2 hy (by omega) w2;have e3:=B5 G l s2 4 AW hl (by have:=w3.p;omega);simp only[AW,str] at e3;unfold DY Aj B4 eV at *;simp only[AW,str];refine A8 func55 rfl (by kernel_rfl) (of_decide_eq_true (by kernel_rfl)) ?_;intro E hG hE;subst hG;simp only[Ai];(repeat' (first |refine A6 ?_ |refine A2 ?_ |refine A3 ?_ |refine A5 ?_ |((first |refine rR (fun K kp hK hkp=>?_) |refine oR [0] e1 ?_ |refine oR [0] e2 ?_ |refine oR [0] lv ?_ |refine oR [0] e3 ?_ |refine iG ?_);simp(implicitDefEqProofs:=false) (maxSteps:=2000000) (disch:=omega) only[go_sem,d0];(repeat' (first |(refine hK _ ?_;clear hK hkp kp K) |(with_reducible refine And.intro ?_ ?_) |omega))) |((first |refine aG (fun h=>?_) (fun h=>?_) |refine aD (fun h=>?_) (fun h=>?_) |refine aX (fun h=>?_) (fun h=>?_))<;>simp only[h]) |refine A0 rfl ?_ |refine A1 rfl ?_ |((refine A4 rfl (fun h=>?_) (fun h=>?_)<;>try simp only[AK] at h)<;>(try (exfalso;omega))) |refine A7 ?_));(refine AB (by(simp(implicitDefEqProofs:=false) (maxSteps:=2000000) (disch:=omega) only[go_sem,results55]);rfl) ?_;refine(AC hE [0,2] rfl ?_ ?_).s<;>simp[AI,AH,lk,ren,renL,A9,AG])
 rw[if_neg (by rw[ho];decide)] at h;have e2:=AJ G l s1 4 Ax hl (by omega) ho;simp only[Ax,str] at e2;have e3:=C4 G l s1 hl (by omega) hks;obtain⟨w2,w2c⟩:=Hc w1;have w2a:=fun h=>(@Fj l s1 h).2;generalize Ae l s1=r at h e3 w2 w2c w2a;obtain⟨nm,s2⟩:=r;dsimp only at h e3 w2 w2c w2a;have hp2:=w2.p;have hc2:=w2.c;have o2:=Mh G l s2 (HL nm) hl (by omega) (fun h=>by have:=w2a h;omega) (by omega);have ea:eO (HL nm)=[.r (.int .i64 2),.r (.int .i64 0),.r (.int .i64 0),.r (.string ⟨#[]⟩),.r (.string nm)]:=rfl;rw[ea,Option.some.inj h] at o2;unfold DY Aj B4 eV at *;refine A8 func55 rfl (by kernel_rfl) (of_decide_eq_true (by kernel_rfl)) ?_;intro E hG hE;subst hG;simp only[Ai];(repeat' (first |refine A6 ?_ |refine A2 ?_ |refine A3 ?_ |refine A5 ?_ |((first |refine rR (fun K kp hK hkp=>?_) |refine oR [0] e1 ?_ |refine oR [0] e2 ?_ |refine oR [0] e3 ?_ |refine oR [0] o2 ?_ |refine iG ?_);simp(implicitDefEqProofs:=false) (maxSteps:=2000000) (disch:=omega) only[go_sem,d0];(repeat' (first |(refine hK _ ?_;clear hK hkp kp K) |(with_reducible refine And.intro ?_ ?_) |omega))) |((first |refine aG (fun h=>?_) (fun h=>?_) |refine aD (fun h=>?_) (fun h=>?_) |refine aX (fun h=>?_) (fun h=>?_))<;>simp only[h]) |refine A0 rfl ?_ |refine A1 rfl ?_ |((refine A4 rfl (fun h=>?_) (fun h=>?_)<;>try simp only[AK] at h)<;>(try (exfalso;omega))) |refine A7 ?_));(refine AB (by(simp(implicitDefEqProofs:=false) (maxSteps:=2000000) (disch:=omega) only[go_sem,results55]);rfl) ?_;refine(AC hE [0,2] rfl ?_ ?_).s<;>simp[AI,AH,lk,ren,renL,A9,AG])
set_option maxHeartbeats 16000000 in
theorem SW (G:List (Nat×List Value)){l:List TK0}(hl:l.length≤100)(f:Nat)(I2:F9 G l f 2)(I3:F9 G l f 3)(s:WK)(q':List OP)(s':WK)(h:Az l (f+1) 2 s []=some (q',s'))(hs:WkOk l s)(h0:s.e=0):
  Con prog G 55 [.p 0 0 0,.r (.int .i64 2)] (Aj l s) 1 (Is (.s 1 0 q'.length) (DY l 1 q' s') 2) No:=by
 have hp:=hs.p
 have d0:(s.e !=0)=false:=by simpa using h0
 rw[Az,if_pos (by omega),if_neg (by simpa using h0),if_neg (by omega)] at h;cases ho:BX l s 1 Bz;rotate_left
 ·rw[if_pos ⟨rfl,ho⟩] at h
  have e2:=B6 G l s 1 Bz hl (by omega) ho;simp only[Bz,str] at e2;obtain⟨w2,_⟩:=Av hs (As ho).2
  cases hy:Az l f 2 (AF s) [] with
  |none=>rw[hy] at h;cases h
  |some y=>
  obtain⟨q2,s2⟩:=y;rw[hy] at h;have h:=Option.some.inj h;have lv:=I2 (AF s) q2 s2 hy w2;obtain⟨w3,w3c,w3q⟩:=Be l f 2 (AF s) [] q2 s2 hy (by omega) w2;simp only[if_pos (show 2<7 by omega)] at w3q;have w3a:=fun h3=>(CH l f 2 (AF s) [] q2 s2 hy (by omega) w2 h3).2.1 (by omega);have hp3:=w3.p;have hc3:=w3.c;have o4:=C5 G l s2 q2 (Ay 5) hl (by omega) (fun h3=>by have:=w3a h3;omega) (by omega) (by omega);have ea:eO (Ay 5)=[.r (.int .i64 5),.r (.int .i64 0),.r (.int .i64 0),.r (.string ⟨#[]⟩),.r (.string ⟨#[]⟩)]:=rfl;rw[ea,h] at o4;unfold DY Aj B4 at *;simp only[List.cons_append,List.nil_append] at o4;refine A8 func55 rfl (by kernel_rfl) (of_decide_eq_true (by kernel_rfl)) ?_;intro E hG hE;subst hG;simp only[Ai];(repeat' (first |refine A6 ?_ |refine A2 ?_ |refine A3 ?_ |refine A5 ?_ |((first |refine rR (fun K kp hK hkp=>?_) |refine oR [0] e2 ?_ |refine oR [0] lv ?_ |refine oR [0,1] o4 ?_ |refine iG ?_);simp(implicitDefEqProofs:=false) (maxSteps:=2000000) (disch:=omega) only[go_sem,d0];(repeat' (first |(refine hK _ ?_;clear hK hkp kp K) |(with_reducible refine And.intro ?_ ?_) |omega))) |((first |refine aG (fun h=>?_) (fun h=>?_) |refine aD (fun h=>?_) (fun h=>?_) |refine aX (fun h=>?_) (fun h=>?_))<;>simp only[h]) |refine A0 rfl ?_ |refine A1 rfl ?_ |((refine A4 rfl (fun h=>?_) (fun h=>?_)<;>try simp only[AK] at h)<;>(try (exfalso;omega))) |refine A7 ?_));(refine AB (by(simp(implicitDefEqProofs:=false) (maxSteps:=2000000) (disch:=omega) only[go_sem,results55]);rfl) ?_;refine(AC hE [0,2] rfl ?_ ?_).s<;>simp[AI,AH,lk,ren,renL,A9,AG])
 rw[if_neg (by rw[ho];simp)] at h;have e2:=AJ G l s 1 Bz hl (by omega) ho;simp only[Bz,str] at e2
 cases hy:Az l f (2+1) s [] with
 |none=>rw[hy] at h;cases h
 |some y=>
 obtain⟨q2,s2⟩:=y;rw[hy] at h;dsimp only at h;rw[if_pos rfl] at h;cases h;have lv:=I3 s q' s' hy hs;unfold DY Aj B4 at *;refine A8 func55 rfl (by kernel_rfl) (of_decide_eq_true (by kernel_rfl)) ?_;intro E hG hE;subst hG;simp only[Ai];(repeat' (first |refine A6 ?_ |refine A2 ?_ |refine A3 ?_ |refine A5 ?_ |((first |refine rR (fun K kp hK hkp=>?_) |refine oR [0] e2 ?_ |refine oR [0] lv ?_ |refine iG ?_);simp(implicitDefEqProofs:=false) (maxSteps:=2000000) (disch:=omega) only[go_sem,d0];(repeat' (first |(refine hK _ ?_;clear hK hkp kp K) |(with_reducible refine And.intro ?_ ?_) |omega))) |((first |refine aG (fun h=>?_) (fun h=>?_) |refine aD (fun h=>?_) (fun h=>?_) |refine aX (fun h=>?_) (fun h=>?_))<;>simp only[h]) |refine A0 rfl ?_ |refine A1 rfl ?_ |((refine A4 rfl (fun h=>?_) (fun h=>?_)<;>try simp only[AK] at h)<;>(try (exfalso;omega))) |refine A7 ?_));(refine AB (by(simp(implicitDefEqProofs:=false) (maxSteps:=2000000) (disch:=omega) only[go_sem,results55]);rfl) ?_;refine(AC hE [0,1] rfl ?_ ?_).s<;>simp[AI,AH,lk,ren,renL,A9,AG])
set_option maxHeartbeats 16000000 in
theorem SV (G:List (Nat×List Value)){l:List TK0}(hl:l.length≤100)(f:Nat)(I4:F9 G l (f+1) 4)(I5:F9 G l f 4)(s:WK)(q':List OP)(s':WK)(h:Az l (f+2) 3 s []=some (q',s'))(hs:WkOk l s)(h0:s.e=0):
  Con prog G 55 [.p 0 0 0,.r (.int .i64 3)] (Aj l s) 1 (Is (.s 1 0 q'.length) (DY l 1 q' s') 2) No:=by
 have hp:=hs.p
 have d0:(s.e !=0)=false:=by simpa using h0
 rw[Az,if_pos (by omega),if_neg (by simpa using h0),if_neg (by omega),if_neg (by omega)] at h
 cases hy:Az l (f+1) (3+1) s [] with
 |none=>rw[hy] at h;cases h
 |some y=>
 obtain⟨q2,s2⟩:=y;rw[hy] at h;dsimp only at h;rw[if_neg (by omega),if_pos rfl] at h;have lv:=I4 s q2 s2 hy hs;obtain⟨w3,w3c,w3q⟩:=Be l (f+1) 4 s [] q2 s2 hy (by omega) hs;simp only[if_pos (show 4<7 by omega)] at w3q;have hc3:=w3.c;have cp:=KK G hl I5 s2 q2 q' s' w3 (by omega) h;unfold DY Aj B4 at *;simp only[List.cons_append,List.nil_append] at cp;refine A8 func55 rfl (by kernel_rfl) (of_decide_eq_true (by kernel_rfl)) ?_;intro E hG hE;subst hG;simp only[Ai];(repeat' (first |refine A6 ?_ |refine A2 ?_ |refine A3 ?_ |refine A5 ?_ |((first |refine rR (fun K kp hK hkp=>?_) |refine oR [0] lv ?_ |refine oR [0,1] cp ?_ |refine iG ?_);simp(implicitDefEqProofs:=false) (maxSteps:=2000000) (disch:=omega) only[go_sem,d0];(repeat' (first |(refine hK _ ?_;clear hK hkp kp K) |(with_reducible refine And.intro ?_ ?_) |omega))) |((first |refine aG (fun h=>?_) (fun h=>?_) |refine aD (fun h=>?_) (fun h=>?_) |refine aX (fun h=>?_) (fun h=>?_))<;>simp only[h]) |refine A0 rfl ?_ |refine A1 rfl ?_ |((refine A4 rfl (fun h=>?_) (fun h=>?_)<;>try simp only[AK] at h)<;>(try (exfalso;omega))) |refine A7 ?_));(refine AB (by(simp(implicitDefEqProofs:=false) (maxSteps:=2000000) (disch:=omega) only[go_sem,results55]);rfl) ?_;refine(AC hE [0,2] rfl ?_ ?_).s<;>simp[AI,AH,lk,ren,renL,A9,AG])
end Go.AM
namespace Go.AM
open Go Go.RowKit
open Go.Proofs.YtmgddlckgpfccaaDoor (OP Ac AY AR str)
attribute [local irreducible] AWP BS
theorem FI {l:List TK0}{g n:Nat}{s:WK}{q:List OP}(hn:n<7):Az l (g+1) (n+7) s q=(if s.e≠0 then some (q,s) else match Er l n s.p with
  |none=>some (q,s)
  |some k=>(match Az l g (n+1) (AF s) [] with
   |some (q2,s)=>Az l g (n+7) (Bo l s (q++q2) (Ay k)).2 (Bo l s (q++q2) (Ay k)).1
   |none=>none)):=by
 rw[Az,if_neg (by omega),if_neg (by omega),Nat.add_sub_cancel]
 rfl
set_option maxHeartbeats 16000000 in
theorem SY (G:List (Nat×List Value)){l:List TK0}(hl:l.length≤100)(F:Nat)(IH: ∀g,g≤F→F9 G l g 1)(s:WK)(q':List OP)(s':WK)(h:(match Az l F 1 s [] with
   |some (q,s)=>Az l F (0+7) s q
   |none=>none)=some (q',s')) (hs:WkOk l s) (h0:s.e=0):
  Con prog G 55 [.p 0 0 0,.r (.int .i64 0)] (Aj l s) 1 (Is (.s 1 0 q'.length) (DY l 1 q' s') 2) No:=by
 have hp:=hs.p
 have d0:(s.e !=0)=false:=by simpa using h0
 cases hy:Az l F 1 s [] with
 |none=>rw[hy] at h;cases h
 |some y=>
 obtain⟨q1,s1⟩:=y;rw[hy] at h;dsimp only at h;have lv:=IH F (Nat.le_refl _) s q1 s1 hy hs;obtain⟨w1,w1c,w1q⟩:=Be l F 1 s [] q1 s1 hy (by omega) hs;simp only[if_pos (show 1<7 by omega)] at w1q;unfold DY Aj B4 at *;refine A8 func55 rfl (by kernel_rfl) (of_decide_eq_true (by kernel_rfl)) ?_;intro E hG hE;subst hG;simp only[Ai];(repeat' (first |refine A6 ?_ |refine A2 ?_ |refine A3 ?_ |refine A5 ?_ |((first |refine rR (fun K kp hK hkp=>?_) |refine oR [0] lv ?_ |refine iG ?_);simp(implicitDefEqProofs:=false) (maxSteps:=2000000) (disch:=omega) only[go_sem,d0];(repeat' (first |(refine hK _ ?_;clear hK hkp kp K) |(with_reducible refine And.intro ?_ ?_) |omega))) |((first |refine aG (fun h=>?_) (fun h=>?_) |refine aD (fun h=>?_) (fun h=>?_) |refine aX (fun h=>?_) (fun h=>?_))<;>simp only[h]) |refine A0 rfl ?_ |refine A1 rfl ?_ |((refine A4 rfl (fun h=>?_) (fun h=>?_)<;>try simp only[AK] at h)<;>(try (exfalso;omega))) |refine A7 ?_));refine Ap (fun z:Nat×WK×List OP=>⟨[(0,.p 0 0 0),(1,.r (.int .i64 0)),(10,.s 1 0 z.2.2.length)],DY l 1 z.2.2 z.2.1,2⟩) (fun z=>z.1≤F∧WkOk l z.2.1∧z.2.2.length≤z.2.1.c∧Az l z.1 (0+7) z.2.1 z.2.2=some (q',s')) (fun z=>z.1) (F,s1,q1) ?_ ?_ ?_
 ·exact⟨Nat.le_refl _,w1,by dsimp only;omega,h⟩
 ·unfold DY B4
  (refine Am hE [0,1] rfl ?_ ?_<;>simp[Bi,AH,lk,ren,renL,A9,AG]<;>(try omega))
 clear lv h hy hp d0;rintro⟨g,s,q⟩ ⟨h1,hs,hq,h2⟩;dsimp only at h1 hs hq h2 ⊢;have hp:=hs.p;have hc:=hs.c
 cases g with
 |zero=>cases h2
 |succ g=>
 rw[FI (by omega)] at h2;unfold DY B4 at *
 by_cases h0:s.e=0
 rotate_left
 ·have d0:(s.e==0)=false:=by simpa using h0
  rw[if_pos h0] at h2;cases h2;(repeat' (first |refine A6 ?_ |refine A2 ?_ |refine A3 ?_ |refine A5 ?_ |((first |refine rR (fun K kp hK hkp=>?_) |refine iG ?_);simp(implicitDefEqProofs:=false) (maxSteps:=2000000) (disch:=omega) only[go_sem,d0];(repeat' (first |(refine hK _ ?_;clear hK hkp kp K) |(with_reducible refine And.intro ?_ ?_) |omega))) |((first |refine aG (fun h=>?_) (fun h=>?_) |refine aD (fun h=>?_) (fun h=>?_) |refine aX (fun h=>?_) (fun h=>?_))<;>simp only[h]) |refine A0 rfl ?_ |refine A1 rfl ?_ |((refine A4 rfl (fun h=>?_) (fun h=>?_)<;>try simp only[AK] at h)<;>(try (exfalso;omega))) |refine A7 ?_));(refine AB (by(simp(implicitDefEqProofs:=false) (maxSteps:=2000000) (disch:=omega) only[go_sem,results55]);rfl) ?_;refine(AC hE [0,1] rfl ?_ ?_).s<;>simp[AI,AH,lk,ren,renL,A9,AG])
 have d0:(s.e==0)=true:=by simpa using h0
 rw[if_neg (by simpa using h0)] at h2
 have ho:Er l 0 s.p=if AP l s.p 1 LX=true then some (4:Int) else none:=rfl
 rw[ho] at h2;cases ho0:BX l s 1 LX;rotate_left
 ·rw[if_pos (by rw[←Es h0];exact ho0)] at h2
  dsimp only at h2;have e0:=B6 E.G l s 1 LX hl (by omega) ho0;simp only[LX,str] at e0;obtain⟨w2,w2c⟩:=Av hs (As ho0).2
  cases hz:Az l g 1 (AF s) [] with
  |none=>rw[hz] at h2;cases h2
  |some z=>
  obtain⟨q2,s2⟩:=z;rw[hz] at h2;dsimp only at h2;have lv:=IH g (by omega) (AF s) q2 s2 hz w2;obtain⟨w3,w3c,w3q⟩:=Be l g 1 (AF s) [] q2 s2 hz (by omega) w2;simp only[if_pos (show 1<7 by omega)] at w3q;have w3a:=fun h3=>(CH l g 1 (AF s) [] q2 s2 hz (by omega) w2 h3).2.1 (by omega);have hc3:=w3.c;have hp3:=w3.p;have jn:=Bn E.G false false q q2 (by omega) (by omega)
  have hj:(q++q2).length≤82:=by rw[List.length_append];omega
  have hj2:(q++q2).length=q.length+q2.length:=List.length_append;have ea:eO (Ay 4)=[.r (.int .i64 4),.r (.int .i64 0),.r (.int .i64 0),.r (.string ⟨#[]⟩),.r (.string ⟨#[]⟩)]:=rfl;have o4:=C5 E.G l s2 (q++q2) (Ay 4) hl (by omega) (fun h3=>by have:=w3a h3;omega) (by omega) (by omega);obtain⟨w4,w4c,w4l⟩:=Ck w3 (q++q2) (Ay 4);rw[ea] at o4;generalize hq4:Bo l s2 (q++q2) (Ay 4)=q4 at o4 h2 w4 w4c w4l;generalize q++q2=jq at jn o4 hj hj2 w4l;unfold Aj B4 at *;simp only[List.cons_append,List.nil_append] at o4;(repeat' (first |refine A6 ?_ |refine A2 ?_ |refine A3 ?_ |refine A5 ?_ |((first |refine rR (fun K kp hK hkp=>?_) |refine oR [0] e0 ?_ |refine oR [0] lv ?_ |refine oR [0,3] o4 ?_ |refine cR jn ?_ |refine iG ?_);simp(implicitDefEqProofs:=false) (maxSteps:=2000000) (disch:=omega) only[go_sem,d0];(repeat' (first |(refine hK _ ?_;clear hK hkp kp K) |(with_reducible refine And.intro ?_ ?_) |omega))) |((first |refine aG (fun h=>?_) (fun h=>?_) |refine aD (fun h=>?_) (fun h=>?_) |refine aX (fun h=>?_) (fun h=>?_))<;>simp only[h]) |refine A0 rfl ?_ |refine A1 rfl ?_ |((refine A4 rfl (fun h=>?_) (fun h=>?_)<;>try simp only[AK] at h)<;>(try (exfalso;omega))) |refine A7 ?_))
  ((first |(refine Ba ((g,q4.2,q4.1)) ?_ ?_ ?_) |(refine BT ((g,q4.2,q4.1)) ?_ ?_ ?_) |(refine nextE ((g,q4.2,q4.1)) ?_ ?_ ?_));rotate_left;(·(try dsimp only);(first |omega |(simp only[List.length_drop,List.length_cons,List.length_append];omega) |(simp;done) |(simp;omega)));(·(refine Am hE [0,4] rfl ?_ ?_<;>simp[Bi,AH,lk,ren,renL,A9,AG]<;>(try omega))))
  all_goals first |omega |(exact⟨(by dsimp only;omega),w4,(by dsimp only;omega),h2⟩)
 rw[if_neg (by rw[←Es h0,ho0];decide)] at h2;have e0:=AJ E.G l s 1 LX hl (by omega) ho0;simp only[LX,str] at e0;cases h2;unfold Aj at *;(repeat' (first |refine A6 ?_ |refine A2 ?_ |refine A3 ?_ |refine A5 ?_ |((first |refine rR (fun K kp hK hkp=>?_) |refine oR [0] e0 ?_ |refine iG ?_);simp(implicitDefEqProofs:=false) (maxSteps:=2000000) (disch:=omega) only[go_sem,d0];(repeat' (first |(refine hK _ ?_;clear hK hkp kp K) |(with_reducible refine And.intro ?_ ?_) |omega))) |((first |refine aG (fun h=>?_) (fun h=>?_) |refine aD (fun h=>?_) (fun h=>?_) |refine aX (fun h=>?_) (fun h=>?_))<;>simp only[h]) |refine A0 rfl ?_ |refine A1 rfl ?_ |((refine A4 rfl (fun h=>?_) (fun h=>?_)<;>try simp only[AK] at h)<;>(try (exfalso;omega))) |refine A7 ?_));(refine AB (by(simp(implicitDefEqProofs:=false) (maxSteps:=2000000) (disch:=omega) only[go_sem,results55]);rfl) ?_;refine(AC hE [0,1] rfl ?_ ?_).s<;>simp[AI,AH,lk,ren,renL,A9,AG])
set_option maxHeartbeats 16000000 in
theorem SX (G:List (Nat×List Value)){l:List TK0}(hl:l.length≤100)(F:Nat)(IH: ∀g,g≤F→F9 G l g 2)(s:WK)(q':List OP)(s':WK)(h:(match Az l F 2 s [] with
   |some (q,s)=>Az l F (1+7) s q
   |none=>none)=some (q',s')) (hs:WkOk l s) (h0:s.e=0):
  Con prog G 55 [.p 0 0 0,.r (.int .i64 1)] (Aj l s) 1 (Is (.s 1 0 q'.length) (DY l 1 q' s') 2) No:=by
 have hp:=hs.p
 have d0:(s.e !=0)=false:=by simpa using h0
 cases hy:Az l F 2 s [] with
 |none=>rw[hy] at h;cases h
 |some y=>
 obtain⟨q1,s1⟩:=y;rw[hy] at h;dsimp only at h;have lv:=IH F (Nat.le_refl _) s q1 s1 hy hs;obtain⟨w1,w1c,w1q⟩:=Be l F 2 s [] q1 s1 hy (by omega) hs;simp only[if_pos (show 2<7 by omega)] at w1q;unfold DY Aj B4 at *;refine A8 func55 rfl (by kernel_rfl) (of_decide_eq_true (by kernel_rfl)) ?_;intro E hG hE;subst hG;simp only[Ai];(repeat' (first |refine A6 ?_ |refine A2 ?_ |refine A3 ?_ |refine A5 ?_ |((first |refine rR (fun K kp hK hkp=>?_) |refine oR [0] lv ?_ |refine iG ?_);simp(implicitDefEqProofs:=false) (maxSteps:=2000000) (disch:=omega) only[go_sem,d0];(repeat' (first |(refine hK _ ?_;clear hK hkp kp K) |(with_reducible refine And.intro ?_ ?_) |omega))) |((first |refine aG (fun h=>?_) (fun h=>?_) |refine aD (fun h=>?_) (fun h=>?_) |refine aX (fun h=>?_) (fun h=>?_))<;>simp only[h]) |refine A0 rfl ?_ |refine A1 rfl ?_ |((refine A4 rfl (fun h=>?_) (fun h=>?_)<;>try simp only[AK] at h)<;>(try (exfalso;omega))) |refine A7 ?_));refine Ap (fun z:Nat×WK×List OP=>⟨[(0,.p 0 0 0),(1,.r (.int .i64 1)),(10,.s 1 0 z.2.2.length)],DY l 1 z.2.2 z.2.1,2⟩) (fun z=>z.1≤F∧WkOk l z.2.1∧z.2.2.length≤z.2.1.c∧Az l z.1 (1+7) z.2.1 z.2.2=some (q',s')) (fun z=>z.1) (F,s1,q1) ?_ ?_ ?_
 ·exact⟨Nat.le_refl _,w1,by dsimp only;omega,h⟩
 ·unfold DY B4
  (refine Am hE [0,1] rfl ?_ ?_<;>simp[Bi,AH,lk,ren,renL,A9,AG]<;>(try omega))
 clear lv h hy hp d0;rintro⟨g,s,q⟩ ⟨h1,hs,hq,h2⟩;dsimp only at h1 hs hq h2 ⊢;have hp:=hs.p;have hc:=hs.c
 cases g with
 |zero=>cases h2
 |succ g=>
 rw[FI (by omega)] at h2;unfold DY B4 at *
 by_cases h0:s.e=0
 rotate_left
 ·have d0:(s.e==0)=false:=by simpa using h0
  rw[if_pos h0] at h2;cases h2;(repeat' (first |refine A6 ?_ |refine A2 ?_ |refine A3 ?_ |refine A5 ?_ |((first |refine rR (fun K kp hK hkp=>?_) |refine iG ?_);simp(implicitDefEqProofs:=false) (maxSteps:=2000000) (disch:=omega) only[go_sem,d0];(repeat' (first |(refine hK _ ?_;clear hK hkp kp K) |(with_reducible refine And.intro ?_ ?_) |omega))) |((first |refine aG (fun h=>?_) (fun h=>?_) |refine aD (fun h=>?_) (fun h=>?_) |refine aX (fun h=>?_) (fun h=>?_))<;>simp only[h]) |refine A0 rfl ?_ |refine A1 rfl ?_ |((refine A4 rfl (fun h=>?_) (fun h=>?_)<;>try simp only[AK] at h)<;>(try (exfalso;omega))) |refine A7 ?_));(refine AB (by(simp(implicitDefEqProofs:=false) (maxSteps:=2000000) (disch:=omega) only[go_sem,results55]);rfl) ?_;refine(AC hE [0,1] rfl ?_ ?_).s<;>simp[AI,AH,lk,ren,renL,A9,AG])
 have d0:(s.e==0)=true:=by simpa using h0
 rw[if_neg (by simpa using h0)] at h2
 have ho:Er l 1 s.p=if AP l s.p 1 FT=true then some (3:Int) else none:=rfl
 rw[ho] at h2;cases ho0:BX l s 1 FT;rotate_left
 ·rw[if_pos (by rw[←Es h0];exact ho0)] at h2
  dsimp only at h2;have e0:=B6 E.G l s 1 FT hl (by omega) ho0;simp only[FT,str] at e0;obtain⟨w2,w2c⟩:=Av hs (As ho0).2
  cases hz:Az l g 2 (AF s) [] with
  |none=>rw[hz] at h2;cases h2
  |some z=>
  obtain⟨q2,s2⟩:=z;rw[hz] at h2;dsimp only at h2;have lv:=IH g (by omega) (AF s) q2 s2 hz w2;obtain⟨w3,w3c,w3q⟩:=Be l g 2 (AF s) [] q2 s2 hz (by omega) w2;simp only[if_pos (show 2<7 by omega)] at w3q;have w3a:=fun h3=>(CH l g 2 (AF s) [] q2 s2 hz (by omega) w2 h3).2.1 (by omega);have hc3:=w3.c;have hp3:=w3.p;have jn:=Bn E.G false false q q2 (by omega) (by omega)
  have hj:(q++q2).length≤82:=by rw[List.length_append];omega
  have hj2:(q++q2).length=q.length+q2.length:=List.length_append;have ea:eO (Ay 3)=[.r (.int .i64 3),.r (.int .i64 0),.r (.int .i64 0),.r (.string ⟨#[]⟩),.r (.string ⟨#[]⟩)]:=rfl;have o4:=C5 E.G l s2 (q++q2) (Ay 3) hl (by omega) (fun h3=>by have:=w3a h3;omega) (by omega) (by omega);obtain⟨w4,w4c,w4l⟩:=Ck w3 (q++q2) (Ay 3);rw[ea] at o4;generalize hq4:Bo l s2 (q++q2) (Ay 3)=q4 at o4 h2 w4 w4c w4l;generalize q++q2=jq at jn o4 hj hj2 w4l;unfold Aj B4 at *;simp only[List.cons_append,List.nil_append] at o4;(repeat' (first |refine A6 ?_ |refine A2 ?_ |refine A3 ?_ |refine A5 ?_ |((first |refine rR (fun K kp hK hkp=>?_) |refine oR [0] e0 ?_ |refine oR [0] lv ?_ |refine oR [0,3] o4 ?_ |refine cR jn ?_ |refine iG ?_);simp(implicitDefEqProofs:=false) (maxSteps:=2000000) (disch:=omega) only[go_sem,d0];(repeat' (first |(refine hK _ ?_;clear hK hkp kp K) |(with_reducible refine And.intro ?_ ?_) |omega))) |((first |refine aG (fun h=>?_) (fun h=>?_) |refine aD (fun h=>?_) (fun h=>?_) |refine aX (fun h=>?_) (fun h=>?_))<;>simp only[h]) |refine A0 rfl ?_ |refine A1 rfl ?_ |((refine A4 rfl (fun h=>?_) (fun h=>?_)<;>try simp only[AK] at h)<;>(try (exfalso;omega))) |refine A7 ?_))
  ((first |(refine Ba ((g,q4.2,q4.1)) ?_ ?_ ?_) |(refine BT ((g,q4.2,q4.1)) ?_ ?_ ?_) |(refine nextE ((g,q4.2,q4.1)) ?_ ?_ ?_));rotate_left;(·(try dsimp only);(first |omega |(simp only[List.length_drop,List.length_cons,List.length_append];omega) |(simp;done) |(simp;omega)));(·(refine Am hE [0,4] rfl ?_ ?_<;>simp[Bi,AH,lk,ren,renL,A9,AG]<;>(try omega))))
  all_goals first |omega |(exact⟨(by dsimp only;omega),w4,(by dsimp only;omega),h2⟩)
 rw[if_neg (by rw[←Es h0,ho0];decide)] at h2;have e0:=AJ E.G l s 1 FT hl (by omega) ho0;simp only[FT,str] at e0;cases h2;unfold Aj at *;(repeat' (first |refine A6 ?_ |refine A2 ?_ |refine A3 ?_ |refine A5 ?_ |((first |refine rR (fun K kp hK hkp=>?_) |refine oR [0] e0 ?_ |refine iG ?_);simp(implicitDefEqProofs:=false) (maxSteps:=2000000) (disch:=omega) only[go_sem,d0];(repeat' (first |(refine hK _ ?_;clear hK hkp kp K) |(with_reducible refine And.intro ?_ ?_) |omega))) |((first |refine aG (fun h=>?_) (fun h=>?_) |refine aD (fun h=>?_) (fun h=>?_) |refine aX (fun h=>?_) (fun h=>?_))<;>simp only[h]) |refine A0 rfl ?_ |refine A1 rfl ?_ |((refine A4 rfl (fun h=>?_) (fun h=>?_)<;>try simp only[AK] at h)<;>(try (exfalso;omega))) |refine A7 ?_));(refine AB (by(simp(implicitDefEqProofs:=false) (maxSteps:=2000000) (disch:=omega) only[go_sem,results55]);rfl) ?_;refine(AC hE [0,1] rfl ?_ ?_).s<;>simp[AI,AH,lk,ren,renL,A9,AG])
set_option maxHeartbeats 16000000 in
theorem SU (G:List (Nat×List Value)){l:List TK0}(hl:l.length≤100)(F:Nat)(IH: ∀g,g≤F→F9 G l g 5)(s:WK)(q':List OP)(s':WK)(h:(match Az l F 5 s [] with
   |some (q,s)=>Az l F (4+7) s q
   |none=>none)=some (q',s')) (hs:WkOk l s) (h0:s.e=0):
  Con prog G 55 [.p 0 0 0,.r (.int .i64 4)] (Aj l s) 1 (Is (.s 1 0 q'.length) (DY l 1 q' s') 2) No:=by
 have hp:=hs.p
 have d0:(s.e !=0)=false:=by simpa using h0
 cases hy:Az l F 5 s [] with
 |none=>rw[hy] at h;cases h
 |some y=>
 obtain⟨q1,s1⟩:=y;rw[hy] at h;dsimp only at h;have lv:=IH F (Nat.le_refl _) s q1 s1 hy hs;obtain⟨w1,w1c,w1q⟩:=Be l F 5 s [] q1 s1 hy (by omega) hs;simp only[if_pos (show 5<7 by omega)] at w1q;unfold DY Aj B4 at *;refine A8 func55 rfl (by kernel_rfl) (of_decide_eq_true (by kernel_rfl)) ?_;intro E hG hE;subst hG;simp only[Ai];(repeat' (first |refine A6 ?_ |refine A2 ?_ |refine A3 ?_ |refine A5 ?_ |((first |refine rR (fun K kp hK hkp=>?_) |refine oR [0] lv ?_ |refine iG ?_);simp(implicitDefEqProofs:=false) (maxSteps:=2000000) (disch:=omega) only[go_sem,d0];(repeat' (first |(refine hK _ ?_;clear hK hkp kp K) |(with_reducible refine And.intro ?_ ?_) |omega))) |((first |refine aG (fun h=>?_) (fun h=>?_) |refine aD (fun h=>?_) (fun h=>?_) |refine aX (fun h=>?_) (fun h=>?_))<;>simp only[h]) |refine A0 rfl ?_ |refine A1 rfl ?_ |((refine A4 rfl (fun h=>?_) (fun h=>?_)<;>try simp only[AK] at h)<;>(try (exfalso;omega))) |refine A7 ?_));refine Ap (fun z:Nat×WK×List OP=>⟨[(0,.p 0 0 0),(1,.r (.int .i64 4)),(10,.s 1 0 z.2.2.length)],DY l 1 z.2.2 z.2.1,2⟩) (fun z=>z.1≤F∧WkOk l z.2.1∧z.2.2.length≤z.2.1.c∧Az l z.1 (4+7) z.2.1 z.2.2=some (q',s')) (fun z=>z.1) (F,s1,q1) ?_ ?_ ?_
 ·exact⟨Nat.le_refl _,w1,by dsimp only;omega,h⟩
 ·unfold DY B4
  (refine Am hE [0,1] rfl ?_ ?_<;>simp[Bi,AH,lk,ren,renL,A9,AG]<;>(try omega))
 clear lv h hy hp d0;rintro⟨g,s,q⟩ ⟨h1,hs,hq,h2⟩;dsimp only at h1 hs hq h2 ⊢;have hp:=hs.p;have hc:=hs.c
 cases g with
 |zero=>cases h2
 |succ g=>
 rw[FI (by omega)] at h2;unfold DY B4 at *
 by_cases h0:s.e=0
 rotate_left
 ·have d0:(s.e==0)=false:=by simpa using h0
  rw[if_pos h0] at h2;cases h2;(repeat' (first |refine A6 ?_ |refine A2 ?_ |refine A3 ?_ |refine A5 ?_ |((first |refine rR (fun K kp hK hkp=>?_) |refine iG ?_);simp(implicitDefEqProofs:=false) (maxSteps:=2000000) (disch:=omega) only[go_sem,d0];(repeat' (first |(refine hK _ ?_;clear hK hkp kp K) |(with_reducible refine And.intro ?_ ?_) |omega))) |((first |refine aG (fun h=>?_) (fun h=>?_) |refine aD (fun h=>?_) (fun h=>?_) |refine aX (fun h=>?_) (fun h=>?_))<;>simp only[h]) |refine A0 rfl ?_ |refine A1 rfl ?_ |((refine A4 rfl (fun h=>?_) (fun h=>?_)<;>try simp only[AK] at h)<;>(try (exfalso;omega))) |refine A7 ?_));(refine AB (by(simp(implicitDefEqProofs:=false) (maxSteps:=2000000) (disch:=omega) only[go_sem,results55]);rfl) ?_;refine(AC hE [0,1] rfl ?_ ?_).s<;>simp[AI,AH,lk,ren,renL,A9,AG])
 have d0:(s.e==0)=true:=by simpa using h0
 rw[if_neg (by simpa using h0)] at h2
 have ho:Er l 4 s.p=if AP l s.p 4 DA=true then some (8:Int) else if AP l s.p 4 B7=true then some (9:Int) else none:=rfl
 rw[ho] at h2;cases ho0:BX l s 4 DA;rotate_left
 ·rw[if_pos (by rw[←Es h0];exact ho0)] at h2
  dsimp only at h2;have e0:=B6 E.G l s 4 DA hl (by omega) ho0;simp only[DA,str] at e0;obtain⟨w2,w2c⟩:=Av hs (As ho0).2
  cases hz:Az l g 5 (AF s) [] with
  |none=>rw[hz] at h2;cases h2
  |some z=>
  obtain⟨q2,s2⟩:=z;rw[hz] at h2;dsimp only at h2;have lv:=IH g (by omega) (AF s) q2 s2 hz w2;obtain⟨w3,w3c,w3q⟩:=Be l g 5 (AF s) [] q2 s2 hz (by omega) w2;simp only[if_pos (show 5<7 by omega)] at w3q;have w3a:=fun h3=>(CH l g 5 (AF s) [] q2 s2 hz (by omega) w2 h3).2.1 (by omega);have hc3:=w3.c;have hp3:=w3.p;have jn:=Bn E.G false false q q2 (by omega) (by omega)
  have hj:(q++q2).length≤82:=by rw[List.length_append];omega
  have hj2:(q++q2).length=q.length+q2.length:=List.length_append;have ea:eO (Ay 8)=[.r (.int .i64 8),.r (.int .i64 0),.r (.int .i64 0),.r (.string ⟨#[]⟩),.r (.string ⟨#[]⟩)]:=rfl;have o4:=C5 E.G l s2 (q++q2) (Ay 8) hl (by omega) (fun h3=>by have:=w3a h3;omega) (by omega) (by omega);obtain⟨w4,w4c,w4l⟩:=Ck w3 (q++q2) (Ay 8);rw[ea] at o4;generalize hq4:Bo l s2 (q++q2) (Ay 8)=q4 at o4 h2 w4 w4c w4l;generalize q++q2=jq at jn o4 hj hj2 w4l;unfold Aj B4 at *;simp only[List.cons_append,List.nil_append] at o4;(repeat' (first |refine A6 ?_ |refine A2 ?_ |refine A3 ?_ |refine A5 ?_ |((first |refine rR (fun K kp hK hkp=>?_) |refine oR [0] e0 ?_ |refine oR [0] lv ?_ |refine oR [0,3] o4 ?_ |refine cR jn ?_ |refine iG ?_);simp(implicitDefEqProofs:=false) (maxSteps:=2000000) (disch:=omega) only[go_sem,d0];(repeat' (first |(refine hK _ ?_;clear hK hkp kp K) |(with_reducible refine And.intro ?_ ?_) |omega))) |((first |refine aG (fun h=>?_) (fun h=>?_) |refine aD (fun h=>?_) (fun h=>?_) |refine aX (fun h=>?_) (fun h=>?_))<;>simp only[h]) |refine A0 rfl ?_ |refine A1 rfl ?_ |((refine A4 rfl (fun h=>?_) (fun h=>?_)<;>try simp only[AK] at h)<;>(try (exfalso;omega))) |refine A7 ?_))
  ((first |(refine Ba ((g,q4.2,q4.1)) ?_ ?_ ?_) |(refine BT ((g,q4.2,q4.1)) ?_ ?_ ?_) |(refine nextE ((g,q4.2,q4.1)) ?_ ?_ ?_));rotate_left;(·(try dsimp only);(first |omega |(simp only[List.length_drop,List.length_cons,List.length_append];omega) |(simp;done) |(simp;omega)));(·(refine Am hE [0,4] rfl ?_ ?_<;>simp[Bi,AH,lk,ren,renL,A9,AG]<;>(try omega))))
  all_goals first |omega |(exact⟨(by dsimp only;omega),w4,(by dsimp only;omega),h2⟩)
 rw[if_neg (by rw[←Es h0,ho0];decide)] at h2;have e0:=AJ E.G l s 4 DA hl (by omega) ho0;simp only[DA,str] at e0;cases ho1:BX l s 4 B7;rotate_left
 ·rw[if_pos (by rw[←Es h0];exact ho1)] at h2
  dsimp only at h2;have e1:=B6 E.G l s 4 B7 hl (by omega) ho1;simp only[B7,str] at e1;obtain⟨w2,w2c⟩:=Av hs (As ho1).2
  cases hz:Az l g 5 (AF s) [] with
  |none=>rw[hz] at h2;cases h2
  |some z=>
  obtain⟨q2,s2⟩:=z;rw[hz] at h2;dsimp only at h2;have lv:=IH g (by omega) (AF s) q2 s2 hz w2;obtain⟨w3,w3c,w3q⟩:=Be l g 5 (AF s) [] q2 s2 hz (by omega) w2;simp only[if_pos (show 5<7 by omega)] at w3q;have w3a:=fun h3=>(CH l g 5 (AF s) [] q2 s2 hz (by omega) w2 h3).2.1 (by omega);have hc3:=w3.c;have hp3:=w3.p;have jn:=Bn E.G false false q q2 (by omega) (by omega)
  have hj:(q++q2).length≤82:=by rw[List.length_append];omega
  have hj2:(q++q2).length=q.length+q2.length:=List.length_append;have ea:eO (Ay 9)=[.r (.int .i64 9),.r (.int .i64 0),.r (.int .i64 0),.r (.string ⟨#[]⟩),.r (.string ⟨#[]⟩)]:=rfl;have o4:=C5 E.G l s2 (q++q2) (Ay 9) hl (by omega) (fun h3=>by have:=w3a h3;omega) (by omega) (by omega);obtain⟨w4,w4c,w4l⟩:=Ck w3 (q++q2) (Ay 9);rw[ea] at o4;generalize hq4:Bo l s2 (q++q2) (Ay 9)=q4 at o4 h2 w4 w4c w4l;generalize q++q2=jq at jn o4 hj hj2 w4l;unfold Aj B4 at *;simp only[List.cons_append,List.nil_append] at o4;(repeat' (first |refine A6 ?_ |refine A2 ?_ |refine A3 ?_ |refine A5 ?_ |((first |refine rR (fun K kp hK hkp=>?_) |refine oR [0] e0 ?_ |refine oR [0] e1 ?_ |refine oR [0] lv ?_ |refine oR [0,3] o4 ?_ |refine cR jn ?_ |refine iG ?_);simp(implicitDefEqProofs:=false) (maxSteps:=2000000) (disch:=omega) only[go_sem,d0];(repeat' (first |(refine hK _ ?_;clear hK hkp kp K) |(with_reducible refine And.intro ?_ ?_) |omega))) |((first |refine aG (fun h=>?_) (fun h=>?_) |refine aD (fun h=>?_) (fun h=>?_) |refine aX (fun h=>?_) (fun h=>?_))<;>simp only[h]) |refine A0 rfl ?_ |refine A1 rfl ?_ |((refine A4 rfl (fun h=>?_) (fun h=>?_)<;>try simp only[AK] at h)<;>(try (exfalso;omega))) |refine A7 ?_))
  ((first |(refine Ba ((g,q4.2,q4.1)) ?_ ?_ ?_) |(refine BT ((g,q4.2,q4.1)) ?_ ?_ ?_) |(refine nextE ((g,q4.2,q4.1)) ?_ ?_ ?_));rotate_left;(·(try dsimp only);(first |omega |(simp only[List.length_drop,List.length_cons,List.length_append];omega) |(simp;done) |(simp;omega)));(·(refine Am hE [0,4] rfl ?_ ?_<;>simp[Bi,AH,lk,ren,renL,A9,AG]<;>(try omega))))
  all_goals first |omega |(exact⟨(by dsimp only;omega),w4,(by dsimp only;omega),h2⟩)
 rw[if_neg (by rw[←Es h0,ho1];decide)] at h2;have e1:=AJ E.G l s 4 B7 hl (by omega) ho1;simp only[B7,str] at e1;cases h2;unfold Aj at *;(repeat' (first |refine A6 ?_ |refine A2 ?_ |refine A3 ?_ |refine A5 ?_ |((first |refine rR (fun K kp hK hkp=>?_) |refine oR [0] e0 ?_ |refine oR [0] e1 ?_ |refine iG ?_);simp(implicitDefEqProofs:=false) (maxSteps:=2000000) (disch:=omega) only[go_sem,d0];(repeat' (first |(refine hK _ ?_;clear hK hkp kp K) |(with_reducible refine And.intro ?_ ?_) |omega))) |((first |refine aG (fun h=>?_) (fun h=>?_) |refine aD (fun h=>?_) (fun h=>?_) |refine aX (fun h=>?_) (fun h=>?_))<;>simp only[h]) |refine A0 rfl ?_ |refine A1 rfl ?_ |((refine A4 rfl (fun h=>?_) (fun h=>?_)<;>try simp only[AK] at h)<;>(try (exfalso;omega))) |refine A7 ?_));(refine AB (by(simp(implicitDefEqProofs:=false) (maxSteps:=2000000) (disch:=omega) only[go_sem,results55]);rfl) ?_;refine(AC hE [0,1] rfl ?_ ?_).s<;>simp[AI,AH,lk,ren,renL,A9,AG])
set_option maxHeartbeats 16000000 in
theorem SS (G:List (Nat×List Value)){l:List TK0}(hl:l.length≤100)(F:Nat)(IH: ∀g,g≤F→F9 G l g 6)(s:WK)(q':List OP)(s':WK)(h:(match Az l F 6 s [] with
   |some (q,s)=>Az l F (5+7) s q
   |none=>none)=some (q',s')) (hs:WkOk l s) (h0:s.e=0):
  Con prog G 55 [.p 0 0 0,.r (.int .i64 5)] (Aj l s) 1 (Is (.s 1 0 q'.length) (DY l 1 q' s') 2) No:=by
 have hp:=hs.p
 have d0:(s.e !=0)=false:=by simpa using h0
 cases hy:Az l F 6 s [] with
 |none=>rw[hy] at h;cases h
 |some y=>
 obtain⟨q1,s1⟩:=y;rw[hy] at h;dsimp only at h;have lv:=IH F (Nat.le_refl _) s q1 s1 hy hs;obtain⟨w1,w1c,w1q⟩:=Be l F 6 s [] q1 s1 hy (by omega) hs;simp only[if_pos (show 6<7 by omega)] at w1q;unfold DY Aj B4 at *;refine A8 func55 rfl (by kernel_rfl) (of_decide_eq_true (by kernel_rfl)) ?_;intro E hG hE;subst hG;simp only[Ai];(repeat' (first |refine A6 ?_ |refine A2 ?_ |refine A3 ?_ |refine A5 ?_ |((first |refine rR (fun K kp hK hkp=>?_) |refine oR [0] lv ?_ |refine iG ?_);simp(implicitDefEqProofs:=false) (maxSteps:=2000000) (disch:=omega) only[go_sem,d0];(repeat' (first |(refine hK _ ?_;clear hK hkp kp K) |(with_reducible refine And.intro ?_ ?_) |omega))) |((first |refine aG (fun h=>?_) (fun h=>?_) |refine aD (fun h=>?_) (fun h=>?_) |refine aX (fun h=>?_) (fun h=>?_))<;>simp only[h]) |refine A0 rfl ?_ |refine A1 rfl ?_ |((refine A4 rfl (fun h=>?_) (fun h=>?_)<;>try simp only[AK] at h)<;>(try (exfalso;omega))) |refine A7 ?_));refine Ap (fun z:Nat×WK×List OP=>⟨[(0,.p 0 0 0),(1,.r (.int .i64 5)),(10,.s 1 0 z.2.2.length)],DY l 1 z.2.2 z.2.1,2⟩) (fun z=>z.1≤F∧WkOk l z.2.1∧z.2.2.length≤z.2.1.c∧Az l z.1 (5+7) z.2.1 z.2.2=some (q',s')) (fun z=>z.1) (F,s1,q1) ?_ ?_ ?_
 ·exact⟨Nat.le_refl _,w1,by dsimp only;omega,h⟩
 ·unfold DY B4
  (refine Am hE [0,1] rfl ?_ ?_<;>simp[Bi,AH,lk,ren,renL,A9,AG]<;>(try omega))
 clear lv h hy hp d0;rintro⟨g,s,q⟩ ⟨h1,hs,hq,h2⟩;dsimp only at h1 hs hq h2 ⊢;have hp:=hs.p;have hc:=hs.c
 cases g with
 |zero=>cases h2
 |succ g=>
 rw[FI (by omega)] at h2;unfold DY B4 at *
 by_cases h0:s.e=0
 rotate_left
 ·have d0:(s.e==0)=false:=by simpa using h0
  rw[if_pos h0] at h2;cases h2;(repeat' (first |refine A6 ?_ |refine A2 ?_ |refine A3 ?_ |refine A5 ?_ |((first |refine rR (fun K kp hK hkp=>?_) |refine iG ?_);simp(implicitDefEqProofs:=false) (maxSteps:=2000000) (disch:=omega) only[go_sem,d0];(repeat' (first |(refine hK _ ?_;clear hK hkp kp K) |(with_reducible refine And.intro ?_ ?_) |omega))) |((first |refine aG (fun h=>?_) (fun h=>?_) |refine aD (fun h=>?_) (fun h=>?_) |refine aX (fun h=>?_) (fun h=>?_))<;>simp only[h]) |refine A0 rfl ?_ |refine A1 rfl ?_ |((refine A4 rfl (fun h=>?_) (fun h=>?_)<;>try simp only[AK] at h)<;>(try (exfalso;omega))) |refine A7 ?_));(refine AB (by(simp(implicitDefEqProofs:=false) (maxSteps:=2000000) (disch:=omega) only[go_sem,results55]);rfl) ?_;refine(AC hE [0,1] rfl ?_ ?_).s<;>simp[AI,AH,lk,ren,renL,A9,AG])
 have d0:(s.e==0)=true:=by simpa using h0
 rw[if_neg (by simpa using h0)] at h2
 have ho:Er l 5 s.p=if AP l s.p 4 BQ=true then some (10:Int) else none:=rfl
 rw[ho] at h2;cases ho0:BX l s 4 BQ;rotate_left
 ·rw[if_pos (by rw[←Es h0];exact ho0)] at h2
  dsimp only at h2;have e0:=B6 E.G l s 4 BQ hl (by omega) ho0;simp only[BQ,str] at e0;obtain⟨w2,w2c⟩:=Av hs (As ho0).2
  cases hz:Az l g 6 (AF s) [] with
  |none=>rw[hz] at h2;cases h2
  |some z=>
  obtain⟨q2,s2⟩:=z;rw[hz] at h2;dsimp only at h2;have lv:=IH g (by omega) (AF s) q2 s2 hz w2;obtain⟨w3,w3c,w3q⟩:=Be l g 6 (AF s) [] q2 s2 hz (by omega) w2;simp only[if_pos (show 6<7 by omega)] at w3q;have w3a:=fun h3=>(CH l g 6 (AF s) [] q2 s2 hz (by omega) w2 h3).2.1 (by omega);have hc3:=w3.c;have hp3:=w3.p;have jn:=Bn E.G false false q q2 (by omega) (by omega)
  have hj:(q++q2).length≤82:=by rw[List.length_append];omega
  have hj2:(q++q2).length=q.length+q2.length:=List.length_append;have ea:eO (Ay 10)=[.r (.int .i64 10),.r (.int .i64 0),.r (.int .i64 0),.r (.string ⟨#[]⟩),.r (.string ⟨#[]⟩)]:=rfl;have o4:=C5 E.G l s2 (q++q2) (Ay 10) hl (by omega) (fun h3=>by have:=w3a h3;omega) (by omega) (by omega);obtain⟨w4,w4c,w4l⟩:=Ck w3 (q++q2) (Ay 10);rw[ea] at o4;generalize hq4:Bo l s2 (q++q2) (Ay 10)=q4 at o4 h2 w4 w4c w4l;generalize q++q2=jq at jn o4 hj hj2 w4l;unfold Aj B4 at *;simp only[List.cons_append,List.nil_append] at o4;(repeat' (first |refine A6 ?_ |refine A2 ?_ |refine A3 ?_ |refine A5 ?_ |((first |refine rR (fun K kp hK hkp=>?_) |refine oR [0] e0 ?_ |refine oR [0] lv ?_ |refine oR [0,3] o4 ?_ |refine cR jn ?_ |refine iG ?_);simp(implicitDefEqProofs:=false) (maxSteps:=2000000) (disch:=omega) only[go_sem,d0];(repeat' (first |(refine hK _ ?_;clear hK hkp kp K) |(with_reducible refine And.intro ?_ ?_) |omega))) |((first |refine aG (fun h=>?_) (fun h=>?_) |refine aD (fun h=>?_) (fun h=>?_) |refine aX (fun h=>?_) (fun h=>?_))<;>simp only[h]) |refine A0 rfl ?_ |refine A1 rfl ?_ |((refine A4 rfl (fun h=>?_) (fun h=>?_)<;>try simp only[AK] at h)<;>(try (exfalso;omega))) |refine A7 ?_))
  ((first |(refine Ba ((g,q4.2,q4.1)) ?_ ?_ ?_) |(refine BT ((g,q4.2,q4.1)) ?_ ?_ ?_) |(refine nextE ((g,q4.2,q4.1)) ?_ ?_ ?_));rotate_left;(·(try dsimp only);(first |omega |(simp only[List.length_drop,List.length_cons,List.length_append];omega) |(simp;done) |(simp;omega)));(·(refine Am hE [0,4] rfl ?_ ?_<;>simp[Bi,AH,lk,ren,renL,A9,AG]<;>(try omega))))
  all_goals first |omega |(exact⟨(by dsimp only;omega),w4,(by dsimp only;omega),h2⟩)
 rw[if_neg (by rw[←Es h0,ho0];decide)] at h2;have e0:=AJ E.G l s 4 BQ hl (by omega) ho0;simp only[BQ,str] at e0;cases h2;unfold Aj at *;(repeat' (first |refine A6 ?_ |refine A2 ?_ |refine A3 ?_ |refine A5 ?_ |((first |refine rR (fun K kp hK hkp=>?_) |refine oR [0] e0 ?_ |refine iG ?_);simp(implicitDefEqProofs:=false) (maxSteps:=2000000) (disch:=omega) only[go_sem,d0];(repeat' (first |(refine hK _ ?_;clear hK hkp kp K) |(with_reducible refine And.intro ?_ ?_) |omega))) |((first |refine aG (fun h=>?_) (fun h=>?_) |refine aD (fun h=>?_) (fun h=>?_) |refine aX (fun h=>?_) (fun h=>?_))<;>simp only[h]) |refine A0 rfl ?_ |refine A1 rfl ?_ |((refine A4 rfl (fun h=>?_) (fun h=>?_)<;>try simp only[AK] at h)<;>(try (exfalso;omega))) |refine A7 ?_));(refine AB (by(simp(implicitDefEqProofs:=false) (maxSteps:=2000000) (disch:=omega) only[go_sem,results55]);rfl) ?_;refine(AC hE [0,1] rfl ?_ ?_).s<;>simp[AI,AH,lk,ren,renL,A9,AG])
end Go.AM
namespace Go.AM
open Go Go.RowKit
open Go.Proofs.YtmgddlckgpfccaaDoor (OP Ac AY AR str)
attribute [local irreducible] AWP BS
theorem G4 {l:List TK0}{f n:Nat}{s:WK}(h0:s.e=0)(hn:n<6)(h2:n≠2)(h3:n≠3):Az l (f+1) n s []=(match Az l f (n+1) s [] with
  |some (q,s)=>Az l f (n+7) s q
  |none=>none):=by
 rw[Az,if_pos (by omega),if_neg (by simpa using h0),if_neg (by omega),if_neg (by omega)];simp only[h2,h3,if_false]
 try rfl
theorem SP (G:List (Nat×List Value)){l:List TK0}(hk: ∀t ∈ l,TokOk t)(hks: ∀t ∈ l,Fh t.s)(hl:l.length≤100): ∀F f,f≤F→ ∀n,n≤6→F9 G l f n:=by
 intro F
 induction F with
 |zero=>
  intro f hf n hn s q s' h
  obtain rfl:f=0:=by omega
  cases h
 |succ F ih=>
  intro f hf n hn
  by_cases hlt:f≤F
  ·exact ih f hlt n hn
  obtain rfl:f=F+1:=by omega
  intro s q s' h hs
  by_cases h0:s.e=0
  rotate_left
  ·rw[Az,if_pos (by omega),if_pos h0] at h
   cases h;exact M6 G l s n h0
  obtain rfl |rfl |rfl |rfl |rfl |rfl |rfl:n=0∨n=1∨n=2∨n=3∨n=4∨n=5∨n=6:=by omega
  ·rw[G4 h0 (by omega) (by omega) (by omega)] at h
   exact SY G hl F (fun g hg=>ih g hg 1 (by omega)) s q s' h hs h0
  ·rw[G4 h0 (by omega) (by omega) (by omega)] at h
   exact SX G hl F (fun g hg=>ih g hg 2 (by omega)) s q s' h hs h0
  ·exact SW G hl F (ih F (Nat.le_refl _) 2 (by omega)) (ih F (Nat.le_refl _) 3 (by omega)) s q s' h hs h0
  ·cases F with
   |zero=>
    rw[Az,if_pos (by omega),if_neg (by simpa using h0),if_neg (by omega),if_neg (by omega)] at h;cases h
   |succ F=>exact SV G hl F (ih (F+1) (Nat.le_refl _) 4 (by omega)) (ih F (by omega) 4 (by omega)) s q s' h hs h0
  ·rw[G4 h0 (by omega) (by omega) (by omega)] at h
   exact SU G hl F (fun g hg=>ih g hg 5 (by omega)) s q s' h hs h0
  ·rw[G4 h0 (by omega) (by omega) (by omega)] at h
   exact SS G hl F (fun g hg=>ih g hg 6 (by omega)) s q s' h hs h0
  ·exact SQ G hk hks hl F (ih F (Nat.le_refl _) 0 (by omega)) s q s' h hs h0
end Go.AM
namespace Go.AM
open Go Go.RowKit
open Go.Proofs.YtmgddlckgpfccaaDoor (OP Ac AY AR str)
abbrev RM (α:Type):Type:=WK→α×WK
def AZ {α β:Type}(R:RM α)(R2:α→RM β):RM β:=fun s=>R2 (R s).1 (R s).2
def D9 {α:Type}(l:List TK0)(k:Int)(t:ByteArray)(A B:RM α):RM α:=fun s=>if BX l s k t=true then A (AF s) else B s
def B0 {α:Type}(a:α):RM α:=fun s=>(a,s)
def Bm (l:List TK0)(k:Int)(t:ByteArray):RM Unit:=fun s=>((),BC l s k t)
def DU {α:Type}(l:List TK0)(e:Int)(a:α):RM α:=fun s=>(a,BA l s e)
def Cm {α:Type}(a:α)(R:RM α):RM α:=fun s=>if s.e≠0 then (a,s) else R s
structure WkG (l:List TK0)(s:WK):Prop where
 ok:WkOk l s
 fl:s.e=0→s.fl=0
theorem DZ {l:List TK0}{s:WK}(h:WkG l s)(e:Int)(he:e≠0):WkG l (BA l s e):=by
 refine⟨(Cf h.ok e he).1,fun h0=>?_⟩;exact(CD he h0).elim
theorem BY {l:List TK0}{s:WK}(h:WkG l s)(hp:s.p<l.length):WkG l (AF s):=⟨(Av h.ok hp).1,h.fl⟩
theorem C_ {l:List TK0}{s:WK}(h:WkG l s)(k:Int)(t:ByteArray):WkG l (BC l s k t):=by
 unfold BC;split
 ·rename_i ho;exact BY h (As ho).2
 ·exact DZ h 6 (by decide)
theorem CC {l:List TK0}{s:WK}(h:WkG l s):WkG l (Ae l s).2:=by
 refine⟨(Hc h.ok).1,fun h0=>?_⟩;have h1:=Fj h0;rw[Ae] at h0 ⊢;rw[if_neg (by simpa using h1.1)] at h0 ⊢
 cases hx:l[s.p]? with
 |none=>rw[hx] at h0;exact(CD (by decide) h0).elim
 |some t=>
  rw[hx] at h0;dsimp only at h0 ⊢;split
  ·rename_i h2;rw[if_pos h2] at h0;exact(CD (by decide) h0).elim
  rename_i h2;rw[if_neg h2] at h0;split
  ·rename_i h3;rw[if_pos h3] at h0;exact(CD h3 h0).elim
  ·exact h.fl h1.1
theorem Lg {l:List TK0}{s:WK}(h:WkG l s):WkG l (Bp l s).2:=by
 refine⟨(Jb h.ok).1,fun h0=>?_⟩;have h1:=(G3 h0).1
 have e:s=⟨s.p,0,0,s.c⟩:=by
  have:=h.fl h1;cases s;simp only at this h1;subst this h1;rfl
 have h2:=K5 l s.p s.c;rw[←e] at h2;generalize Bj l s.p=x at h2
 match x,h2 with
 | .ok (some a) p,⟨_,h2⟩=>rw[h2]
 | .ok none p,⟨_,h2⟩=>rw[h2]
 | .bad e p,⟨_,h2,_,h3⟩=>exact absurd (h2.symm.trans h0) h3
def UY {α:Type}(x:PR α)(v:α)(s:WK):Prop:=match x with
 | .ok a p=>v=a∧s.p=p∧s.e=0
 | .bad e p=>s.e=e∧s.fl=p∧e≠0
theorem Alk.q {α:Type}{x:PR α}{v:α}{s:WK}{c:Nat}(h:Alk x v s c):UY x v s:=by
 cases x with
 |ok a p=>obtain⟨h1,h2⟩:=h;subst h2;exact⟨h1,rfl,rfl⟩
 |bad e p=>exact h
theorem HT {s:WK}(h:s.e=0)(h2:s.fl=0):s=⟨s.p,0,0,s.c⟩:=by
 cases s;simp only at h h2;subst h h2;rfl
structure Rel {α:Type}(l:List TK0)(R:RM α)(P:Nat→PR α):Prop where
 g: ∀s,WkG l s→WkG l (R s).2
 d: ∀s,s.e≠0→(R s).2.e=s.e∧(R s).2.fl=s.fl
 a: ∀s,WkG l s→s.e=0→UY (P s.p) (R s).1 (R s).2
theorem Ab {α β:Type}{l:List TK0}{R:RM α}{P:Nat→PR α}{R2:α→RM β}{P2:α→Nat→PR β}(h:Rel l R P)(h2: ∀a,Rel l (R2 a) (P2 a)):Rel l (AZ R R2) (fun p=>(P p).bind (P2 ·)) where
 g s hs:=(h2 _).g _ (h.g s hs)
 d s hs:=by
   obtain⟨h3,h4⟩:=h.d s hs;obtain⟨h5,h6⟩:=(h2 (R s).1).d (R s).2 (by rw[h3];exact hs);exact⟨h5.trans h3,h6.trans h4⟩
 a s hs h0:=by
   have h3:=h.a s hs h0;have h4:=h.g s hs
   cases hx:P s.p with
   |ok a p=>
    rw[hx] at h3;obtain⟨rfl,rfl,h6⟩:=h3;exact(h2 _).a _ h4 h6
   |bad e p=>
    rw[hx] at h3;obtain⟨h5,h6,h7⟩:=h3;obtain⟨h8,h9⟩:=(h2 (R s).1).d (R s).2 (by rw[h5];exact h7);exact⟨h8.trans h5,h9.trans h6,h7⟩
theorem BF {α:Type}{l:List TK0}(a:α):Rel l (B0 a) (fun p=> .ok a p):=⟨fun _ h=>h,fun _ _=>⟨rfl,rfl⟩,fun _ _ h=>⟨rfl,rfl,h⟩⟩
theorem CA {α:Type}{l:List TK0}{k:Int}{t:ByteArray}{A B:RM α}{P Q:Nat→PR α}(h1:Rel l A P)(h2:Rel l B Q):Rel l (D9 l k t A B) (fun p=>if AP l p k t=true then P (p+1) else Q p) where
 g s hs:=by
   unfold D9;split
   ·rename_i h;exact h1.g _ (BY hs (As h).2)
   ·exact h2.g _ hs
 d s hs:=by
   unfold D9;rw[Et hs];exact h2.d s hs
 a s hs h0:=by
   unfold D9;rw[Es h0];split
   ·rename_i h;exact h1.a (AF s) (BY hs (Aq h)) h0
   ·exact h2.a s hs h0
theorem Dl {α:Type}(l:List TK0)(e:Int)(he:e≠0)(a:α):Rel l (DU l e a) (fun p=>BP l p e) where
 g s hs:=DZ hs e he
 d s hs:=by unfold DU;rw[Dh hs];exact⟨rfl,rfl⟩
 a s hs h0:=by
   have:=CV (α:=α) l s.p s.c e he a 0;rw[←HT h0 (hs.fl h0)] at this;exact this.q
theorem Kr (l:List TK0)(k:Int)(t:ByteArray):Rel l (Bm l k t) (fun p=>if AP l p k t=true then PR.ok () (p+1) else BP l p 6) where
 g s hs:=C_ hs k t
 d s hs:=by unfold Bm;rw[I1 hs];exact⟨rfl,rfl⟩
 a s hs h0:=by
   have:=Kw l s.p s.c t k;rw[←HT h0 (hs.fl h0)] at this;exact this.q
theorem C1 (l:List TK0)(t:ByteArray):Rel l (Bm l 1 t) (fun p=>BH l p [t]):=Kr l 1 t
theorem CF (l:List TK0)(t:ByteArray):Rel l (Bm l 4 t) (fun p=>Ar l p t):=Kr l 4 t
theorem BN (l:List TK0):Rel l (Ae l) (D8 l) where
 g s hs:=CC hs
 d s hs:=by rw[Dz hs];exact⟨rfl,rfl⟩
 a s hs h0:=by
   have:=JH l s.p s.c;rw[←HT h0 (hs.fl h0)] at this;exact this.q
theorem Ks {α:Type}{l:List TK0}{a:α}{R:RM α}{P:Nat→PR α}(h:Rel l R P):Rel l (Cm a R) P where
 g s hs:=by
   unfold Cm;split
   ·exact hs
   ·exact h.g s hs
 d s hs:=by unfold Cm;rw[if_pos hs];exact⟨rfl,rfl⟩
 a s hs h0:=by unfold Cm;rw[if_neg (by simpa using h0)];exact h.a s hs h0
theorem FE {α β:Type}{l:List TK0}{a:α}{R:RM α}{C:α→RM β}{P:Nat→PR β}(hc: ∀s,WkG l s→WkG l (C a s).2)(hd: ∀s,s.e≠0→(C a s).2.e=s.e∧(C a s).2.fl=s.fl)(h:Rel l (AZ R C) P):Rel l (AZ (Cm a R) C) P where
 g s hs:=by
   unfold AZ Cm;split
   ·exact hc s hs
   ·exact h.g s hs
 d s hs:=by unfold AZ Cm;rw[if_pos hs];exact hd s hs
 a s hs h0:=by unfold AZ Cm;rw[if_neg (by simpa using h0)];exact h.a s hs h0
theorem Mz {α β:Type}{l:List TK0}{k:Int}{t:ByteArray}{A B:RM α}{C:α→RM β}:AZ (D9 l k t A B) C=D9 l k t (AZ A C) (AZ B C):=by
 funext s
 unfold AZ D9
 split<;>rfl
theorem Rel.cg {α:Type}{l:List TK0}{R:RM α}{P Q:Nat→PR α}(h:Rel l R P)(e: ∀p,P p=Q p):Rel l R Q:=by rw[show Q=P from funext fun p=>(e p).symm];exact h
def D4 (l:List TK0):RM (List OP):=fun s=>(Az l (16 * l.length+16) 0 {s with c:=0} []).getD ([],{s with c:=0})
theorem EW {l:List TK0}(hl:l.length≤100){s:WK}(hs:WkG l s):Az l (16 * l.length+16) 0 {s with c:=0} []=some (D4 l s):=by
 unfold D4
 by_cases h0:s.e=0
 ·obtain⟨h1,_⟩:=DH hs.ok.p hl
  obtain⟨_,h3⟩:=HV l _ 0 s.p 0 [] _ h1 hs.ok.p (by omega) (fun h=>by omega) (by omega);obtain⟨v,s',h4,_⟩:=h3 (16 * l.length+16) (by omega)
  have e:({s with c:=0}:WK)=⟨s.p,0,0,0⟩:=by
   have:=hs.fl h0;cases s;simp only at this h0;subst this h0;rfl
  rw[e];rw[if_neg (by omega)] at h4;rw[h4];rfl
 ·rw[Dg (s:={s with c:=0}) h0];rfl
theorem Fy {l:List TK0}(hl:l.length≤100):Rel l (D4 l) (DW l) where
 g s hs:=by
   have h1:=EW hl hs;have w0:WkOk l {s with c:=0}:=⟨hs.ok.p,fun _=>Nat.zero_le _,Nat.zero_le _⟩;obtain⟨w1,_⟩:=Be l _ 0 _ [] (D4 l s).1 (D4 l s).2 h1 (by omega) w0;refine⟨w1,fun h0=>?_⟩;obtain⟨h2,_⟩:=CH l _ 0 _ [] (D4 l s).1 (D4 l s).2 h1 (by omega) w0 h0;have h2:s.e=0:=h2;obtain⟨h3,_⟩:=DH hs.ok.p hl;obtain⟨_,h4⟩:=HV l _ 0 s.p 0 [] _ h3 hs.ok.p (by omega) (fun h=>by omega) (by omega);obtain⟨v,s',h5,h6⟩:=h4 (16 * l.length+16) (by omega)
   have e:({s with c:=0}:WK)=⟨s.p,0,0,0⟩:=by
    have:=hs.fl h2;cases s;simp only at this h2;subst this h2;rfl
   rw[if_neg (by omega)] at h5;rw[e,show(0:Nat)=0+0 from rfl,h5] at h1;have h1:=Option.some.inj h1;rw[←h1] at h0 ⊢
   cases hx:DW l s.p with
   |ok a p=>rw[hx] at h6;rw[h6.2]
   |bad e p=>rw[hx] at h6;exact absurd (h6.1.symm.trans h0) h6.2.2
 d s hs:=by
   unfold D4;rw[Dg (s:={s with c:=0}) hs];exact⟨rfl,rfl⟩
 a s hs h0:=by
   have h1:=EW hl hs;obtain⟨h3,_⟩:=DH hs.ok.p hl;obtain⟨_,h4⟩:=HV l _ 0 s.p 0 [] _ h3 hs.ok.p (by omega) (fun h=>by omega) (by omega);obtain⟨v,s',h5,h6⟩:=h4 (16 * l.length+16) (by omega)
   have e:({s with c:=0}:WK)=⟨s.p,0,0,0⟩:=by
    have:=hs.fl h0;cases s;simp only at this h0;subst this h0;rfl
   rw[if_neg (by omega)] at h5;rw[e,show(0:Nat)=0+0 from rfl,h5] at h1;have h1:=Option.some.inj h1;rw[←h1];exact h6.q
def D0 (l:List TK0):RM (List OP):=D9 l 1 DQ (D4 l) (B0 [])
theorem CP {l:List TK0}(hl:l.length≤100):Rel l (D0 l) (CY l):=CA (Fy hl) (BF [])
end Go.AM
namespace Go.AM
open Go Go.RowKit
open Go.Proofs.YtmgddlckgpfccaaDoor (OP Ac AY AR str)
def CZ {α:Type}(l:List TK0)(a:α):RM α:=AZ (Bm l 4 AW) fun _=>B0 a
theorem C6 {α:Type}(l:List TK0)(a:α):Rel l (CZ l a) (fun p=>(Ar l p AW).bind fun _ p=> .ok a p):=Ab (CF l AW) fun _=>BF a
def Ex (l:List TK0):RM V:=fun s=>((Bp l s).1.1,if (Bp l s).1.2=true then (Bp l s).2 else BA l (Bp l s).2 6)
theorem HR (l:List TK0):Rel l (Ex l) (fun p=>(Bj l p).bind fun o p=>match o with
  |none=>BP l p 6
  |some v=> .ok v p) where
 g s hs:=by
   unfold Ex;dsimp only;split
   ·exact Lg hs
   ·exact DZ (Lg hs) 6 (by decide)
 d s hs:=by unfold Ex;rw[JJ hs];simp[Dh hs]
 a s hs h0:=by
   have h1:=K5 l s.p s.c;rw[←HT h0 (hs.fl h0)] at h1;unfold Ex;generalize Bp l s=r at h1;generalize Bj l s.p=x at h1;obtain⟨⟨v,b⟩,s1⟩:=r
   match x,h1 with
   | .ok (some a) p,⟨h2,h3⟩=>
     cases h2;simp only at h3;subst h3;exact⟨rfl,rfl,rfl⟩
   | .ok none p,⟨h2,h3⟩=>
     cases h2;simp only at h3;subst h3;exact(CV l p s.c 6 (by decide) v0 0).q
   | .bad e p,⟨h2,h3,h4,h5⟩=>
     cases h2;dsimp only at h3 h4 ⊢;rw[if_neg (by decide),Dh (by rw[h3];exact h5)];exact⟨h3,h4,h5⟩
def HH (l:List TK0):Nat→List V→RM (List V)
 |0,out=>B0 out
 |f+1,out=>Cm out (if out.length=6 then DU l 10 out else AZ (Ex l) fun v=>D9 l 4 Au (HH l f (out++[v])) (B0 (out++[v])))
theorem OU (l:List TK0): ∀(f:Nat)(out:List V),f+1+out.length=7→Rel l (AZ (HH l (f+1) out) (CZ l)) (fun p=>Jq l (f+1) p out):=by
 intro f
 induction f with
 |zero=>
  intro out h;refine FE (C6 l out).g (C6 l out).d ?_;rw[if_pos (by omega)];refine(Ab (Dl l 10 (by decide) out) fun a=>C6 l a).cg fun p=>?_;rw[GY,if_pos (by omega)];rfl
 |succ f ih=>
  intro out h;rw[HH];refine FE (C6 l out).g (C6 l out).d ?_
  by_cases h6:out.length=6
  ·omega
  rw[if_neg h6];refine(Ab (R2:=fun v=>AZ (D9 l 4 Au (HH l (f+1) (out++[v])) (B0 (out++[v]))) (CZ l)) (P2:=fun v p=>if AP l p 4 Au=true then Jq l (f+1) (p+1) (out++[v]) else (Ar l p AW).bind fun _ p=> .ok (out++[v]) p) (HR l) fun v=>?_).cg fun p=>?_
  ·rw[Mz]
   exact CA (ih (out++[v]) (by rw[List.length_append];simp only[List.length_cons,List.length_nil];omega)) (C6 l (out++[v]))
  ·rw[GY,if_neg h6]
   cases Bj l p with
   |bad e q=>rfl
   |ok o q=>cases o<;>rfl
def EQ (l:List TK0):RM (List V):=AZ (Bm l 4 Ax) fun _=>AZ (HH l 7 []) (CZ l)
theorem Jt (l:List TK0):Rel l (EQ l) (Ix l):=Ab (CF l Ax) fun _=>OU l 6 [] rfl
def Db (l:List TK0)(out:List CO):RM ByteArray:=fun s=>((Ae l s).1,if (Ae l s).2.e=0∧out.any (fun x=>x.nm.toList==(Ae l s).1.toList)=true then BA l {(Ae l s).2 with p:=s.p} 9 else (Ae l s).2)
theorem EP (l:List TK0)(out:List CO):Rel l (Db l out) (fun p=>(D8 l p).bind fun s p=>if out.any (fun x=>x.nm.toList==s.toList)=true then BP l (p - 1) 9 else .ok s p) where
 g s hs:=by
   unfold Db;dsimp only;have h1:=CC hs;split
   ·exact DZ (s:={(Ae l s).2 with p:=s.p}) ⟨⟨hs.ok.p,h1.ok.live,h1.ok.c⟩,h1.fl⟩ 9 (by decide)
   ·exact h1
 d s hs:=by unfold Db;rw[Dz hs,if_neg (fun h=>hs h.1)];exact⟨rfl,rfl⟩
 a s hs h0:=by
   have h1:=(BN l).a s hs h0;unfold Db
   cases hx:D8 l s.p with
   |bad e p=>
    rw[hx] at h1;obtain⟨h2,h3,h4⟩:=h1;rw[if_neg (fun h=>h4 (h2.symm.trans h.1))];exact⟨h2,h3,h4⟩
   |ok nm p=>
    obtain⟨rfl,hp⟩:=Co hx;rw[hx] at h1;obtain⟨h2,h3,h4⟩:=h1;rw[Ad,h2];cases hd:out.any (fun x=>x.nm.toList==nm.toList)
    ·rw[if_neg (by decide),if_neg (fun h=>Bool.false_ne_true h.2)]
     exact⟨rfl,h3,h4⟩
    ·rw[if_pos rfl,if_pos ⟨h4,rfl⟩,Nat.add_sub_cancel]
     have:=(CV (α:=ByteArray) l s.p (Ae l s).2.c 9 (by decide) nm 0).q
     have e:({(Ae l s).2 with p:=s.p}:WK)=⟨s.p,0,0,(Ae l s).2.c⟩:=by
      have h5:=(CC hs).fl h4;generalize (Ae l s).2=s1 at h4 h5;cases s1;simp only at h4 h5;subst h4 h5;rfl
     rw[e];exact this
def Qo (l:List TK0):RM Int:=D9 l 1 (str [66,79,79,76]) (B0 1) (D9 l 1 (str [73,78,84]) (B0 2) (D9 l 1 (str [84,69,88,84]) (B0 3) (DU l 6 0)))
theorem Js (l:List TK0):Rel l (Qo l) (fun p=>if FR l p=0 then BP l p 6 else .ok (FR l p) (p+1)):=
 (CA (BF 1) (CA (BF 2) (CA (BF 3) (Dl l 6 (by decide) 0)))).cg fun p=>by
  unfold FR;split
  ·rfl
  split
  ·rfl
  split<;>rfl
def Ef (l:List TK0):Nat→List CO→RM (List CO)
 |0,out=>B0 out
 |f+1,out=>Cm out (if out.length=6 then DU l 10 out else AZ (Db l out) fun nm=>AZ (Qo l) fun k=>D9 l 4 Au (Ef l f (out++[⟨nm,k⟩])) (B0 (out++[⟨nm,k⟩])))
theorem NM (l:List TK0): ∀(f:Nat)(out:List CO),f+1+out.length=7→Rel l (AZ (Ef l (f+1) out) (CZ l)) (fun p=>Fb l (f+1) p out):=by
 intro f
 induction f with
 |zero=>
  intro out h;refine FE (C6 l out).g (C6 l out).d ?_;rw[if_pos (by omega)];refine(Ab (Dl l 10 (by decide) out) fun a=>C6 l a).cg fun p=>?_;rw[Fq,if_pos (by omega)];rfl
 |succ f ih=>
  intro out h;rw[Ef];refine FE (C6 l out).g (C6 l out).d ?_
  by_cases h6:out.length=6
  ·omega
  rw[if_neg h6];refine(Ab (R2:=fun nm=>AZ (Qo l) fun k=>AZ (D9 l 4 Au (Ef l (f+1) (out++[⟨nm,k⟩])) (B0 (out++[⟨nm,k⟩]))) (CZ l)) (P2:=fun nm p=>(if FR l p=0 then BP l p 6 else .ok (FR l p) (p+1):PR Int).bind fun k p=>if AP l p 4 Au=true then Fb l (f+1) (p+1) (out++[⟨nm,k⟩]) else (Ar l p AW).bind fun _ p=> .ok (out++[⟨nm,k⟩]) p) (EP l out) fun nm=>?_).cg fun p=>?_
  ·refine Ab (P2:=fun k p=>if AP l p 4 Au=true then Fb l (f+1) (p+1) (out++[⟨nm,k⟩]) else (Ar l p AW).bind fun _ p=> .ok (out++[⟨nm,k⟩]) p) (Js l) fun k=>?_
   rw[Mz];exact CA (ih (out++[⟨nm,k⟩]) (by rw[List.length_append];simp only[List.length_cons,List.length_nil];omega)) (C6 l (out++[⟨nm,k⟩]))
  ·rw[Fq,if_neg h6]
   cases D8 l p with
   |bad e q=>rfl
   |ok nm q=>
    simp only[Ad];split
    ·rfl
    rw[Ad];split
    ·rfl
    ·rfl
def Dn (l:List TK0):RM (List CO):=AZ (Bm l 4 Ax) fun _=>AZ (Ef l 7 []) (CZ l)
theorem Hs (l:List TK0):Rel l (Dn l) (Fa l):=Ab (CF l Ax) fun _=>NM l 6 [] rfl
def ER (l:List TK0):Nat→List ByteArray→RM (List ByteArray)
 |0,out=>B0 out
 |f+1,out=>Cm out (if out.length=6 then DU l 10 out else AZ (Ae l) fun nm=>D9 l 4 Au (ER l f (out++[nm])) (B0 (out++[nm])))
theorem JC (l:List TK0): ∀(f:Nat)(out:List ByteArray),f+1+out.length=7→Rel l (ER l (f+1) out) (fun p=>Dp l (f+1) p out):=by
 intro f
 induction f with
 |zero=>
  intro out h;refine Ks ?_;rw[if_pos (by omega)]
  exact(Dl l 10 (by decide) out).cg fun p=>by rw[Dy,if_pos (by omega)]
 |succ f ih=>
  intro out h;rw[ER];refine Ks ?_
  by_cases h6:out.length=6
  ·omega
  rw[if_neg h6];refine(Ab (BN l) fun nm=>CA (ih (out++[nm]) (by rw[List.length_append];simp only[List.length_cons,List.length_nil];omega)) (BF (out++[nm]))).cg fun p=>?_;rw[Dy,if_neg h6]
def PB (l:List TK0):RM (List ByteArray×Bool):=AZ (Bm l 4 Ax) fun _=>AZ (Bm l 4 BQ) fun _=>AZ (Bm l 4 AW) fun _=>B0 ([],true)
def KX (l:List TK0):RM (List ByteArray×Bool):=D9 l 1 D6 (PB l) (D9 l 4 BQ (B0 ([],false)) (AZ (ER l 7 []) fun ns=>B0 (ns,false)))
theorem Po {l:List TK0}{p:Nat}{t u:ByteArray}(h:AP l p 1 t=true):AP l p 4 u=false:=by
 unfold AP at h ⊢
 cases hx:l[p]? with
 |none=>rfl
 |some x=>
  rw[hx] at h;simp only[Bool.and_eq_true,beq_iff_eq] at h;simp[h.1]
theorem Hq (l:List TK0):Rel l (KX l) (Cs l):=
 (CA (Ab (CF l Ax) fun _=>Ab (CF l BQ) fun _=>Ab (CF l AW) fun _=>BF ([],true)) (CA (BF ([],false)) (Ab (JC l 6 [] rfl) fun ns=>BF (ns,false)))).cg fun p=>by
  unfold Cs;cases h1:AP l p 1 D6
  ·simp only[Bool.false_eq_true,if_false]
  ·rw[Po h1]
   simp only[Bool.false_eq_true,if_false,if_true]
def Pk (l:List TK0):RM (ByteArray×Bool):=D9 l 1 DR (AZ (Bm l 1 O0) fun _=>AZ (Ae l) fun nm=>AZ (fun s=>Bv l s 1 F5) fun d=>B0 (nm,d)) (B0 (str [],false))
theorem Ty {l:List TK0}{k:Int}{t:ByteArray}:(fun s=>Bv l s k t)=D9 l k t (B0 true) (B0 false):=rfl
theorem Ju (l:List TK0):Rel l (Pk l) (Jy l):=by
 refine(CA (Ab (C1 l O0) fun _=>Ab (BN l) fun nm=>Ab (CA (BF true) (BF false)) fun d=>BF (nm,d)) (BF (str [],false))).cg fun p=>?_;unfold Jy;split
 ·cases BH l (p+1) [O0] with
  |bad e q=>rfl
  |ok u q=>
   rw[Ad,Ad]
   cases D8 l q with
   |bad e q=>rfl
   |ok nm q=>
    rw[Ad,Ad]
    split<;>rfl
 ·rfl
def NP (l:List TK0):RM Int:=fun s=>match Bw l s.p with
 |some n=>(n,AF s)
 |none=>(-1,BA l s 6)
theorem Pj (l:List TK0):Rel l (NP l) (fun p=>match Bw l p with
  |some n=> .ok n (p+1)
  |none=>BP l p 6) where
 g s hs:=by
   unfold NP
   cases hn:Bw l s.p with
   |some n=>exact BY hs (Eu hn)
   |none=>exact DZ hs 6 (by decide)
 d s hs:=by
   unfold NP
   cases hn:Bw l s.p with
   |some n=>exact⟨rfl,rfl⟩
   |none=>dsimp only;rw[Dh hs];exact⟨rfl,rfl⟩
 a s hs h0:=by
   unfold NP
   cases hn:Bw l s.p with
   |some n=>exact⟨rfl,rfl,h0⟩
   |none=>exact(Dl l 6 (by decide) (-1:Int)).a s hs h0
def Pv (l:List TK0):RM Int:=D9 l 1 DS (NP l) (B0 (-1))
theorem Mf (l:List TK0):Rel l (Pv l) (G_ l):=(CA (Pj l) (BF (-1))).cg fun p=>by unfold G_;rfl
def Hw (l:List TK0):RM ST:=AZ (KX l) fun w=>AZ (Bm l 1 CI) fun _=>AZ (Ae l) fun t=>AZ (D0 l) fun wh=>AZ (Pk l) fun o=>AZ (Pv l) fun n=>B0 ⟨4,t,[],[],w.1,w.2,wh,o.1,o.2,n,str [],[]⟩
theorem Kq {l:List TK0}(hl:l.length≤100):Rel l (Hw l) (Ee l):=
 Ab (Hq l) fun w=>Ab (C1 l CI) fun _=>Ab (BN l) fun t=>Ab (CP hl) fun wh=>Ab (Ju l) fun o=>Ab (Mf l) fun n=>BF _
def Mu (l:List TK0):RM ST:=AZ (Bm l 1 Bk) fun _=>AZ (Ae l) fun t=>AZ (Dn l) fun cs=>B0 {Cw 1 t with cols:=cs}
def Qh (l:List TK0):RM ST:=AZ (Bm l 1 Bk) fun _=>AZ (Ae l) fun t=>B0 (Cw 2 t)
def Mm (l:List TK0):RM ST:=AZ (Bm l 1 ED) fun _=>AZ (Ae l) fun t=>AZ (Bm l 1 Cg) fun _=>AZ (EQ l) fun r=>B0 {Cw 3 t with row:=r}
def Mb (l:List TK0):RM ST:=AZ (Ae l) fun t=>AZ (Bm l 1 GS) fun _=>AZ (Ae l) fun s=>AZ (Bm l 4 JQ) fun _=>AZ (D4 l) fun to=>AZ (D0 l) fun wh=>B0 {Cw 5 t with set:=s,to:=to,wh:=wh}
def Mt (l:List TK0):RM ST:=AZ (Bm l 1 CI) fun _=>AZ (Ae l) fun t=>AZ (D0 l) fun wh=>B0 {Cw 6 t with wh:=wh}
def Ak (l:List TK0):RM ST:=D9 l 1 AL (Mu l) (D9 l 1 B1 (Qh l) (D9 l 1 AX (Mm l) (D9 l 1 Af (Hw l) (D9 l 1 Ao (Mb l) (D9 l 1 B2 (Mt l) (D9 l 1 Bd (B0 (Cw 7 (str []))) (D9 l 1 Bf (B0 (Cw 8 (str []))) (D9 l 1 B_ (B0 (Cw 9 (str []))) (DU l 6 (Cw 0 (str [])))))))))))
theorem Hr {l:List TK0}(hl:l.length≤100):Rel l (Ak l) (BG l):=by
 refine(CA (Ab (C1 l Bk) fun _=>Ab (BN l) fun t=>Ab (Hs l) fun cs=>BF {Cw 1 t with cols:=cs})
  (CA (Ab (C1 l Bk) fun _=>Ab (BN l) fun t=>BF (Cw 2 t))
  (CA (Ab (C1 l ED) fun _=>Ab (BN l) fun t=>Ab (C1 l Cg) fun _=>Ab (Jt l) fun r=>BF {Cw 3 t with row:=r})
  (CA (Kq hl)
  (CA (Ab (BN l) fun t=>Ab (C1 l GS) fun _=>Ab (BN l) fun s=>Ab (CF l JQ) fun _=>Ab (Fy hl) fun to=>Ab (CP hl) fun wh=>BF {Cw 5 t with set:=s,to:=to,wh:=wh})
  (CA (Ab (C1 l CI) fun _=>Ab (BN l) fun t=>Ab (CP hl) fun wh=>BF {Cw 6 t with wh:=wh})
  (CA (BF (Cw 7 (str []))) (CA (BF (Cw 8 (str []))) (CA (BF (Cw 9 (str []))) (Dl l 6 (by decide) (Cw 0 (str [])))))))))))).cg fun p=>?_
 rfl
def MK (l:List TK0)(s:WK):WK:=if s.e=0∧s.p<l.length then BA l s 6 else s
def w0:WK:=⟨0,0,0,0⟩
theorem OB (l:List TK0):WkG l w0:=⟨⟨Nat.zero_le _,fun _=>Nat.zero_le _,Nat.zero_le _⟩,fun _=>rfl⟩
theorem N4 {l:List TK0}(hl:l.length≤100):UY (Fe l) (Ak l w0).1 (MK l (Ak l w0).2):=by
 have h1:=(Hr hl).a w0 (OB l) rfl;have h2:=(Hr hl).g w0 (OB l);unfold Fe;change UY (BG l 0) _ _ at h1
 cases hx:BG l 0 with
 |bad e p=>
  rw[hx] at h1;obtain⟨h3,h4,h5⟩:=h1;rw[BU,MK,if_neg (fun h=>h5 (h3.symm.trans h.1))];exact⟨h3,h4,h5⟩
 |ok s p=>
  rw[hx] at h1;obtain⟨h3,h4,h5⟩:=h1;rw[Ad,MK,←h4]
  by_cases h6:(Ak l w0).2.p<l.length
  ·rw[if_pos h6,if_pos ⟨h5,h6⟩]
   exact(Dl l 6 (by decide) (Ak l w0).1).a _ h2 h5
  ·rw[if_neg h6,if_neg (fun h=>h6 h.2)]
   exact⟨h3,rfl,h5⟩
end Go.AM
namespace Go.AM
open Go Go.RowKit
open Go.Proofs.YtmgddlckgpfccaaDoor (OP Ac AY AR str)
theorem Fu {α β:Type}(f:α→β)(q:List α):(q.map f).take q.length=q.map f:=List.take_of_length_le (by simp)
attribute [local irreducible] AWP BS
set_option maxHeartbeats 8000000 in
theorem JM (G:List (Nat×List Value)){l:List TK0}(hk: ∀t ∈ l,TokOk t)(hks: ∀t ∈ l,Fh t.s)(hl:l.length≤100)(s:WK)(hs:WkG l s):
  Con prog G 43 [.p 0 0 0] (Aj l s) 1 (Is (.ro true 5 ((D4 l s).1.map eO)) (Aj l (D4 l s).2) 1) No:=by
 have h1:=EW hl hs;have lv:=SP G hk hks hl _ _ (Nat.le_refl _) 0 (by omega) {s with c:=0} (D4 l s).1 (D4 l s).2 h1 ⟨hs.ok.p,fun _=>Nat.zero_le _,Nat.zero_le _⟩;generalize D4 l s=r at lv;have tk:=Fu eO r.1;unfold Aj B4 at *;refine A8 func43 rfl (by kernel_rfl) (of_decide_eq_true (by kernel_rfl)) ?_;intro E hG hE;subst hG;simp only[Ai];(repeat' (first |refine A6 ?_ |refine A2 ?_ |refine A3 ?_ |refine A5 ?_ |((first |refine rR (fun K kp hK hkp=>?_) |refine oR [0] lv ?_ |refine iG ?_);simp(implicitDefEqProofs:=false) (maxSteps:=2000000) (disch:=omega) only[go_sem];(repeat' (first |(refine hK _ ?_;clear hK hkp kp K) |(with_reducible refine And.intro ?_ ?_) |omega))) |((first |refine aG (fun h=>?_) (fun h=>?_) |refine aD (fun h=>?_) (fun h=>?_) |refine aX (fun h=>?_) (fun h=>?_))<;>simp only[h]) |refine A0 rfl ?_ |refine A1 rfl ?_ |((refine A4 rfl (fun h=>?_) (fun h=>?_)<;>try simp only[AK] at h)<;>(try (exfalso;omega))) |refine A7 ?_));(refine AB (by(simp(implicitDefEqProofs:=false) (maxSteps:=2000000) (disch:=omega) only[go_sem,results43,tk]);rfl) ?_;refine CJ (by simp only[AI];simp(implicitDefEqProofs:=false) (maxSteps:=2000000) (disch:=omega) only[go_sem,tk];rfl) ?_;refine(AC hE [0] rfl ?_ ?_).s<;>simp[AI,AH,lk,ren,renL,A9,AG,tk])
set_option maxHeartbeats 8000000 in
theorem Ei (G:List (Nat×List Value)){l:List TK0}(hk: ∀t ∈ l,TokOk t)(hks: ∀t ∈ l,Fh t.s)(hl:l.length≤100)(s:WK)(hs:WkG l s):
  Con prog G 44 [.p 0 0 0] (Aj l s) 1 (Is (.ro true 5 ((D0 l s).1.map eO)) (Aj l (D0 l s).2) 1) No:=by
 have hp:=hs.ok.p;unfold D0 D9;cases ho:BX l s 1 DQ
 ·have e1:=AJ G l s 1 DQ hl (by omega) ho
  simp only[DQ,str] at e1;rw[if_neg (by decide)];unfold B0;dsimp only;refine Bt (y:= .r (.slice none 0 0)) ?_ (fun w z th v h=>?_)
  ·unfold Aj at *
   refine A8 func44 rfl (by kernel_rfl) (of_decide_eq_true (by kernel_rfl)) ?_;intro E hG hE;subst hG;simp only[Ai];(repeat' (first |refine A6 ?_ |refine A2 ?_ |refine A3 ?_ |refine A5 ?_ |((first |refine rR (fun K kp hK hkp=>?_) |refine oR [0] e1 ?_ |refine iG ?_);simp(implicitDefEqProofs:=false) (maxSteps:=2000000) (disch:=omega) only[go_sem];(repeat' (first |(refine hK _ ?_;clear hK hkp kp K) |(with_reducible refine And.intro ?_ ?_) |omega))) |((first |refine aG (fun h=>?_) (fun h=>?_) |refine aD (fun h=>?_) (fun h=>?_) |refine aX (fun h=>?_) (fun h=>?_))<;>simp only[h]) |refine A0 rfl ?_ |refine A1 rfl ?_ |((refine A4 rfl (fun h=>?_) (fun h=>?_)<;>try simp only[AK] at h)<;>(try (exfalso;omega))) |refine A7 ?_));(refine AB (by(simp(implicitDefEqProofs:=false) (maxSteps:=2000000) (disch:=omega) only[go_sem,results44]);rfl) ?_;refine(AC hE [0] rfl ?_ ?_).s<;>simp[AI,AH,lk,ren,renL,A9,AG])
  ·exact C9 (by simp[wk,GJ]) h
 ·have e1:=B6 G l s 1 DQ hl (by omega) ho
  simp only[DQ,str] at e1;rw[if_pos rfl];have ec:=JM G hk hks hl (AF s) (BY hs (As ho).2);unfold Aj at *;refine A8 func44 rfl (by kernel_rfl) (of_decide_eq_true (by kernel_rfl)) ?_;intro E hG hE;subst hG;simp only[Ai];(repeat' (first |refine A6 ?_ |refine A2 ?_ |refine A3 ?_ |refine A5 ?_ |((first |refine rR (fun K kp hK hkp=>?_) |refine oR [0] e1 ?_ |refine oR [0] ec ?_ |refine iG ?_);simp(implicitDefEqProofs:=false) (maxSteps:=2000000) (disch:=omega) only[go_sem];(repeat' (first |(refine hK _ ?_;clear hK hkp kp K) |(with_reducible refine And.intro ?_ ?_) |omega))) |((first |refine aG (fun h=>?_) (fun h=>?_) |refine aD (fun h=>?_) (fun h=>?_) |refine aX (fun h=>?_) (fun h=>?_))<;>simp only[h]) |refine A0 rfl ?_ |refine A1 rfl ?_ |((refine A4 rfl (fun h=>?_) (fun h=>?_)<;>try simp only[AK] at h)<;>(try (exfalso;omega))) |refine A7 ?_));(refine AB (by(simp(implicitDefEqProofs:=false) (maxSteps:=2000000) (disch:=omega) only[go_sem,results44]);rfl) ?_;refine(AC hE [0] rfl ?_ ?_).s<;>simp[AI,AH,lk,ren,renL,A9,AG])
theorem NJ {l:List TK0}{f:Nat}{out:List V}:HH l (f+1) out=Cm out (if out.length=6 then DU l 10 out else AZ (Ex l) fun v=>D9 l 4 Au (HH l f (out++[v])) (B0 (out++[v]))):=rfl
set_option maxHeartbeats 16000000 in
theorem M0 (G:List (Nat×List Value)){l:List TK0}(hk: ∀t ∈ l,TokOk t)(hl:l.length≤100)(s:WK)(hs:WkG l s):
  Con prog G 41 [.p 0 0 0] (Aj l s) 1 (Is (.ro true 3 ((EQ l s).1.map eV)) (Aj l (EQ l s).2) 1) No:=by
 have hp:=hs.ok.p;have e1:=B5 G l s 4 Ax hl (by omega);simp only[Ax,str] at e1;have w1:=C_ hs 4 Ax;unfold EQ Bm;rw[AZ];dsimp only;simp only[Ax,str] at w1 ⊢;generalize BC l s 4 {data:=[40].toArray}=s1 at e1 w1 ⊢;obtain⟨r,hr⟩: ∃r,r=AZ (HH l 7 []) (CZ l) s1:=⟨_,rfl⟩;rw[←hr];unfold Aj at *;refine A8 func41 rfl (by kernel_rfl) (of_decide_eq_true (by kernel_rfl)) ?_;intro E hG hE;subst hG;simp only[Ai];(repeat' (first |refine A6 ?_ |refine A2 ?_ |refine A3 ?_ |refine A5 ?_ |((first |refine rR (fun K kp hK hkp=>?_) |refine oR [0] e1 ?_ |refine iG ?_);simp(implicitDefEqProofs:=false) (maxSteps:=2000000) (disch:=omega) only[go_sem];(repeat' (first |(refine hK _ ?_;clear hK hkp kp K) |(with_reducible refine And.intro ?_ ?_) |omega))) |((first |refine aG (fun h=>?_) (fun h=>?_) |refine aD (fun h=>?_) (fun h=>?_) |refine aX (fun h=>?_) (fun h=>?_))<;>simp only[h]) |refine A0 rfl ?_ |refine A1 rfl ?_ |((refine A4 rfl (fun h=>?_) (fun h=>?_)<;>try simp only[AK] at h)<;>(try (exfalso;omega))) |refine A7 ?_));(refine AWP.emb (GD 3 71 3 ?_) ?_;(·rfl);dsimp only);refine Ap (fun z:Nat×WK×List V=>⟨[(3,.s 1 0 z.2.2.length),(0,.p 0 0 0)],Aj l z.2.1++[(1,.lst 71 3 (z.2.2.map eV))],2⟩) (fun z=>1≤z.1∧z.1+z.2.2.length=7∧AZ (HH l z.1 z.2.2) (CZ l) z.2.1=r∧WkG l z.2.1) (fun z=>z.1) (7,s1,[]) ?_ ?_ ?_
 ·exact⟨by omega,rfl,hr.symm,w1⟩
 ·unfold Aj
  (refine Am hE [0,1] rfl ?_ ?_<;>simp[Bi,AH,lk,ren,renL,A9,AG]<;>(try omega))
 clear e1 hr;rintro⟨g,s,vs⟩ ⟨h0,h1,h2,w1⟩;dsimp only at h0 h1 h2 w1 ⊢;have hp:=w1.ok.p;unfold Aj;simp only[List.cons_append,List.nil_append]
 cases g with
 |zero=>omega
 |succ g=>
 rw[NJ] at h2;unfold AZ Cm at h2;have tk:=Fu eV vs
 by_cases hd:s.e=0
 rotate_left
 ·have d0:(s.e==0)=false:=by simpa using hd
  rw[if_pos hd] at h2;have ec:=B5 E.G l s 4 AW hl (by omega);simp only[AW,str] at ec;subst h2;unfold CZ AZ Bm B0;unfold Aj at *;simp only[AW,str];(repeat' (first |refine A6 ?_ |refine A2 ?_ |refine A3 ?_ |refine A5 ?_ |((first |refine rR (fun K kp hK hkp=>?_) |refine oR [0] ec ?_ |refine iG ?_);simp(implicitDefEqProofs:=false) (maxSteps:=2000000) (disch:=omega) only[go_sem,d0];(repeat' (first |(refine hK _ ?_;clear hK hkp kp K) |(with_reducible refine And.intro ?_ ?_) |omega))) |((first |refine aG (fun h=>?_) (fun h=>?_) |refine aD (fun h=>?_) (fun h=>?_) |refine aX (fun h=>?_) (fun h=>?_))<;>simp only[h]) |refine A0 rfl ?_ |refine A1 rfl ?_ |((refine A4 rfl (fun h=>?_) (fun h=>?_)<;>try simp only[AK] at h)<;>(try (exfalso;omega))) |refine A7 ?_));(refine AB (by(simp(implicitDefEqProofs:=false) (maxSteps:=2000000) (disch:=omega) only[go_sem,results41,tk]);rfl) ?_;refine CJ (by simp only[AI];simp(implicitDefEqProofs:=false) (maxSteps:=2000000) (disch:=omega) only[go_sem,tk];rfl) ?_;refine(AC hE [0] rfl ?_ ?_).s<;>simp[AI,AH,lk,ren,renL,A9,AG,tk])
 have d0:(s.e==0)=true:=by simpa using hd
 rw[if_neg (by simpa using hd)] at h2
 by_cases h6:vs.length=6
 ·rw[if_pos h6] at h2
  have d1:((vs.length:Int)==6)=true:=by simp only[beq_iff_eq];omega
  have w2:=DZ w1 10 (by decide);have sc:=Bl E.G l s 10 hl (by omega);have ec:=B5 E.G l (BA l s 10) 4 AW hl (by have:=w2.ok.p;omega);simp only[AW,str] at ec;subst h2;unfold CZ AZ Bm B0 DU;unfold Aj at *;simp only[AW,str];(repeat' (first |refine A6 ?_ |refine A2 ?_ |refine A3 ?_ |refine A5 ?_ |((first |refine rR (fun K kp hK hkp=>?_) |refine oR [0] sc ?_ |refine oR [0] ec ?_ |refine iG ?_);simp(implicitDefEqProofs:=false) (maxSteps:=2000000) (disch:=omega) only[go_sem,d0,d1];(repeat' (first |(refine hK _ ?_;clear hK hkp kp K) |(with_reducible refine And.intro ?_ ?_) |omega))) |((first |refine aG (fun h=>?_) (fun h=>?_) |refine aD (fun h=>?_) (fun h=>?_) |refine aX (fun h=>?_) (fun h=>?_))<;>simp only[h]) |refine A0 rfl ?_ |refine A1 rfl ?_ |((refine A4 rfl (fun h=>?_) (fun h=>?_)<;>try simp only[AK] at h)<;>(try (exfalso;omega))) |refine A7 ?_));(refine AB (by(simp(implicitDefEqProofs:=false) (maxSteps:=2000000) (disch:=omega) only[go_sem,results41,tk]);rfl) ?_;refine CJ (by simp only[AI];simp(implicitDefEqProofs:=false) (maxSteps:=2000000) (disch:=omega) only[go_sem,tk];rfl) ?_;refine(AC hE [0] rfl ?_ ?_).s<;>simp[AI,AH,lk,ren,renL,A9,AG,tk])
 rw[if_neg h6] at h2
 have d1:((vs.length:Int)==6)=false:=by simp only[beq_eq_false_iff_ne,ne_eq];omega
 have lc:=L9 E.G l s hk hl (by omega);have w2:=Lg w1;have w3:=(HR l).g s w1;unfold Ex at h2;unfold Ex at w3;dsimp only at h2 w3;obtain⟨b,hb⟩: ∃b,b=(Bp l s).1.2:=⟨_,rfl⟩;obtain⟨v,hv⟩: ∃v,v=(Bp l s).1.1:=⟨_,rfl⟩;rw[←hb,←hv] at h2 lc;rw[←hb] at w3;generalize (Bp l s).2=s2 at h2 lc w2 w3;obtain⟨s3,hs3⟩: ∃s3,s3=(if b=true then s2 else BA l s2 6):=⟨_,rfl⟩;rw[←hs3] at h2 w3;have hp3:=w3.ok.p
 have tk2:(vs.map eV++[[AV.r (.int .i64 v.k),AV.r (.int .i64 v.n),AV.r (.string v.s)]]).take (vs.length+1)=(vs++[v]).map eV:=by
  rw[List.take_of_length_le (by simp),List.map_append];rfl
 have tk3:vs.map eV++[[AV.r (.int .i64 v.k),AV.r (.int .i64 v.n),AV.r (.string v.s)]]=(vs++[v]).map eV:=by
  rw[List.map_append];rfl
 cases ho:BX l s3 4 Au
 ·have tc:=AJ E.G l s3 4 Au hl (by omega) ho
  have ec:=B5 E.G l s3 4 AW hl (by omega);simp only[Au,AW,str] at tc ec;unfold D9 at h2;rw[ho,if_neg (by decide)] at h2;subst h2;unfold CZ AZ Bm B0;simp only[AW,str];cases b
  ·have sc:=Bl E.G l s2 6 hl (by have:=w2.ok.p;omega)
   rw[if_neg (by decide)] at hs3;rw[←hs3] at sc;unfold Aj eV at *;(repeat' (first |refine A6 ?_ |refine A2 ?_ |refine A3 ?_ |refine A5 ?_ |((first |refine rR (fun K kp hK hkp=>?_) |refine oR [0] lc ?_ |refine oR [0] sc ?_ |refine oR [0] tc ?_ |refine oR [0] ec ?_ |refine iG ?_);simp(implicitDefEqProofs:=false) (maxSteps:=2000000) (disch:=omega) only[go_sem,d0,d1];(repeat' (first |(refine hK _ ?_;clear hK hkp kp K) |(with_reducible refine And.intro ?_ ?_) |omega))) |((first |refine aG (fun h=>?_) (fun h=>?_) |refine aD (fun h=>?_) (fun h=>?_) |refine aX (fun h=>?_) (fun h=>?_))<;>simp only[h]) |refine A0 rfl ?_ |refine A1 rfl ?_ |((refine A4 rfl (fun h=>?_) (fun h=>?_)<;>try simp only[AK] at h)<;>(try (exfalso;omega))) |refine A7 ?_));(refine AB (by(simp(implicitDefEqProofs:=false) (maxSteps:=2000000) (disch:=omega) only[go_sem,results41,tk2]);rfl) ?_;refine CJ (by simp only[AI];simp(implicitDefEqProofs:=false) (maxSteps:=2000000) (disch:=omega) only[go_sem,tk2];rfl) ?_;refine(AC hE [0] rfl ?_ ?_).s<;>simp[AI,AH,lk,ren,renL,A9,AG,tk2])
  ·rw[if_pos rfl] at hs3
   subst hs3;unfold Aj eV at *;(repeat' (first |refine A6 ?_ |refine A2 ?_ |refine A3 ?_ |refine A5 ?_ |((first |refine rR (fun K kp hK hkp=>?_) |refine oR [0] lc ?_ |refine oR [0] tc ?_ |refine oR [0] ec ?_ |refine iG ?_);simp(implicitDefEqProofs:=false) (maxSteps:=2000000) (disch:=omega) only[go_sem,d0,d1];(repeat' (first |(refine hK _ ?_;clear hK hkp kp K) |(with_reducible refine And.intro ?_ ?_) |omega))) |((first |refine aG (fun h=>?_) (fun h=>?_) |refine aD (fun h=>?_) (fun h=>?_) |refine aX (fun h=>?_) (fun h=>?_))<;>simp only[h]) |refine A0 rfl ?_ |refine A1 rfl ?_ |((refine A4 rfl (fun h=>?_) (fun h=>?_)<;>try simp only[AK] at h)<;>(try (exfalso;omega))) |refine A7 ?_));(refine AB (by(simp(implicitDefEqProofs:=false) (maxSteps:=2000000) (disch:=omega) only[go_sem,results41,tk2]);rfl) ?_;refine CJ (by simp only[AI];simp(implicitDefEqProofs:=false) (maxSteps:=2000000) (disch:=omega) only[go_sem,tk2];rfl) ?_;refine(AC hE [0] rfl ?_ ?_).s<;>simp[AI,AH,lk,ren,renL,A9,AG,tk2])
 ·have tc:=B6 E.G l s3 4 Au hl (by omega) ho
  simp only[Au,str] at tc;have w4:=BY w3 (As ho).2;unfold D9 at h2;rw[ho,if_pos rfl] at h2;cases b
  ·have sc:=Bl E.G l s2 6 hl (by have:=w2.ok.p;omega)
   rw[if_neg (by decide)] at hs3;rw[←hs3] at sc;unfold Aj eV at *;(repeat' (first |refine A6 ?_ |refine A2 ?_ |refine A3 ?_ |refine A5 ?_ |((first |refine rR (fun K kp hK hkp=>?_) |refine oR [0] lc ?_ |refine oR [0] sc ?_ |refine oR [0] tc ?_ |refine iG ?_);simp(implicitDefEqProofs:=false) (maxSteps:=2000000) (disch:=omega) only[go_sem,d0,d1];(repeat' (first |(refine hK _ ?_;clear hK hkp kp K) |(with_reducible refine And.intro ?_ ?_) |omega))) |((first |refine aG (fun h=>?_) (fun h=>?_) |refine aD (fun h=>?_) (fun h=>?_) |refine aX (fun h=>?_) (fun h=>?_))<;>simp only[h]) |refine A0 rfl ?_ |refine A1 rfl ?_ |((refine A4 rfl (fun h=>?_) (fun h=>?_)<;>try simp only[AK] at h)<;>(try (exfalso;omega))) |refine A7 ?_))
   ((first |(refine Ba ((g,AF s3,vs++[v])) ?_ ?_ ?_) |(refine BT ((g,AF s3,vs++[v])) ?_ ?_ ?_) |(refine nextE ((g,AF s3,vs++[v])) ?_ ?_ ?_));rotate_left;(·(try dsimp only);(first |omega |(simp only[List.length_drop,List.length_cons,List.length_append];omega) |(simp;done) |(simp;omega)));(·(refine Am hE [0,4] rfl ?_ ?_<;>simp[Bi,AH,lk,ren,renL,A9,AG,Aj,eV]<;>(try omega))))
   refine⟨by omega,by rw[List.length_append];simp only[List.length_cons,List.length_nil];omega,h2,w4⟩
  ·rw[if_pos rfl] at hs3
   subst hs3;unfold Aj eV at *;(repeat' (first |refine A6 ?_ |refine A2 ?_ |refine A3 ?_ |refine A5 ?_ |((first |refine rR (fun K kp hK hkp=>?_) |refine oR [0] lc ?_ |refine oR [0] tc ?_ |refine iG ?_);simp(implicitDefEqProofs:=false) (maxSteps:=2000000) (disch:=omega) only[go_sem,d0,d1];(repeat' (first |(refine hK _ ?_;clear hK hkp kp K) |(with_reducible refine And.intro ?_ ?_) |omega))) |((first |refine aG (fun h=>?_) (fun h=>?_) |refine aD (fun h=>?_) (fun h=>?_) |refine aX (fun h=>?_) (fun h=>?_))<;>simp only[h]) |refine A0 rfl ?_ |refine A1 rfl ?_ |((refine A4 rfl (fun h=>?_) (fun h=>?_)<;>try simp only[AK] at h)<;>(try (exfalso;omega))) |refine A7 ?_))
   ((first |(refine Ba ((g,AF s3,vs++[v])) ?_ ?_ ?_) |(refine BT ((g,AF s3,vs++[v])) ?_ ?_ ?_) |(refine nextE ((g,AF s3,vs++[v])) ?_ ?_ ?_));rotate_left;(·(try dsimp only);(first |omega |(simp only[List.length_drop,List.length_cons,List.length_append];omega) |(simp;done) |(simp;omega)));(·(refine Am hE [0,4] rfl ?_ ?_<;>simp[Bi,AH,lk,ren,renL,A9,AG,Aj,eV]<;>(try omega))))
   refine⟨by omega,by rw[List.length_append];simp only[List.length_cons,List.length_nil];omega,h2,w4⟩
end Go.AM
namespace Go.AM
open Go Go.RowKit
open Go.Proofs.YtmgddlckgpfccaaDoor (OP Ac AY AR str)
theorem Ra {P:Program}{E:Env}{N:Nat}{st:AS}{AQ:AExit→AS→Prop}{x y:Code}(fx:AS)(h:AWP P E N y fx AQ)(h2: ∀K:AS→Prop,(∀st',Emb E N st' fx→K st')→AWP P E N x st (Ek K AQ)):AWP P E N (.seq x y) st AQ:=A6 (h2 _ fun st' he=>AWP.emb he h)
theorem Us {P:Program}{E:Env}{N:Nat}{st:AS}{AQ:AExit→AS→Prop}{id:Nat}{c rest:Code}(fx:AS)(h:AWP P E N rest fx AQ)(h2: ∀K:AS→Prop,(∀st',Emb E N st' fx→K st')→AWP P E N c st (Gn id (Ek K AQ))):
 AWP P E N c st (Gn id (Ek (fun st'=>AWP P E N rest st' AQ) AQ)):=h2 _ fun st' he=>AWP.emb he h
theorem MQ {l:List TK0}{f:Nat}{out:List CO}:Ef l (f+1) out=Cm out (if out.length=6 then DU l 10 out else AZ (Db l out) fun nm=>AZ (Qo l) fun k=>D9 l 4 Au (Ef l f (out++[⟨nm,k⟩])) (B0 (out++[⟨nm,k⟩]))):=rfl
attribute [local irreducible] AWP BS
set_option maxHeartbeats 16000000 in
theorem Kv (G:List (Nat×List Value)){l:List TK0}(hks: ∀t ∈ l,Fh t.s)(hl:l.length≤100)(s:WK)(hs:WkG l s):
  Con prog G 40 [.p 0 0 0] (Aj l s) 1 (Is (.ro true 2 ((Dn l s).1.map eC)) (Aj l (Dn l s).2) 1) No:=by
 have hp:=hs.ok.p;have e1:=B5 G l s 4 Ax hl (by omega);simp only[Ax,str] at e1;have w1:=C_ hs 4 Ax;unfold Dn Bm;rw[AZ];dsimp only;simp only[Ax,str] at w1 ⊢;generalize BC l s 4 {data:=[40].toArray}=s1 at e1 w1 ⊢;obtain⟨r,hr⟩: ∃r,r=AZ (Ef l 7 []) (CZ l) s1:=⟨_,rfl⟩;rw[←hr];unfold Aj at *;refine A8 func40 rfl (by kernel_rfl) (of_decide_eq_true (by kernel_rfl)) ?_;intro E hG hE;subst hG;simp only[Ai];(repeat' (first |refine A6 ?_ |refine A2 ?_ |refine A3 ?_ |refine A5 ?_ |((first |refine rR (fun K kp hK hkp=>?_) |refine rD (id:=11) AA 8 [0,1,2,3,4,5,6,7] (fun K kp hK hkp=>?_) |refine oR [0] e1 ?_ |refine iG ?_ |refine iD ?_);simp(implicitDefEqProofs:=false) (maxSteps:=2000000) (disch:=omega) only[go_sem];(repeat' (first |(refine hK _ ?_;clear hK hkp kp K) |(with_reducible refine And.intro ?_ ?_) |omega))) |((first |refine aG (fun h=>?_) (fun h=>?_) |refine aD (fun h=>?_) (fun h=>?_) |refine aX (fun h=>?_) (fun h=>?_))<;>simp only[h]) |refine A0 rfl ?_ |refine A1 rfl ?_ |((refine A4 rfl (fun h=>?_) (fun h=>?_)<;>try simp only[AK] at h)<;>(try (exfalso;omega))) |refine A7 ?_));(refine AWP.emb (GD 3 69 2 ?_) ?_;(·rfl);dsimp only);refine Ap (fun z:Nat×WK×List CO=>⟨[(3,.s 1 0 z.2.2.length),(0,.p 0 0 0)],Aj l z.2.1++[(1,.lst 69 2 (z.2.2.map eC))],2⟩) (fun z=>1≤z.1∧z.1+z.2.2.length=7∧AZ (Ef l z.1 z.2.2) (CZ l) z.2.1=r∧WkG l z.2.1) (fun z=>z.1) (7,s1,[]) ?_ ?_ ?_
 ·exact⟨by omega,rfl,hr.symm,w1⟩
 ·unfold Aj
  (refine Am hE [0,1] rfl ?_ ?_<;>simp[Bi,AH,lk,ren,renL,A9,AG]<;>(try omega))
 clear e1 hr;rintro⟨g,s,cs⟩ ⟨h0,h1,h2,w1⟩;dsimp only at h0 h1 h2 w1 ⊢;have hp:=w1.ok.p;unfold Aj;simp only[List.cons_append,List.nil_append]
 cases g with
 |zero=>omega
 |succ g=>
 rw[MQ] at h2;unfold AZ Cm at h2;have tk:=Fu eC cs
 by_cases hd:s.e=0
 rotate_left
 ·have d0:(s.e==0)=false:=by simpa using hd
  rw[if_pos hd] at h2;have ec:=B5 E.G l s 4 AW hl (by omega);simp only[AW,str] at ec;subst h2;unfold CZ AZ Bm B0;unfold Aj at *;simp only[AW,str];(repeat' (first |refine A6 ?_ |refine A2 ?_ |refine A3 ?_ |refine A5 ?_ |((first |refine rR (fun K kp hK hkp=>?_) |refine rD (id:=11) AA 8 [0,1,2,3,4,5,6,7] (fun K kp hK hkp=>?_) |refine oR [0] ec ?_ |refine iG ?_ |refine iD ?_);simp(implicitDefEqProofs:=false) (maxSteps:=2000000) (disch:=omega) only[go_sem,d0];(repeat' (first |(refine hK _ ?_;clear hK hkp kp K) |(with_reducible refine And.intro ?_ ?_) |omega))) |((first |refine aG (fun h=>?_) (fun h=>?_) |refine aD (fun h=>?_) (fun h=>?_) |refine aX (fun h=>?_) (fun h=>?_))<;>simp only[h]) |refine A0 rfl ?_ |refine A1 rfl ?_ |((refine A4 rfl (fun h=>?_) (fun h=>?_)<;>try simp only[AK] at h)<;>(try (exfalso;omega))) |refine A7 ?_));(refine AB (by(simp(implicitDefEqProofs:=false) (maxSteps:=2000000) (disch:=omega) only[go_sem,results40,tk]);rfl) ?_;refine CJ (by simp only[AI];simp(implicitDefEqProofs:=false) (maxSteps:=2000000) (disch:=omega) only[go_sem,tk];rfl) ?_;refine(AC hE [0] rfl ?_ ?_).s<;>simp[AI,AH,lk,ren,renL,A9,AG,tk])
 have d0:(s.e==0)=true:=by simpa using hd
 rw[if_neg (by simpa using hd)] at h2
 by_cases h6:cs.length=6
 ·rw[if_pos h6] at h2
  have d1:((cs.length:Int)==6)=true:=by simp only[beq_iff_eq];omega
  have w2:=DZ w1 10 (by decide);have sc:=Bl E.G l s 10 hl (by omega);have ec:=B5 E.G l (BA l s 10) 4 AW hl (by have:=w2.ok.p;omega);simp only[AW,str] at ec;subst h2;unfold CZ AZ Bm B0 DU;unfold Aj at *;simp only[AW,str];(repeat' (first |refine A6 ?_ |refine A2 ?_ |refine A3 ?_ |refine A5 ?_ |((first |refine rR (fun K kp hK hkp=>?_) |refine rD (id:=11) AA 8 [0,1,2,3,4,5,6,7] (fun K kp hK hkp=>?_) |refine oR [0] sc ?_ |refine oR [0] ec ?_ |refine iG ?_ |refine iD ?_);simp(implicitDefEqProofs:=false) (maxSteps:=2000000) (disch:=omega) only[go_sem,d0,d1];(repeat' (first |(refine hK _ ?_;clear hK hkp kp K) |(with_reducible refine And.intro ?_ ?_) |omega))) |((first |refine aG (fun h=>?_) (fun h=>?_) |refine aD (fun h=>?_) (fun h=>?_) |refine aX (fun h=>?_) (fun h=>?_))<;>simp only[h]) |refine A0 rfl ?_ |refine A1 rfl ?_ |((refine A4 rfl (fun h=>?_) (fun h=>?_)<;>try simp only[AK] at h)<;>(try (exfalso;omega))) |refine A7 ?_));(refine AB (by(simp(implicitDefEqProofs:=false) (maxSteps:=2000000) (disch:=omega) only[go_sem,results40,tk]);rfl) ?_;refine CJ (by simp only[AI];simp(implicitDefEqProofs:=false) (maxSteps:=2000000) (disch:=omega) only[go_sem,tk];rfl) ?_;refine(AC hE [0] rfl ?_ ?_).s<;>simp[AI,AH,lk,ren,renL,A9,AG,tk])
 rw[if_neg h6] at h2
 have d1:((cs.length:Int)==6)=false:=by simp only[beq_eq_false_iff_ne,ne_eq];omega
 have nc:=C4 E.G l s hl (by omega) hks;have wn:=CC w1;have w2:=(EP l cs).g s w1;obtain⟨s2,hs2⟩: ∃s2,s2=(Db l cs s).2:=⟨_,rfl⟩;obtain⟨nm,hnm⟩: ∃nm,nm=(Ae l s).1:=⟨_,rfl⟩;have hnm2:(Db l cs s).1=nm:=hnm.symm;dsimp only at h2;rw[hnm2,←hs2] at h2;rw[←hs2] at w2;unfold Db at hs2;dsimp only at hs2;rw[←hnm] at hs2 nc;generalize (Ae l s).2=s1 at hs2 nc wn;have hp2:=w2.ok.p;unfold Aj at nc;(repeat' (first |refine A6 ?_ |refine A2 ?_ |refine A3 ?_ |refine A5 ?_ |((first |refine rR (fun K kp hK hkp=>?_) |refine rD (id:=11) AA 8 [0,1,2,3,4,5,6,7] (fun K kp hK hkp=>?_) |refine oR [0] nc ?_ |refine iG ?_ |refine iD ?_);simp(implicitDefEqProofs:=false) (maxSteps:=2000000) (disch:=omega) only[go_sem,d0,d1];(repeat' (first |(refine hK _ ?_;clear hK hkp kp K) |(with_reducible refine And.intro ?_ ?_) |omega))) |((first |refine aG (fun h=>?_) (fun h=>?_) |refine aD (fun h=>?_) (fun h=>?_) |refine aX (fun h=>?_) (fun h=>?_))<;>simp only[h]) |refine A0 rfl ?_ |refine A1 rfl ?_ |((refine A4 rfl (fun h=>?_) (fun h=>?_)<;>try simp only[AK] at h)<;>(try (exfalso;omega))) |refine A7 ?_));refine Us (fx:=⟨[(3,.s 1 0 cs.length),(0,.p 0 0 0),(5,.p 2 0 0)],Aj l s2++[(1,.lst 69 2 (cs.map eC)),(2,.box 69 [.r (.string nm),.r (.int .i64 0)])],3⟩) ?_ fun K hcut=>?_
 ·clear nc hs2 wn
  have w3:=(Js l).g s2 w2;obtain⟨s3,hs3⟩: ∃s3,s3=(Qo l s2).2:=⟨_,rfl⟩;obtain⟨k,hk⟩: ∃k,k=(Qo l s2).1:=⟨_,rfl⟩;rw[←hs3] at h2 w3;rw[←hk] at h2;have hp3:=w3.ok.p;refine Ra (fx:=⟨[(3,.s 1 0 cs.length),(0,.p 0 0 0),(5,.p 2 0 0)],Aj l s3++[(1,.lst 69 2 (cs.map eC)),(2,.box 69 [.r (.string nm),.r (.int .i64 k)])],3⟩) ?_ fun K hcut=>?_
  ·clear hs3 hk
   unfold Aj;simp only[List.cons_append,List.nil_append]
   have tk2:(cs.map eC++[[AV.r (.string nm),AV.r (.int .i64 k)]]).take (cs.length+1)=(cs++[(⟨nm,k⟩:CO)]).map eC:=by
    rw[List.take_of_length_le (by simp),List.map_append];rfl
   cases ho:BX l s3 4 Au
   ·have tc:=AJ E.G l s3 4 Au hl (by omega) ho
    have ec:=B5 E.G l s3 4 AW hl (by omega);simp only[Au,AW,str] at tc ec;unfold D9 at h2;rw[ho,if_neg (by decide)] at h2;subst h2;unfold CZ AZ Bm B0;simp only[AW,str];unfold Aj at *;(repeat' (first |refine A6 ?_ |refine A2 ?_ |refine A3 ?_ |refine A5 ?_ |((first |refine rR (fun K kp hK hkp=>?_) |refine rD (id:=11) AA 8 [0,1,2,3,4,5,6,7] (fun K kp hK hkp=>?_) |refine oR [0] tc ?_ |refine oR [0] ec ?_ |refine iG ?_ |refine iD ?_);simp(implicitDefEqProofs:=false) (maxSteps:=2000000) (disch:=omega) only[go_sem];(repeat' (first |(refine hK _ ?_;clear hK hkp kp K) |(with_reducible refine And.intro ?_ ?_) |omega))) |((first |refine aG (fun h=>?_) (fun h=>?_) |refine aD (fun h=>?_) (fun h=>?_) |refine aX (fun h=>?_) (fun h=>?_))<;>simp only[h]) |refine A0 rfl ?_ |refine A1 rfl ?_ |((refine A4 rfl (fun h=>?_) (fun h=>?_)<;>try simp only[AK] at h)<;>(try (exfalso;omega))) |refine A7 ?_));(refine AB (by(simp(implicitDefEqProofs:=false) (maxSteps:=2000000) (disch:=omega) only[go_sem,results40,tk2]);rfl) ?_;refine CJ (by simp only[AI];simp(implicitDefEqProofs:=false) (maxSteps:=2000000) (disch:=omega) only[go_sem,tk2];rfl) ?_;refine(AC hE [0] rfl ?_ ?_).s<;>simp[AI,AH,lk,ren,renL,A9,AG,tk2])
   ·have tc:=B6 E.G l s3 4 Au hl (by omega) ho
    simp only[Au,str] at tc;have w4:=BY w3 (As ho).2;unfold D9 at h2;rw[ho,if_pos rfl] at h2;unfold Aj at tc;(repeat' (first |refine A6 ?_ |refine A2 ?_ |refine A3 ?_ |refine A5 ?_ |((first |refine rR (fun K kp hK hkp=>?_) |refine rD (id:=11) AA 8 [0,1,2,3,4,5,6,7] (fun K kp hK hkp=>?_) |refine oR [0] tc ?_ |refine iG ?_ |refine iD ?_);simp(implicitDefEqProofs:=false) (maxSteps:=2000000) (disch:=omega) only[go_sem];(repeat' (first |(refine hK _ ?_;clear hK hkp kp K) |(with_reducible refine And.intro ?_ ?_) |omega))) |((first |refine aG (fun h=>?_) (fun h=>?_) |refine aD (fun h=>?_) (fun h=>?_) |refine aX (fun h=>?_) (fun h=>?_))<;>simp only[h]) |refine A0 rfl ?_ |refine A1 rfl ?_ |((refine A4 rfl (fun h=>?_) (fun h=>?_)<;>try simp only[AK] at h)<;>(try (exfalso;omega))) |refine A7 ?_))
    ((first |(refine Ba ((g,AF s3,cs++[⟨nm,k⟩])) ?_ ?_ ?_) |(refine BT ((g,AF s3,cs++[⟨nm,k⟩])) ?_ ?_ ?_) |(refine nextE ((g,AF s3,cs++[⟨nm,k⟩])) ?_ ?_ ?_));rotate_left;(·(try dsimp only);(first |omega |(simp only[List.length_drop,List.length_cons,List.length_append];omega) |(simp;done) |(simp;omega)));(·(refine Am hE [0,4] rfl ?_ ?_<;>simp[Bi,AH,lk,ren,renL,A9,AG,Aj,eC]<;>(try omega))))
    refine⟨by omega,by rw[List.length_append];simp only[List.length_cons,List.length_nil];omega,h2,w4⟩
  ·unfold Aj
   simp only[List.cons_append,List.nil_append];unfold Qo D9 B0 DU at hs3 hk;cases o1:BX l s2 1 (str [66,79,79,76]);rotate_left
   ·have t1:=B6 E.G l s2 1 (str [66,79,79,76]) hl (by omega) o1
    rw[o1,if_pos rfl] at hs3 hk;simp only[str] at t1;subst hs3 hk;unfold Aj at t1;(repeat' (first |refine A6 ?_ |refine A2 ?_ |refine A3 ?_ |refine A5 ?_ |((first |refine rR (fun K kp hK hkp=>?_) |refine rD (id:=11) AA 8 [0,1,2,3,4,5,6,7] (fun K kp hK hkp=>?_) |refine oR [0] t1 ?_ |refine iG ?_ |refine iD ?_);simp(implicitDefEqProofs:=false) (maxSteps:=2000000) (disch:=omega) only[go_sem];(repeat' (first |(refine hK _ ?_;clear hK hkp kp K) |(with_reducible refine And.intro ?_ ?_) |omega))) |((first |refine aG (fun h=>?_) (fun h=>?_) |refine aD (fun h=>?_) (fun h=>?_) |refine aX (fun h=>?_) (fun h=>?_))<;>simp only[h]) |refine A0 rfl ?_ |refine A1 rfl ?_ |((refine A4 rfl (fun h=>?_) (fun h=>?_)<;>try simp only[AK] at h)<;>(try (exfalso;omega))) |refine A7 ?_));refine hcut _ ?_;(refine Am hE [0,1,2] rfl ?_ ?_<;>simp[Bi,AH,lk,ren,renL,A9,AG,Aj]<;>(try omega))
   have t1:=AJ E.G l s2 1 (str [66,79,79,76]) hl (by omega) o1;rw[o1,if_neg (by decide)] at hs3 hk;cases o2:BX l s2 1 (str [73,78,84]);rotate_left
   ·have t2:=B6 E.G l s2 1 (str [73,78,84]) hl (by omega) o2
    rw[o2,if_pos rfl] at hs3 hk;simp only[str] at t1 t2;subst hs3 hk;unfold Aj at t1 t2;(repeat' (first |refine A6 ?_ |refine A2 ?_ |refine A3 ?_ |refine A5 ?_ |((first |refine rR (fun K kp hK hkp=>?_) |refine rD (id:=11) AA 8 [0,1,2,3,4,5,6,7] (fun K kp hK hkp=>?_) |refine oR [0] t1 ?_ |refine oR [0] t2 ?_ |refine iG ?_ |refine iD ?_);simp(implicitDefEqProofs:=false) (maxSteps:=2000000) (disch:=omega) only[go_sem];(repeat' (first |(refine hK _ ?_;clear hK hkp kp K) |(with_reducible refine And.intro ?_ ?_) |omega))) |((first |refine aG (fun h=>?_) (fun h=>?_) |refine aD (fun h=>?_) (fun h=>?_) |refine aX (fun h=>?_) (fun h=>?_))<;>simp only[h]) |refine A0 rfl ?_ |refine A1 rfl ?_ |((refine A4 rfl (fun h=>?_) (fun h=>?_)<;>try simp only[AK] at h)<;>(try (exfalso;omega))) |refine A7 ?_));refine hcut _ ?_;(refine Am hE [0,1,2] rfl ?_ ?_<;>simp[Bi,AH,lk,ren,renL,A9,AG,Aj]<;>(try omega))
   have t2:=AJ E.G l s2 1 (str [73,78,84]) hl (by omega) o2;rw[o2,if_neg (by decide)] at hs3 hk;cases o3:BX l s2 1 (str [84,69,88,84]);rotate_left
   ·have t3:=B6 E.G l s2 1 (str [84,69,88,84]) hl (by omega) o3
    rw[o3,if_pos rfl] at hs3 hk;simp only[str] at t1 t2 t3;subst hs3 hk;unfold Aj at t1 t2 t3;(repeat' (first |refine A6 ?_ |refine A2 ?_ |refine A3 ?_ |refine A5 ?_ |((first |refine rR (fun K kp hK hkp=>?_) |refine rD (id:=11) AA 8 [0,1,2,3,4,5,6,7] (fun K kp hK hkp=>?_) |refine oR [0] t1 ?_ |refine oR [0] t2 ?_ |refine oR [0] t3 ?_ |refine iG ?_ |refine iD ?_);simp(implicitDefEqProofs:=false) (maxSteps:=2000000) (disch:=omega) only[go_sem];(repeat' (first |(refine hK _ ?_;clear hK hkp kp K) |(with_reducible refine And.intro ?_ ?_) |omega))) |((first |refine aG (fun h=>?_) (fun h=>?_) |refine aD (fun h=>?_) (fun h=>?_) |refine aX (fun h=>?_) (fun h=>?_))<;>simp only[h]) |refine A0 rfl ?_ |refine A1 rfl ?_ |((refine A4 rfl (fun h=>?_) (fun h=>?_)<;>try simp only[AK] at h)<;>(try (exfalso;omega))) |refine A7 ?_));refine hcut _ ?_;(refine Am hE [0,1,2] rfl ?_ ?_<;>simp[Bi,AH,lk,ren,renL,A9,AG,Aj]<;>(try omega))
   have t3:=AJ E.G l s2 1 (str [84,69,88,84]) hl (by omega) o3;rw[o3,if_neg (by decide)] at hs3 hk;have sc:=Bl E.G l s2 6 hl (by omega);simp only[str] at t1 t2 t3;subst hs3 hk;unfold Aj at t1 t2 t3 sc;(repeat' (first |refine A6 ?_ |refine A2 ?_ |refine A3 ?_ |refine A5 ?_ |((first |refine rR (fun K kp hK hkp=>?_) |refine rD (id:=11) AA 8 [0,1,2,3,4,5,6,7] (fun K kp hK hkp=>?_) |refine oR [0] t1 ?_ |refine oR [0] t2 ?_ |refine oR [0] t3 ?_ |refine oR [0] sc ?_ |refine iG ?_ |refine iD ?_);simp(implicitDefEqProofs:=false) (maxSteps:=2000000) (disch:=omega) only[go_sem];(repeat' (first |(refine hK _ ?_;clear hK hkp kp K) |(with_reducible refine And.intro ?_ ?_) |omega))) |((first |refine aG (fun h=>?_) (fun h=>?_) |refine aD (fun h=>?_) (fun h=>?_) |refine aX (fun h=>?_) (fun h=>?_))<;>simp only[h]) |refine A0 rfl ?_ |refine A1 rfl ?_ |((refine A4 rfl (fun h=>?_) (fun h=>?_)<;>try simp only[AK] at h)<;>(try (exfalso;omega))) |refine A7 ?_));refine hcut _ ?_;(refine Am hE [0,1,2] rfl ?_ ?_<;>simp[Bi,AH,lk,ren,renL,A9,AG,Aj]<;>(try omega))
 ·clear h2 nc
  refine Ap (fun z:Nat×WK=>⟨[(6,.r (.int .i64 z.1)),(3,.s 1 0 cs.length),(0,.p 0 0 0),(4,.r (.int .i64 s.p)),(5,.p 2 0 0)],Aj l z.2++[(1,.lst 69 2 (cs.map eC)),(2,.box 69 [.r (.string nm),.r (.int .i64 0)])],3⟩) (fun z=>z.1≤cs.length∧((z.2=s1∧(cs.take z.1).any (fun x=>x.nm.toList==nm.toList)=false)∨(z.2=BA l {s1 with p:=s.p} 9∧s1.e=0∧cs.any (fun x=>x.nm.toList==nm.toList)=true))) (fun z=>cs.length - z.1) (0,s1) ?_ ?_ ?_
  ·exact⟨Nat.zero_le _,.inl ⟨rfl,rfl⟩⟩
  ·unfold Aj
   (refine Am hE [0,1,2] rfl ?_ ?_<;>simp[Bi,AH,lk,ren,renL,A9,AG]<;>(try omega))
  rintro⟨k,u⟩ ⟨hk,hu⟩;dsimp only at hk hu ⊢;unfold Aj;simp only[List.cons_append,List.nil_append]
  by_cases hlt:k<cs.length
  rotate_left
  ·obtain rfl:k=cs.length:=by omega
   have d3:decide ((cs.length:Int)<(cs.length:Int))=false:=decide_eq_false (by omega)
   obtain rfl:u=s2:=by
    rcases hu with ⟨h3,h4⟩ |⟨h3,h4,h5⟩
    ·rw[List.take_of_length_le (Nat.le_refl _)] at h4
     rw[hs2,h4,if_neg (fun h=>Bool.false_ne_true h.2),h3]
    ·rw[hs2,if_pos ⟨h4,h5⟩,h3]
   (repeat' (first |refine A6 ?_ |refine A2 ?_ |refine A3 ?_ |refine A5 ?_ |((first |refine rR (fun K kp hK hkp=>?_) |refine rD (id:=11) AA 8 [0,1,2,3,4,5,6,7] (fun K kp hK hkp=>?_) |refine iG ?_ |refine iD ?_);simp(implicitDefEqProofs:=false) (maxSteps:=2000000) (disch:=omega) only[go_sem,d3];(repeat' (first |(refine hK _ ?_;clear hK hkp kp K) |(with_reducible refine And.intro ?_ ?_) |omega))) |((first |refine aG (fun h=>?_) (fun h=>?_) |refine aD (fun h=>?_) (fun h=>?_) |refine aX (fun h=>?_) (fun h=>?_))<;>simp only[h]) |refine A0 rfl ?_ |refine A1 rfl ?_ |((refine A4 rfl (fun h=>?_) (fun h=>?_)<;>try simp only[AK] at h)<;>(try (exfalso;omega))) |refine A7 ?_));refine hcut _ ?_;(refine Am hE [0,1,2] rfl ?_ ?_<;>simp[Bi,AH,lk,ren,renL,A9,AG,Aj]<;>(try omega))
  have d3:decide ((k:Int)<(cs.length:Int))=true:=decide_eq_true (by omega)
  by_cases hu0:u.e=0
  rotate_left
  ·have d4:(u.e==0)=false:=by simpa using hu0
   obtain rfl:u=s2:=by
    rcases hu with ⟨h3,h4⟩ |⟨h3,h4,h5⟩
    ·rw[hs2,if_neg (fun h=>hu0 (by rw[h3];exact h.1)),h3]
    ·rw[hs2,if_pos ⟨h4,h5⟩,h3]
   (repeat' (first |refine A6 ?_ |refine A2 ?_ |refine A3 ?_ |refine A5 ?_ |((first |refine rR (fun K kp hK hkp=>?_) |refine rD (id:=11) AA 8 [0,1,2,3,4,5,6,7] (fun K kp hK hkp=>?_) |refine iG ?_ |refine iD ?_);simp(implicitDefEqProofs:=false) (maxSteps:=2000000) (disch:=omega) only[go_sem,d3,d4];(repeat' (first |(refine hK _ ?_;clear hK hkp kp K) |(with_reducible refine And.intro ?_ ?_) |omega))) |((first |refine aG (fun h=>?_) (fun h=>?_) |refine aD (fun h=>?_) (fun h=>?_) |refine aX (fun h=>?_) (fun h=>?_))<;>simp only[h]) |refine A0 rfl ?_ |refine A1 rfl ?_ |((refine A4 rfl (fun h=>?_) (fun h=>?_)<;>try simp only[AK] at h)<;>(try (exfalso;omega))) |refine A7 ?_));refine hcut _ ?_;(refine Am hE [0,1,2] rfl ?_ ?_<;>simp[Bi,AH,lk,ren,renL,A9,AG,Aj]<;>(try omega))
  have d4:(u.e==0)=true:=by simpa using hu0
  rcases hu with ⟨h3,h4⟩ |⟨h3,h4,h5⟩
  rotate_left
  ·rw[h3] at hu0
   exact(CD (by decide) hu0).elim
  subst h3;obtain⟨x,hx⟩: ∃x,cs[k]?=some x:=⟨cs[k],by simp[hlt]⟩;have d6:((k:Int)<(cs.length:Int))=True:=eq_true (by omega);cases d5:(x.nm.toList==nm.toList)
  ·(repeat' (first |refine A6 ?_ |refine A2 ?_ |refine A3 ?_ |refine A5 ?_ |((first |refine rR (fun K kp hK hkp=>?_) |refine rD (id:=11) AA 8 [0,1,2,3,4,5,6,7] (fun K kp hK hkp=>?_) |refine iG ?_ |refine iD ?_);simp(implicitDefEqProofs:=false) (maxSteps:=2000000) (disch:=omega) only[go_sem,d3,d4,d6,hx,eC,d5];(repeat' (first |(refine hK _ ?_;clear hK hkp kp K) |(with_reducible refine And.intro ?_ ?_) |omega))) |((first |refine aG (fun h=>?_) (fun h=>?_) |refine aD (fun h=>?_) (fun h=>?_) |refine aX (fun h=>?_) (fun h=>?_))<;>simp only[h]) |refine A0 rfl ?_ |refine A1 rfl ?_ |((refine A4 rfl (fun h=>?_) (fun h=>?_)<;>try simp only[AK] at h)<;>(try (exfalso;omega))) |refine A7 ?_))
   ((first |(refine Ba ((k+1,u)) ?_ ?_ ?_) |(refine BT ((k+1,u)) ?_ ?_ ?_) |(refine nextE ((k+1,u)) ?_ ?_ ?_));rotate_left;(·(try dsimp only);(first |omega |(simp only[List.length_drop,List.length_cons,List.length_append];omega) |(simp;done) |(simp;omega)));(·(refine Am hE [0,1,2] rfl ?_ ?_<;>simp[Bi,AH,lk,ren,renL,A9,AG,Aj]<;>(try omega))))
   refine⟨hlt,.inl ⟨rfl,?_⟩⟩;rw[List.take_add_one,hx,List.any_append,h4];simpa using d5
  ·have sc:=Bl E.G l {u with p:=s.p} 9 hl (by change s.p≤100;omega)
   unfold Aj at sc;(repeat' (first |refine A6 ?_ |refine A2 ?_ |refine A3 ?_ |refine A5 ?_ |((first |refine rR (fun K kp hK hkp=>?_) |refine rD (id:=11) AA 8 [0,1,2,3,4,5,6,7] (fun K kp hK hkp=>?_) |refine oR [0] sc ?_ |refine iG ?_ |refine iD ?_);simp(implicitDefEqProofs:=false) (maxSteps:=2000000) (disch:=omega) only[go_sem,d3,d4,d6,hx,eC,d5];(repeat' (first |(refine hK _ ?_;clear hK hkp kp K) |(with_reducible refine And.intro ?_ ?_) |omega))) |((first |refine aG (fun h=>?_) (fun h=>?_) |refine aD (fun h=>?_) (fun h=>?_) |refine aX (fun h=>?_) (fun h=>?_))<;>simp only[h]) |refine A0 rfl ?_ |refine A1 rfl ?_ |((refine A4 rfl (fun h=>?_) (fun h=>?_)<;>try simp only[AK] at h)<;>(try (exfalso;omega))) |refine A7 ?_))
   ((first |(refine Ba ((k+1,BA l {u with p:=s.p} 9)) ?_ ?_ ?_) |(refine BT ((k+1,BA l {u with p:=s.p} 9)) ?_ ?_ ?_) |(refine nextE ((k+1,BA l {u with p:=s.p} 9)) ?_ ?_ ?_));rotate_left;(·(try dsimp only);(first |omega |(simp only[List.length_drop,List.length_cons,List.length_append];omega) |(simp;done) |(simp;omega)));(·(refine Am hE [0,1,2] rfl ?_ ?_<;>simp[Bi,AH,lk,ren,renL,A9,AG,Aj]<;>(try omega))))
   exact⟨hlt,.inr ⟨rfl,hu0,List.any_eq_true.2 ⟨x,List.mem_of_getElem? hx,d5⟩⟩⟩
end Go.AM
namespace Go.AM
open Go Go.RowKit
open Go.Proofs.YtmgddlckgpfccaaDoor (OP Ac AY AR str)
@[reducible] def Pf (tab:ByteArray) (ns:AV) (cnt:Bool) (wh:AV) (od:ByteArray) (dn:Bool) (lim:Int):Nd:= .box 29 [.r (.int .i64 4),.r (.string tab),.r (.slice none 0 0),.r (.slice none 0 0),ns,.r (.bool cnt),wh,.r (.string od),.r (.bool dn),.r (.int .i64 lim),.r (.string ⟨#[]⟩),.r (.slice none 0 0)]
@[reducible] def Pe:Nd:= .box 29 [.r (.int .i64 0),.r (.string ⟨#[]⟩),.r (.slice none 0 0),.r (.slice none 0 0),.r (.slice none 0 0),.r (.bool false),.r (.slice none 0 0),.r (.string ⟨#[]⟩),.r (.bool false),.r (.int .i64 0),.r (.string ⟨#[]⟩),.r (.slice none 0 0)]
theorem Ky {l:List TK0}{f:Nat}{out:List ByteArray}:ER l (f+1) out=Cm out (if out.length=6 then DU l 10 out else AZ (Ae l) fun nm=>D9 l 4 Au (ER l f (out++[nm])) (B0 (out++[nm]))):=rfl
attribute [local irreducible] AWP BS
set_option maxHeartbeats 16000000 in
theorem Jn (G:List (Nat×List Value)){l:List TK0}(hk: ∀t ∈ l,TokOk t)(hks: ∀t ∈ l,Fh t.s)(hl:l.length≤100)(s:WK)(hs:WkG l s):
  Con prog G 42 [.p 0 0 0] (Aj l s) 1 (Is (.agg (CU (Hw l s).1)) (Aj l (Hw l s).2) 1) No:=by
 have w0:=(Hq l).g s hs;obtain⟨w,hw⟩: ∃w,w=KX l s:=⟨_,rfl⟩;rw[←hw] at w0;obtain⟨⟨ns,cnt⟩,s0⟩:=w;dsimp only at w0;have w1:=C_ w0 1 CI;obtain⟨s1,hs1⟩: ∃s1,s1=BC l s0 1 CI:=⟨_,rfl⟩;rw[←hs1] at w1;have w2:=CC w1;obtain⟨t,ht⟩: ∃t,t=Ae l s1:=⟨_,rfl⟩;rw[←ht] at w2;have w3:=(CP hl).g t.2 w2;obtain⟨wh,hwh⟩: ∃wh,wh=D0 l t.2:=⟨_,rfl⟩;rw[←hwh] at w3;have w4:=(Ju l).g wh.2 w3;obtain⟨o,ho⟩: ∃o,o=Pk l wh.2:=⟨_,rfl⟩;rw[←ho] at w4;obtain⟨od,s4⟩:=o;dsimp only at w4;obtain⟨n,hn⟩: ∃n,n=Pv l s4:=⟨_,rfl⟩
 have hx:Hw l s=(⟨4,t.1,[],[],ns,cnt,wh.1,od.1,od.2,n.1,str [],[]⟩,n.2):=by
  unfold Hw AZ Bm B0;rw[←hw];dsimp only;rw[←hs1,←ht,←hwh,←ho,←hn]
 rw[hx];clear hx;refine Bt (y:= .agg [.r (.int .i64 4),.r (.string t.1),.r (.slice none 0 0),.r (.slice none 0 0),.ro true 1 (ns.map Bc),.r (.bool cnt),.ro true 5 (wh.1.map eO),.r (.string od.1),.r (.bool od.2),.r (.int .i64 n.1),.r (.string ⟨#[]⟩),.r (.slice none 0 0)]) ?_ (fun w z th v hr=>C9 (by simp[wk,GJ,CU,str]) hr);refine A8 func42 rfl (by kernel_rfl) (of_decide_eq_true (by kernel_rfl)) ?_;intro E hG hE;subst hG;simp only[Ai];refine A6 ?_;(refine rR (fun K kp hK hkp=>?_);simp(implicitDefEqProofs:=false) (maxSteps:=2000000) (disch:=omega) only[go_sem];(repeat' (first |(refine hK _ ?_;clear hK hkp kp K) |(with_reducible refine And.intro ?_ ?_) |omega)));refine A6 ?_;unfold Aj;(refine rR (fun K kp hK hkp=>?_);simp(implicitDefEqProofs:=false) (maxSteps:=2000000) (disch:=omega) only[go_sem];(repeat' (first |(refine hK _ ?_;clear hK hkp kp K) |(with_reducible refine And.intro ?_ ?_) |omega)));refine Ra (fx:=⟨[(0,.p 0 0 0),(2,.p 1 0 0),(3,.p 2 0 0)],Aj l s0++[(1,Pe),(2,Pf ⟨#[]⟩ (.ro true 1 (ns.map Bc)) cnt (.r (.slice none 0 0)) ⟨#[]⟩ false (-1))],3⟩) ?_ fun K hcut=>?_
 ·have hp0:=w0.ok.p
  clear hw hs w0;have e1:=B5 E.G l s0 1 CI hl (by omega);rw[←hs1] at e1;simp only[CI,str] at e1;have e2:=C4 E.G l s1 hl (by have:=w1.ok.p;omega) hks;rw[←ht] at e2;have e3:=Ei E.G hk hks hl t.2 w2;rw[←hwh] at e3;refine Ti (fx:=⟨[(0,.p 0 0 0),(2,.p 1 0 0),(3,.p 2 0 0)],Aj l wh.2++[(1,Pe),(2,Pf t.1 (.ro true 1 (ns.map Bc)) cnt (.ro true 5 (wh.1.map eO)) ⟨#[]⟩ false (-1))],3⟩) ?_ fun K hcut=>?_;rotate_left
  ·unfold Aj at *
   (try simp only[List.cons_append,List.nil_append]);(repeat' (first |refine A6 ?_ |refine A2 ?_ |refine A3 ?_ |refine A5 ?_ |((first |refine rR (fun K kp hK hkp=>?_) |refine rD (id:=22) AA 24 [0,1,2,3,4,5,6,7,8,9,10,11,12,13,14,15,16,17,18,19,20,21,22,23] (fun K kp hK hkp=>?_) |refine rD (id:=23) AA 12 [0,1,2,3,4,5,6,7,8,9,10,11] (fun K kp hK hkp=>?_) |refine oR [0] e1 ?_ |refine oR [0] e2 ?_ |refine oR [0] e3 ?_ |refine iG ?_ |refine iD ?_);simp(implicitDefEqProofs:=false) (maxSteps:=2000000) (disch:=omega) only[go_sem];(repeat' (first |(refine hK _ ?_;clear hK hkp kp K) |(with_reducible refine And.intro ?_ ?_) |omega))) |((first |refine aG (fun h=>?_) (fun h=>?_) |refine aD (fun h=>?_) (fun h=>?_) |refine aX (fun h=>?_) (fun h=>?_))<;>simp only[h]) |refine A0 rfl ?_ |refine A1 rfl ?_ |((refine A4 rfl (fun h=>?_) (fun h=>?_)<;>try simp only[AK] at h)<;>(try (exfalso;omega))) |refine A7 ?_));refine hcut _ ?_;(refine Am hE [0,1,2] rfl ?_ ?_<;>simp[Bi,AH,lk,ren,renL,A9,AG,Aj]<;>(try omega))
  clear e1 e2 e3 hs1 ht hwh w1 w2;refine Ra (fx:=⟨[(0,.p 0 0 0),(2,.p 1 0 0),(3,.p 2 0 0)],Aj l s4++[(1,Pe),(2,Pf t.1 (.ro true 1 (ns.map Bc)) cnt (.ro true 5 (wh.1.map eO)) od.1 od.2 (-1))],3⟩) ?_ fun K hcut=>?_
  ·clear ho w3
   have hp4:=w4.ok.p;unfold Pv D9 B0 at hn;cases ol:BX l s4 1 DS
   ·have tc:=AJ E.G l s4 1 DS hl (by omega) ol
    simp only[DS,str] at tc;rw[ol,if_neg (by decide)] at hn;subst hn;unfold Aj at *;simp only[List.cons_append,List.nil_append];(repeat' (first |refine A6 ?_ |refine A2 ?_ |refine A3 ?_ |refine A5 ?_ |((first |refine rR (fun K kp hK hkp=>?_) |refine rD (id:=22) AA 24 [0,1,2,3,4,5,6,7,8,9,10,11,12,13,14,15,16,17,18,19,20,21,22,23] (fun K kp hK hkp=>?_) |refine rD (id:=23) AA 12 [0,1,2,3,4,5,6,7,8,9,10,11] (fun K kp hK hkp=>?_) |refine oR [0] tc ?_ |refine iG ?_ |refine iD ?_);simp(implicitDefEqProofs:=false) (maxSteps:=2000000) (disch:=omega) only[go_sem];(repeat' (first |(refine hK _ ?_;clear hK hkp kp K) |(with_reducible refine And.intro ?_ ?_) |omega))) |((first |refine aG (fun h=>?_) (fun h=>?_) |refine aD (fun h=>?_) (fun h=>?_) |refine aX (fun h=>?_) (fun h=>?_))<;>simp only[h]) |refine A0 rfl ?_ |refine A1 rfl ?_ |((refine A4 rfl (fun h=>?_) (fun h=>?_)<;>try simp only[AK] at h)<;>(try (exfalso;omega))) |refine A7 ?_));(refine AB (by(simp(implicitDefEqProofs:=false) (maxSteps:=2000000) (disch:=omega) only[go_sem,results42]);rfl) ?_;refine(AC hE [0] rfl ?_ ?_).s<;>simp[AI,AH,lk,ren,renL,A9,AG])
   ·have tc:=B6 E.G l s4 1 DS hl (by omega) ol
    simp only[DS,str] at tc;rw[ol,if_pos rfl] at hn;have w5:=BY w4 (As ol).2;generalize AF s4=u at tc hn w5;have hpu:=w5.ok.p;unfold NP at hn
    cases hnum:Bw l u.p with
    |none=>
     rw[hnum] at hn;dsimp only at hn;subst hn;have sc:=Bl E.G l u 6 hl (by omega);unfold Aj at *;simp only[List.cons_append,List.nil_append]
     cases hy:l[u.p]? with
     |none=>
      have:=List.getElem?_eq_none_iff.1 hy;have d3:decide ((u.p:Int)<(l.length:Int))=false:=decide_eq_false (by omega);(repeat' (first |refine A6 ?_ |refine A2 ?_ |refine A3 ?_ |refine A5 ?_ |((first |refine rR (fun K kp hK hkp=>?_) |refine rD (id:=22) AA 24 [0,1,2,3,4,5,6,7,8,9,10,11,12,13,14,15,16,17,18,19,20,21,22,23] (fun K kp hK hkp=>?_) |refine rU (id:=23) AA 12 [⟨0,0,[],[]⟩,⟨0,0,[0],[]⟩,⟨0,0,[0,1],[]⟩,⟨0,0,[0,1,2],[]⟩,⟨0,0,[],[]⟩,⟨0,0,[4],[]⟩,⟨0,0,[4,5],[]⟩,⟨0,0,[4,5,6],[]⟩,⟨0,0,[0,1,2,3,4,5,6,7],[]⟩,⟨0,0,[0,1,2,3,4,5,6,7,8],[]⟩,⟨0,0,[0,1,2,3,4,5,6,7,8,9],[]⟩,⟨0,0,[0,1,2,3,4,5,6,7,8,9,10],[]⟩] 0 [84,85,86,87,88,89,90,91,92,93,94,95] [] (fun K kp hK hkp=>?_) |refine oR [0] tc ?_ |refine oR [0] sc ?_ |refine iG ?_ |refine iD ?_);simp(implicitDefEqProofs:=false) (maxSteps:=2000000) (disch:=omega) only[go_sem,d3,eT];(repeat' (first |(refine hK _ ?_;clear hK hkp kp K) |(with_reducible refine And.intro ?_ ?_) |omega))) |((first |refine aG (fun h=>?_) (fun h=>?_) |refine aD (fun h=>?_) (fun h=>?_) |refine aX (fun h=>?_) (fun h=>?_))<;>simp only[h]) |refine A0 rfl ?_ |refine A1 rfl ?_ |((refine A4 rfl (fun h=>?_) (fun h=>?_)<;>try simp only[AK] at h)<;>(try (exfalso;omega))) |refine A7 ?_));(refine AB (by(simp(implicitDefEqProofs:=false) (maxSteps:=2000000) (disch:=omega) only[go_sem,results42]);rfl) ?_;refine(AC hE [0] rfl ?_ ?_).s<;>simp[AI,AH,lk,ren,renL,A9,AG])
     |some y=>
      have:=(List.getElem?_eq_some_iff.1 hy).1;have d3:decide ((u.p:Int)<(l.length:Int))=true:=decide_eq_true (by omega);have d4:=Cn hnum hy;(repeat' (first |refine A6 ?_ |refine A2 ?_ |refine A3 ?_ |refine A5 ?_ |((first |refine rR (fun K kp hK hkp=>?_) |refine rD (id:=22) AA 24 [0,1,2,3,4,5,6,7,8,9,10,11,12,13,14,15,16,17,18,19,20,21,22,23] (fun K kp hK hkp=>?_) |refine rU (id:=23) AA 12 [⟨0,0,[],[]⟩,⟨0,0,[0],[]⟩,⟨0,0,[0,1],[]⟩,⟨0,0,[0,1,2],[]⟩,⟨0,0,[],[]⟩,⟨0,0,[4],[]⟩,⟨0,0,[4,5],[]⟩,⟨0,0,[4,5,6],[]⟩,⟨0,0,[0,1,2,3,4,5,6,7],[]⟩,⟨0,0,[0,1,2,3,4,5,6,7,8],[]⟩,⟨0,0,[0,1,2,3,4,5,6,7,8,9],[]⟩,⟨0,0,[0,1,2,3,4,5,6,7,8,9,10],[]⟩] 0 [84,85,86,87,88,89,90,91,92,93,94,95] [] (fun K kp hK hkp=>?_) |refine oR [0] tc ?_ |refine oR [0] sc ?_ |refine iG ?_ |refine iD ?_);simp(implicitDefEqProofs:=false) (maxSteps:=2000000) (disch:=omega) only[go_sem,d3,hy,eT,d4];(repeat' (first |(refine hK _ ?_;clear hK hkp kp K) |(with_reducible refine And.intro ?_ ?_) |omega))) |((first |refine aG (fun h=>?_) (fun h=>?_) |refine aD (fun h=>?_) (fun h=>?_) |refine aX (fun h=>?_) (fun h=>?_))<;>simp only[h]) |refine A0 rfl ?_ |refine A1 rfl ?_ |((refine A4 rfl (fun h=>?_) (fun h=>?_)<;>try simp only[AK] at h)<;>(try (exfalso;omega))) |refine A7 ?_));(refine AB (by(simp(implicitDefEqProofs:=false) (maxSteps:=2000000) (disch:=omega) only[go_sem,results42]);rfl) ?_;refine(AC hE [0] rfl ?_ ?_).s<;>simp[AI,AH,lk,ren,renL,A9,AG])
    |some m=>
     obtain⟨y,hy,hyk,rfl⟩:=DD hnum;rw[hnum] at hn;dsimp only at hn;have:=(List.getElem?_eq_some_iff.1 hy).1;have d3:decide ((u.p:Int)<(l.length:Int))=true:=decide_eq_true (by omega)
     have d4:(y.k==2)=true:=by simpa using hyk
     obtain⟨a1,ha1⟩: ∃a1,a1=u.p+1:=⟨_,rfl⟩
     have z1:(u.p:Int)+1=(a1:Int):=by omega
     have est:AF u={u with p:=a1}:=by rw[AF,ha1]
     rw[est] at hn;subst hn;unfold Aj at *;simp only[List.cons_append,List.nil_append];(repeat' (first |refine A6 ?_ |refine A2 ?_ |refine A3 ?_ |refine A5 ?_ |((first |refine rR (fun K kp hK hkp=>?_) |refine rD (id:=22) AA 24 [0,1,2,3,4,5,6,7,8,9,10,11,12,13,14,15,16,17,18,19,20,21,22,23] (fun K kp hK hkp=>?_) |refine rU (id:=23) AA 12 [⟨0,0,[],[]⟩,⟨0,0,[0],[]⟩,⟨0,0,[0,1],[]⟩,⟨0,0,[0,1,2],[]⟩,⟨0,0,[],[]⟩,⟨0,0,[4],[]⟩,⟨0,0,[4,5],[]⟩,⟨0,0,[4,5,6],[]⟩,⟨0,0,[0,1,2,3,4,5,6,7],[]⟩,⟨0,0,[0,1,2,3,4,5,6,7,8],[]⟩,⟨0,0,[0,1,2,3,4,5,6,7,8,9],[]⟩,⟨0,0,[0,1,2,3,4,5,6,7,8,9,10],[]⟩] 0 [84,85,86,87,88,89,90,91,92,93,94,95] [] (fun K kp hK hkp=>?_) |refine oR [0] tc ?_ |refine iG ?_ |refine iD ?_);simp(implicitDefEqProofs:=false) (maxSteps:=2000000) (disch:=omega) only[go_sem,d3,hy,eT,d4,z1];(repeat' (first |(refine hK _ ?_;clear hK hkp kp K) |(with_reducible refine And.intro ?_ ?_) |omega))) |((first |refine aG (fun h=>?_) (fun h=>?_) |refine aD (fun h=>?_) (fun h=>?_) |refine aX (fun h=>?_) (fun h=>?_))<;>simp only[h]) |refine A0 rfl ?_ |refine A1 rfl ?_ |((refine A4 rfl (fun h=>?_) (fun h=>?_)<;>try simp only[AK] at h)<;>(try (exfalso;omega))) |refine A7 ?_));(refine AB (by(simp(implicitDefEqProofs:=false) (maxSteps:=2000000) (disch:=omega) only[go_sem,results42]);rfl) ?_;refine(AC hE [0] rfl ?_ ?_).s<;>simp[AI,AH,lk,ren,renL,A9,AG])
  ·clear hn w4
   have hp3:=w3.ok.p;unfold Pk D9 at ho;cases oo:BX l wh.2 1 DR
   ·have tc:=AJ E.G l wh.2 1 DR hl (by omega) oo
    simp only[DR,str] at tc;rw[oo,if_neg (by decide)] at ho;cases ho;unfold Aj at *;simp only[List.cons_append,List.nil_append];(repeat' (first |refine A6 ?_ |refine A2 ?_ |refine A3 ?_ |refine A5 ?_ |((first |refine rR (fun K kp hK hkp=>?_) |refine rD (id:=22) AA 24 [0,1,2,3,4,5,6,7,8,9,10,11,12,13,14,15,16,17,18,19,20,21,22,23] (fun K kp hK hkp=>?_) |refine rD (id:=23) AA 12 [0,1,2,3,4,5,6,7,8,9,10,11] (fun K kp hK hkp=>?_) |refine oR [0] tc ?_ |refine iG ?_ |refine iD ?_);simp(implicitDefEqProofs:=false) (maxSteps:=2000000) (disch:=omega) only[go_sem];(repeat' (first |(refine hK _ ?_;clear hK hkp kp K) |(with_reducible refine And.intro ?_ ?_) |omega))) |((first |refine aG (fun h=>?_) (fun h=>?_) |refine aD (fun h=>?_) (fun h=>?_) |refine aX (fun h=>?_) (fun h=>?_))<;>simp only[h]) |refine A0 rfl ?_ |refine A1 rfl ?_ |((refine A4 rfl (fun h=>?_) (fun h=>?_)<;>try simp only[AK] at h)<;>(try (exfalso;omega))) |refine A7 ?_));refine hcut _ ?_;(refine Am hE [0,1,2] rfl ?_ ?_<;>simp[Bi,AH,lk,ren,renL,A9,AG,Aj,str]<;>(try omega))
   ·have tc:=B6 E.G l wh.2 1 DR hl (by omega) oo
    rw[oo,if_pos rfl] at ho;have w5:=BY w3 (As oo).2;generalize AF wh.2=u at tc ho w5;have e1:=B5 E.G l u 1 O0 hl (by have:=w5.ok.p;omega);have w6:=C_ w5 1 O0;unfold AZ Bm B0 at ho;dsimp only at ho;generalize BC l u 1 O0=u1 at e1 w6 ho;have e2:=C4 E.G l u1 hl (by have:=w6.ok.p;omega) hks;have w7:=CC w6;generalize Ae l u1=t1 at e2 w7 ho;have e3:=FC E.G l t1.2 1 F5 hl (by have:=w7.ok.p;omega);generalize Bv l t1.2 1 F5=dn at e3 ho;cases ho;simp only[DR,O0,F5,str] at tc e1 e3;unfold Aj at *;simp only[List.cons_append,List.nil_append];(repeat' (first |refine A6 ?_ |refine A2 ?_ |refine A3 ?_ |refine A5 ?_ |((first |refine rR (fun K kp hK hkp=>?_) |refine rD (id:=22) AA 24 [0,1,2,3,4,5,6,7,8,9,10,11,12,13,14,15,16,17,18,19,20,21,22,23] (fun K kp hK hkp=>?_) |refine rD (id:=23) AA 12 [0,1,2,3,4,5,6,7,8,9,10,11] (fun K kp hK hkp=>?_) |refine oR [0] tc ?_ |refine oR [0] e1 ?_ |refine oR [0] e2 ?_ |refine oR [0] e3 ?_ |refine iG ?_ |refine iD ?_);simp(implicitDefEqProofs:=false) (maxSteps:=2000000) (disch:=omega) only[go_sem];(repeat' (first |(refine hK _ ?_;clear hK hkp kp K) |(with_reducible refine And.intro ?_ ?_) |omega))) |((first |refine aG (fun h=>?_) (fun h=>?_) |refine aD (fun h=>?_) (fun h=>?_) |refine aX (fun h=>?_) (fun h=>?_))<;>simp only[h]) |refine A0 rfl ?_ |refine A1 rfl ?_ |((refine A4 rfl (fun h=>?_) (fun h=>?_)<;>try simp only[AK] at h)<;>(try (exfalso;omega))) |refine A7 ?_));refine hcut _ ?_;(refine Am hE [0,1,2] rfl ?_ ?_<;>simp[Bi,AH,lk,ren,renL,A9,AG,Aj]<;>(try omega))
 ·clear hs1 w1 ht w2 hwh w3 ho w4 hn w0
  have hp:=hs.ok.p;unfold KX at hw;unfold D9 at hw;cases oc:BX l s 1 D6;rotate_left
  ·have tc:=B6 E.G l s 1 D6 hl (by omega) oc
   rw[oc,if_pos rfl] at hw;have w1:=BY hs (As oc).2;generalize AF s=u at tc hw w1;have e1:=B5 E.G l u 4 Ax hl (by have:=w1.ok.p;omega);have w2:=C_ w1 4 Ax;unfold PB AZ Bm B0 at hw;dsimp only at hw;generalize BC l u 4 Ax=u1 at e1 w2 hw;have e2:=B5 E.G l u1 4 BQ hl (by have:=w2.ok.p;omega);have w3:=C_ w2 4 BQ;generalize BC l u1 4 BQ=u2 at e2 w3 hw;have e3:=B5 E.G l u2 4 AW hl (by have:=w3.ok.p;omega);generalize BC l u2 4 AW=u3 at e3 hw;cases hw;simp only[D6,Ax,BQ,AW,str] at tc e1 e2 e3;unfold Aj at *;(try simp only[List.cons_append,List.nil_append]);(repeat' (first |refine A6 ?_ |refine A2 ?_ |refine A3 ?_ |refine A5 ?_ |((first |refine rR (fun K kp hK hkp=>?_) |refine rD (id:=22) AA 24 [0,1,2,3,4,5,6,7,8,9,10,11,12,13,14,15,16,17,18,19,20,21,22,23] (fun K kp hK hkp=>?_) |refine rD (id:=23) AA 12 [0,1,2,3,4,5,6,7,8,9,10,11] (fun K kp hK hkp=>?_) |refine oR [0] tc ?_ |refine oR [0] e1 ?_ |refine oR [0] e2 ?_ |refine oR [0] e3 ?_ |refine iG ?_ |refine iD ?_);simp(implicitDefEqProofs:=false) (maxSteps:=2000000) (disch:=omega) only[go_sem];(repeat' (first |(refine hK _ ?_;clear hK hkp kp K) |(with_reducible refine And.intro ?_ ?_) |omega))) |((first |refine aG (fun h=>?_) (fun h=>?_) |refine aD (fun h=>?_) (fun h=>?_) |refine aX (fun h=>?_) (fun h=>?_))<;>simp only[h]) |refine A0 rfl ?_ |refine A1 rfl ?_ |((refine A4 rfl (fun h=>?_) (fun h=>?_)<;>try simp only[AK] at h)<;>(try (exfalso;omega))) |refine A7 ?_));refine hcut _ ?_;refine Emb.trans (GB 2 4 1 rfl rfl) ?_;(try simp only[BO,List.set_cons_zero,List.set_cons_succ]);(refine Am hE [0,1,2] rfl ?_ ?_<;>simp[Bi,AH,lk,ren,renL,A9,AG,Aj]<;>(try omega))
  have tc:=AJ E.G l s 1 D6 hl (by omega) oc;rw[oc,if_neg (by decide)] at hw;cases os:BX l s 4 BQ;rotate_left
  ·have ts:=B6 E.G l s 4 BQ hl (by omega) os
   rw[os,if_pos rfl] at hw;unfold B0 at hw;cases hw;simp only[D6,BQ,str] at tc ts;unfold Aj at *;(try simp only[List.cons_append,List.nil_append]);(repeat' (first |refine A6 ?_ |refine A2 ?_ |refine A3 ?_ |refine A5 ?_ |((first |refine rR (fun K kp hK hkp=>?_) |refine rD (id:=22) AA 24 [0,1,2,3,4,5,6,7,8,9,10,11,12,13,14,15,16,17,18,19,20,21,22,23] (fun K kp hK hkp=>?_) |refine rD (id:=23) AA 12 [0,1,2,3,4,5,6,7,8,9,10,11] (fun K kp hK hkp=>?_) |refine oR [0] tc ?_ |refine oR [0] ts ?_ |refine iG ?_ |refine iD ?_);simp(implicitDefEqProofs:=false) (maxSteps:=2000000) (disch:=omega) only[go_sem];(repeat' (first |(refine hK _ ?_;clear hK hkp kp K) |(with_reducible refine And.intro ?_ ?_) |omega))) |((first |refine aG (fun h=>?_) (fun h=>?_) |refine aD (fun h=>?_) (fun h=>?_) |refine aX (fun h=>?_) (fun h=>?_))<;>simp only[h]) |refine A0 rfl ?_ |refine A1 rfl ?_ |((refine A4 rfl (fun h=>?_) (fun h=>?_)<;>try simp only[AK] at h)<;>(try (exfalso;omega))) |refine A7 ?_));refine hcut _ ?_;refine Emb.trans (GB 2 4 1 rfl rfl) ?_;(try simp only[BO,List.set_cons_zero,List.set_cons_succ]);(refine Am hE [0,1,2] rfl ?_ ?_<;>simp[Bi,AH,lk,ren,renL,A9,AG,Aj]<;>(try omega))
  have ts:=AJ E.G l s 4 BQ hl (by omega) os;rw[os,if_neg (by decide)] at hw;unfold AZ B0 at hw;dsimp only at hw;obtain⟨r,hr⟩: ∃r,r=ER l 7 [] s:=⟨_,rfl⟩;rw[←hr] at hw;cases hw;simp only[D6,BQ,str] at tc ts;unfold Aj at tc ts;(repeat' (first |refine A6 ?_ |refine A2 ?_ |refine A3 ?_ |refine A5 ?_ |((first |refine rR (fun K kp hK hkp=>?_) |refine rD (id:=22) AA 24 [0,1,2,3,4,5,6,7,8,9,10,11,12,13,14,15,16,17,18,19,20,21,22,23] (fun K kp hK hkp=>?_) |refine rD (id:=23) AA 12 [0,1,2,3,4,5,6,7,8,9,10,11] (fun K kp hK hkp=>?_) |refine oR [0] tc ?_ |refine oR [0] ts ?_ |refine iG ?_ |refine iD ?_);simp(implicitDefEqProofs:=false) (maxSteps:=2000000) (disch:=omega) only[go_sem];(repeat' (first |(refine hK _ ?_;clear hK hkp kp K) |(with_reducible refine And.intro ?_ ?_) |omega))) |((first |refine aG (fun h=>?_) (fun h=>?_) |refine aD (fun h=>?_) (fun h=>?_) |refine aX (fun h=>?_) (fun h=>?_))<;>simp only[h]) |refine A0 rfl ?_ |refine A1 rfl ?_ |((refine A4 rfl (fun h=>?_) (fun h=>?_)<;>try simp only[AK] at h)<;>(try (exfalso;omega))) |refine A7 ?_));(refine AWP.emb (GC 2 4 9 1 rfl rfl (by simp)) ?_;simp only[List.set_cons_zero,List.set_cons_succ,lk,↓reduceIte,Nat.reduceAdd]);refine Ap (fun z:Nat×WK×List ByteArray=>⟨[(0,.p 0 0 0),(2,.p 1 0 0),(3,.p 2 0 0)],Aj l z.2.1++[(1,Pe),(2,Pf ⟨#[]⟩ (.s 3 0 z.2.2.length) false (.r (.slice none 0 0)) ⟨#[]⟩ false (-1)),(3,.lst 9 1 (z.2.2.map Bc))],4⟩) (fun z=>1≤z.1∧z.1+z.2.2.length=7∧ER l z.1 z.2.2 z.2.1=r∧WkG l z.2.1) (fun z=>z.1) (7,s,[]) ?_ ?_ ?_
  ·exact⟨by omega,rfl,hr.symm,hs⟩
  ·unfold Aj
   (refine Am hE [0,1,2,3] rfl ?_ ?_<;>simp[Bi,AH,lk,ren,renL,A9,AG]<;>(try omega))
  clear hr tc ts;rintro⟨g,s,ns⟩ ⟨h0,h1,h2,w1⟩;dsimp only at h0 h1 h2 w1 ⊢;have hp:=w1.ok.p;unfold Aj;simp only[List.cons_append,List.nil_append]
  cases g with
  |zero=>omega
  |succ g=>
  rw[Ky] at h2;unfold Cm at h2;have tk:=Fu Bc ns
  by_cases hd:s.e=0
  rotate_left
  ·have d0:(s.e==0)=false:=by simpa using hd
   rw[if_pos hd] at h2;subst h2;(repeat' (first |refine A6 ?_ |refine A2 ?_ |refine A3 ?_ |refine A5 ?_ |((first |refine rR (fun K kp hK hkp=>?_) |refine rD (id:=22) AA 24 [0,1,2,3,4,5,6,7,8,9,10,11,12,13,14,15,16,17,18,19,20,21,22,23] (fun K kp hK hkp=>?_) |refine rD (id:=23) AA 12 [0,1,2,3,4,5,6,7,8,9,10,11] (fun K kp hK hkp=>?_) |refine iG ?_ |refine iD ?_);simp(implicitDefEqProofs:=false) (maxSteps:=2000000) (disch:=omega) only[go_sem,d0];(repeat' (first |(refine hK _ ?_;clear hK hkp kp K) |(with_reducible refine And.intro ?_ ?_) |omega))) |((first |refine aG (fun h=>?_) (fun h=>?_) |refine aD (fun h=>?_) (fun h=>?_) |refine aX (fun h=>?_) (fun h=>?_))<;>simp only[h]) |refine A0 rfl ?_ |refine A1 rfl ?_ |((refine A4 rfl (fun h=>?_) (fun h=>?_)<;>try simp only[AK] at h)<;>(try (exfalso;omega))) |refine A7 ?_));refine hcut _ ?_;refine Emb.trans (EI 2 4 rfl rfl (by simp only[GL,lk,rm,tk,List.drop_zero,Nat.zero_add,List.length_append,List.length_map,List.length_cons,List.length_nil,Nat.le_refl,↓reduceIte,Nat.reduceEqDiff];rfl) rfl) ?_;simp only[BO,List.set_cons_zero,List.set_cons_succ];(refine Am hE [0,1,2] rfl ?_ ?_<;>simp[Bi,AH,lk,ren,renL,A9,AG,Aj]<;>(try omega))
  have d0:(s.e==0)=true:=by simpa using hd
  rw[if_neg (by simpa using hd)] at h2
  by_cases h6:ns.length=6
  ·rw[if_pos h6] at h2
   have d1:((ns.length:Int)==6)=true:=by simp only[beq_iff_eq];omega
   have sc:=Bl E.G l s 10 hl (by omega);unfold DU at h2;subst h2;unfold Aj at sc;(repeat' (first |refine A6 ?_ |refine A2 ?_ |refine A3 ?_ |refine A5 ?_ |((first |refine rR (fun K kp hK hkp=>?_) |refine rD (id:=22) AA 24 [0,1,2,3,4,5,6,7,8,9,10,11,12,13,14,15,16,17,18,19,20,21,22,23] (fun K kp hK hkp=>?_) |refine rD (id:=23) AA 12 [0,1,2,3,4,5,6,7,8,9,10,11] (fun K kp hK hkp=>?_) |refine oR [0] sc ?_ |refine iG ?_ |refine iD ?_);simp(implicitDefEqProofs:=false) (maxSteps:=2000000) (disch:=omega) only[go_sem,d0,d1];(repeat' (first |(refine hK _ ?_;clear hK hkp kp K) |(with_reducible refine And.intro ?_ ?_) |omega))) |((first |refine aG (fun h=>?_) (fun h=>?_) |refine aD (fun h=>?_) (fun h=>?_) |refine aX (fun h=>?_) (fun h=>?_))<;>simp only[h]) |refine A0 rfl ?_ |refine A1 rfl ?_ |((refine A4 rfl (fun h=>?_) (fun h=>?_)<;>try simp only[AK] at h)<;>(try (exfalso;omega))) |refine A7 ?_));refine hcut _ ?_;refine Emb.trans (EI 2 4 rfl rfl (by simp only[GL,lk,rm,tk,List.drop_zero,Nat.zero_add,List.length_append,List.length_map,List.length_cons,List.length_nil,Nat.le_refl,↓reduceIte,Nat.reduceEqDiff];rfl) rfl) ?_;simp only[BO,List.set_cons_zero,List.set_cons_succ];(refine Am hE [0,1,2] rfl ?_ ?_<;>simp[Bi,AH,lk,ren,renL,A9,AG,Aj]<;>(try omega))
  rw[if_neg h6] at h2
  have d1:((ns.length:Int)==6)=false:=by simp only[beq_eq_false_iff_ne,ne_eq];omega
  have nc:=C4 E.G l s hl (by omega) hks;have w2:=CC w1;unfold AZ at h2;generalize Ae l s=nm at nc w2 h2;unfold D9 B0 at h2;dsimp only at h2;have hp2:=w2.ok.p
  have tk2:(ns.map Bc++[[AV.r (.string nm.1)]]).take (ns.length+1)=(ns++[nm.1]).map Bc:=by
   rw[List.take_of_length_le (by simp),List.map_append];rfl
  cases hcm:BX l nm.2 4 Au
  ·have ec:=AJ E.G l nm.2 4 Au hl (by omega) hcm
   simp only[Au,str] at ec;rw[hcm,if_neg (by decide)] at h2;subst h2;unfold Aj at ec nc;(repeat' (first |refine A6 ?_ |refine A2 ?_ |refine A3 ?_ |refine A5 ?_ |((first |refine rR (fun K kp hK hkp=>?_) |refine rD (id:=22) AA 24 [0,1,2,3,4,5,6,7,8,9,10,11,12,13,14,15,16,17,18,19,20,21,22,23] (fun K kp hK hkp=>?_) |refine rD (id:=23) AA 12 [0,1,2,3,4,5,6,7,8,9,10,11] (fun K kp hK hkp=>?_) |refine oR [0] nc ?_ |refine oR [0] ec ?_ |refine iG ?_ |refine iD ?_);simp(implicitDefEqProofs:=false) (maxSteps:=2000000) (disch:=omega) only[go_sem,d0,d1];(repeat' (first |(refine hK _ ?_;clear hK hkp kp K) |(with_reducible refine And.intro ?_ ?_) |omega))) |((first |refine aG (fun h=>?_) (fun h=>?_) |refine aD (fun h=>?_) (fun h=>?_) |refine aX (fun h=>?_) (fun h=>?_))<;>simp only[h]) |refine A0 rfl ?_ |refine A1 rfl ?_ |((refine A4 rfl (fun h=>?_) (fun h=>?_)<;>try simp only[AK] at h)<;>(try (exfalso;omega))) |refine A7 ?_));refine hcut _ ?_;refine Emb.trans (EI 2 4 rfl rfl (by simp only[GL,lk,rm,tk2,List.drop_zero,Nat.zero_add,List.length_append,List.length_map,List.length_cons,List.length_nil,Nat.le_refl,↓reduceIte,Nat.reduceEqDiff];rfl) rfl) ?_;simp only[BO,List.set_cons_zero,List.set_cons_succ];(refine Am hE [0,1,2] rfl ?_ ?_<;>simp[Bi,AH,lk,ren,renL,A9,AG,Aj]<;>(try omega))
  ·have ec:=B6 E.G l nm.2 4 Au hl (by omega) hcm
   simp only[Au,str] at ec;have w3:=BY w2 (As hcm).2;rw[hcm,if_pos rfl] at h2;unfold Aj at ec nc;(repeat' (first |refine A6 ?_ |refine A2 ?_ |refine A3 ?_ |refine A5 ?_ |((first |refine rR (fun K kp hK hkp=>?_) |refine rD (id:=22) AA 24 [0,1,2,3,4,5,6,7,8,9,10,11,12,13,14,15,16,17,18,19,20,21,22,23] (fun K kp hK hkp=>?_) |refine rD (id:=23) AA 12 [0,1,2,3,4,5,6,7,8,9,10,11] (fun K kp hK hkp=>?_) |refine oR [0] nc ?_ |refine oR [0] ec ?_ |refine iG ?_ |refine iD ?_);simp(implicitDefEqProofs:=false) (maxSteps:=2000000) (disch:=omega) only[go_sem,d0,d1];(repeat' (first |(refine hK _ ?_;clear hK hkp kp K) |(with_reducible refine And.intro ?_ ?_) |omega))) |((first |refine aG (fun h=>?_) (fun h=>?_) |refine aD (fun h=>?_) (fun h=>?_) |refine aX (fun h=>?_) (fun h=>?_))<;>simp only[h]) |refine A0 rfl ?_ |refine A1 rfl ?_ |((refine A4 rfl (fun h=>?_) (fun h=>?_)<;>try simp only[AK] at h)<;>(try (exfalso;omega))) |refine A7 ?_))
   ((first |(refine Ba ((g,AF nm.2,ns++[nm.1])) ?_ ?_ ?_) |(refine BT ((g,AF nm.2,ns++[nm.1])) ?_ ?_ ?_) |(refine nextE ((g,AF nm.2,ns++[nm.1])) ?_ ?_ ?_));rotate_left;(·(try dsimp only);(first |omega |(simp only[List.length_drop,List.length_cons,List.length_append];omega) |(simp;done) |(simp;omega)));(·(refine Am hE [0,1,2,5] rfl ?_ ?_<;>simp[Bi,AH,lk,ren,renL,A9,AG,Aj,Bc]<;>(try omega))))
   refine⟨by omega,by rw[List.length_append];simp only[List.length_cons,List.length_nil];omega,h2,w3⟩
end Go.AM
