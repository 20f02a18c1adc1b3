/- Texts of the law BaseUndoes, part 5: lemmas; what is proved stands in the last text. -/
import Derived.Test.YtekljlenlbhmcaaGreatDoorZz4
import Derived.Test.YtekljlenlbhmcaaGreatDoorZz3
import Derived.OrdersIn
import Derived.OwnWalkIn
import Derived.RangeFuncNested
import Derived.RangeFuncLeaves
import Derived.Lib.Bytealg
import Derived.Lib.BytesEntry
import GoSem.Op.String
open Go.Proofs.Tryz
set_option linter.unusedSimpArgs false
set_option linter.unusedVariables false
set_option maxRecDepth 100000
namespace Go.AM
open Go Go.RowKit
open Go.Proofs.YtekljlenlbhmcaaGreatDoor (OP AY FY DT Aq An StrsAt str E6 DI digB bt AZ)
attribute [local irreducible] AWP Aw
theorem TS (G:List (Nat×List Value))(v:V)(hs:Gc v.s):Con prog G 118 [.agg (eV v)] [] 0 (Is (.r (.int .i64 (AZ v.k v.n v.s))) [] 0) No:=
 BF (by kernel_rfl) (fun w z vs hz hr hG=>by
  obtain⟨u,r,rfl,h1,h2⟩:=hr.head;obtain rfl:=Uv (us:=[.int .i64 v.k,.int .i64 v.n,.string v.s]) h1;obtain rfl:=h2.of_nil
  exact Go.Proofs.YtekljlenlbhmcaaGreatDoor.Pi v.k v.n v.s w hs)
theorem Ji (G:List (Nat×List Value))(v:V)(hs:Gc v.s):Con prog G 134 [.agg (eV v)] [] 0 (Is (.r (.int .i64 (AZ v.k v.n v.s))) [] 0) No:=
 BF (by kernel_rfl) (fun w z vs hz hr hG=>by
  obtain⟨u,r,rfl,h1,h2⟩:=hr.head;obtain rfl:=Uv (us:=[.int .i64 v.k,.int .i64 v.n,.string v.s]) h1;obtain rfl:=h2.of_nil
  exact Go.Proofs.YtekljlenlbhmcaaGreatDoor.Jj v.k v.n v.s w hs)
def ER:Bool→List CO→List V→Int
 |_,_,[]=>0
 |_,[],_::_=>0
 |f,c::cs,v::vs=>if AZ v.k v.n v.s≠0 then AZ v.k v.n v.s else if v.k≠c.k∧(f=true∨v.k≠0) then 4 else ER false cs vs
def BS (l:List CO)(r:List V):Int:=if Am l≠0 then Am l else if r.length≠l.length then 1 else ER true l r
theorem G_ {l:List CO}{r:List V}{k:Nat}{c:CO}{v:V}(hc:l[k]?=some c)(hv:r[k]?=some v):ER (decide (k=0)) (l.drop k) (r.drop k)=
  if AZ v.k v.n v.s≠0 then AZ v.k v.n v.s else if v.k≠c.k∧(k=0∨v.k≠0) then 4 else ER (decide (k+1=0)) (l.drop (k+1)) (r.drop (k+1)):=by
 rw[BA hc,BA hv,ER];simp
set_option maxHeartbeats 8000000 in
theorem Ns {G:List (Nat×List Value)}(T:Tabs G)(l:List CO)(r:List V)(hl:l.length≤1048576)(hr:r.length≤1048576)(hs: ∀c ∈ l,Gc c.nm)(hv: ∀v ∈ r,Gc v.s):Con prog G 87 [.ro true 2 (l.map eC),.ro true 3 (r.map eV)] [] 0 (Is (.r (.int .i64 (BS l r))) [] 0) No:=by
 refine AA func87 rfl (by kernel_rfl) (of_decide_eq_true (by kernel_rfl)) ?_;intro E hG hE;subst hG;simp only[B9];have cc:=HY T true l hl hs
 by_cases h0:Am l=0
 ·rw[h0] at cc
  by_cases hlen:r.length=l.length
  ·have d1:((r.length:Int) !=(l.length:Int))=false:=by simp[hlen]
   have hM:BS l r=ER true l r:=by rw[BS,if_neg (by simpa using h0),if_neg (by simpa using hlen)]
   rw[hM];(repeat' (first |refine A0 ?_ |refine A5 ?_ |refine A6 ?_ |((first |refine rR (fun K kp hK hkp=>?_) |refine cR cc ?_);simp(implicitDefEqProofs:=false) (maxSteps:=2000000) (disch:=omega) only[go_sem,d1];(repeat' (refine hK _ ?_;clear hK hkp kp K))) |refine A4 rfl ?_));refine AH (fun k:Nat=>⟨[(21,.r (.int .i64 k)),(20,.r (.int .i64 r.length)),(19,.ro true 3 (r.map eV)),(0,.ro true 2 (l.map eC))],[],0⟩) (fun k=>k≤r.length∧ER (decide (k=0)) (l.drop k) (r.drop k)=ER true l r) (fun k=>r.length - k) 0 ?_ ?_ ?_
   ·simp
   ·(refine AE hE [] rfl ?_ ?_<;>simp[AU,AO,lk,ren,renL,A9,AL]<;>(try omega))
   intro k ⟨hk,hno⟩
   by_cases hlt:k<r.length
   ·obtain⟨v,hx⟩: ∃x,r[k]?=some x:=⟨r[k],by simp[hlt]⟩
    obtain⟨c,hc⟩: ∃x,l[k]?=some x:=⟨l[k]'(by omega),by simp⟩;rw[G_ hc hx] at hno;have vc:=TS E.G v (hv v (List.mem_of_getElem? hx));simp only[eV] at vc
    by_cases hvc:AZ v.k v.n v.s=0
    ·rw[if_neg (by simpa using hvc)] at hno
     rw[hvc] at vc
     by_cases hkk:v.k=c.k
     ·have n1:(v.k !=c.k)=false:=by simp[hkk]
      rw[if_neg (by simp[hkk])] at hno;(repeat' (first |refine A0 ?_ |refine A5 ?_ |refine A6 ?_ |((first |refine rR (fun K kp hK hkp=>?_) |refine rD (id:=12) mixed 17 [0,1,2,3,4,5,6,7,8,9,10,11,12,13,14,15,16] (fun K kp hK hkp=>?_) |refine cR vc ?_);simp(implicitDefEqProofs:=false) (maxSteps:=2000000) (disch:=omega) only[go_sem,hx,hc,eV,eC,n1];(repeat' (refine hK _ ?_;clear hK hkp kp K))) |refine A4 rfl ?_ |((refine AD rfl (fun h=>?_) (fun h=>?_)<;>try simp only[BQ] at h)<;>(try (exfalso;omega)))))
      ((refine AJ (k+1) ?_ ?_ ?_);rotate_left;(·(try dsimp only);(omega));(·(refine AE hE [] rfl ?_ ?_<;>simp[AU,AO,lk,ren,renL,A9,AL]<;>(try omega))))
      exact⟨by omega,hno⟩
     ·have n1:(v.k !=c.k)=true:=by simp[hkk]
      by_cases hk0:k=0
      ·have n2:((k:Int)==0)=true:=by simp[hk0]
       rw[if_pos ⟨hkk,.inl hk0⟩] at hno;(repeat' (first |refine A0 ?_ |refine A5 ?_ |refine A6 ?_ |((first |refine rR (fun K kp hK hkp=>?_) |refine rD (id:=12) mixed 17 [0,1,2,3,4,5,6,7,8,9,10,11,12,13,14,15,16] (fun K kp hK hkp=>?_) |refine cR vc ?_);simp(implicitDefEqProofs:=false) (maxSteps:=2000000) (disch:=omega) only[go_sem,hx,hc,eV,eC,n1,n2];(repeat' (refine hK _ ?_;clear hK hkp kp K))) |refine A3 rfl ?_ |refine A4 rfl ?_ |((refine AD rfl (fun h=>?_) (fun h=>?_)<;>try simp only[BQ] at h)<;>(try (exfalso;omega))) |refine A8 ?_));(refine A7 (by(simp(implicitDefEqProofs:=false) (maxSteps:=2000000) (disch:=omega) only[go_sem,results87]);rfl) ?_;refine eN hE ?_;simp[AG,ren,renL]);exact hno
      ·have n2:((k:Int)==0)=false:=by simp[hk0]
       by_cases hv0:v.k=0
       ·have n3:(v.k !=0)=false:=by simp[hv0]
        rw[if_neg (by simp[hv0,hk0])] at hno;(repeat' (first |refine A0 ?_ |refine A5 ?_ |refine A6 ?_ |((first |refine rR (fun K kp hK hkp=>?_) |refine rD (id:=12) mixed 17 [0,1,2,3,4,5,6,7,8,9,10,11,12,13,14,15,16] (fun K kp hK hkp=>?_) |refine cR vc ?_);simp(implicitDefEqProofs:=false) (maxSteps:=2000000) (disch:=omega) only[go_sem,hx,hc,eV,eC,n1,n2,n3];(repeat' (refine hK _ ?_;clear hK hkp kp K))) |refine A4 rfl ?_ |((refine AD rfl (fun h=>?_) (fun h=>?_)<;>try simp only[BQ] at h)<;>(try (exfalso;omega)))))
        ((refine AJ (k+1) ?_ ?_ ?_);rotate_left;(·(try dsimp only);(omega));(·(refine AE hE [] rfl ?_ ?_<;>simp[AU,AO,lk,ren,renL,A9,AL]<;>(try omega))))
        exact⟨by omega,hno⟩
       ·have n3:(v.k !=0)=true:=by simp[hv0]
        rw[if_pos ⟨hkk,.inr hv0⟩] at hno;(repeat' (first |refine A0 ?_ |refine A5 ?_ |refine A6 ?_ |((first |refine rR (fun K kp hK hkp=>?_) |refine rD (id:=12) mixed 17 [0,1,2,3,4,5,6,7,8,9,10,11,12,13,14,15,16] (fun K kp hK hkp=>?_) |refine cR vc ?_);simp(implicitDefEqProofs:=false) (maxSteps:=2000000) (disch:=omega) only[go_sem,hx,hc,eV,eC,n1,n2,n3];(repeat' (refine hK _ ?_;clear hK hkp kp K))) |refine A3 rfl ?_ |refine A4 rfl ?_ |((refine AD rfl (fun h=>?_) (fun h=>?_)<;>try simp only[BQ] at h)<;>(try (exfalso;omega))) |refine A8 ?_));(refine A7 (by(simp(implicitDefEqProofs:=false) (maxSteps:=2000000) (disch:=omega) only[go_sem,results87]);rfl) ?_;refine eN hE ?_;simp[AG,ren,renL]);exact hno
    ·have b1:(AZ v.k v.n v.s !=0)=true:=by simpa using hvc
     rw[if_pos hvc] at hno;(repeat' (first |refine A0 ?_ |refine A5 ?_ |refine A6 ?_ |((first |refine rR (fun K kp hK hkp=>?_) |refine cR vc ?_);simp(implicitDefEqProofs:=false) (maxSteps:=2000000) (disch:=omega) only[go_sem,hx,hc,eV,eC,b1];(repeat' (refine hK _ ?_;clear hK hkp kp K))) |refine A3 rfl ?_ |((refine AD rfl (fun h=>?_) (fun h=>?_)<;>try simp only[BQ] at h)<;>(try (exfalso;omega))) |refine A8 ?_));(refine A7 (by(simp(implicitDefEqProofs:=false) (maxSteps:=2000000) (disch:=omega) only[go_sem,results87]);rfl) ?_;refine eN hE ?_;simp[AG,ren,renL]);exact hno
   ·(repeat' (first |refine A0 ?_ |refine AB ?_ |((refine rR (fun K kp hK hkp=>?_));simp(implicitDefEqProofs:=false) (maxSteps:=2000000) (disch:=omega) only[go_sem];(repeat' (refine hK _ ?_;clear hK hkp kp K))) |((refine AD rfl (fun h=>?_) (fun h=>?_)<;>try simp only[BQ] at h)<;>(try (exfalso;omega))) |refine A8 ?_))
    (refine A7 (by(simp(implicitDefEqProofs:=false) (maxSteps:=2000000) (disch:=omega) only[go_sem,results87]);rfl) ?_;refine eN hE ?_;simp[AG,ren,renL])
    rw[←hno,List.drop_of_length_le (l:=r) (by omega)];cases l.drop k<;>rfl
  ·have d1:((r.length:Int) !=(l.length:Int))=true:=by simp;omega
   have hM:BS l r=1:=by rw[BS,if_neg (by simpa using h0),if_pos hlen]
   rw[hM];(repeat' (first |refine A0 ?_ |refine A6 ?_ |((first |refine rR (fun K kp hK hkp=>?_) |refine cR cc ?_);simp(implicitDefEqProofs:=false) (maxSteps:=2000000) (disch:=omega) only[go_sem,d1];(repeat' (refine hK _ ?_;clear hK hkp kp K))) |refine A3 rfl ?_ |refine A4 rfl ?_ |refine A8 ?_));(refine A7 (by(simp(implicitDefEqProofs:=false) (maxSteps:=2000000) (disch:=omega) only[go_sem,results87]);rfl) ?_;refine eN hE ?_;simp[AG,ren,renL])
 ·have b0:(Am l !=0)=true:=by simpa using h0
  have hM:BS l r=Am l:=by rw[BS,if_pos h0]
  rw[hM];(repeat' (first |refine A0 ?_ |((first |refine rR (fun K kp hK hkp=>?_) |refine cR cc ?_);simp(implicitDefEqProofs:=false) (maxSteps:=2000000) (disch:=omega) only[go_sem,b0];(repeat' (refine hK _ ?_;clear hK hkp kp K))) |refine A3 rfl ?_ |refine A8 ?_));(refine A7 (by(simp(implicitDefEqProofs:=false) (maxSteps:=2000000) (disch:=omega) only[go_sem,results87]);rfl) ?_;refine eN hE ?_;simp[AG,ren,renL])
def Yi (l:List CO)(r:List V)(q:Nat×Int):Prop:=q.1≤r.length∧((q.2=0∧r.length=l.length∧ER (decide (q.1=0)) (l.drop q.1) (r.drop q.1)=BS l r)∨(q.2≠0∧q.2=BS l r))
set_option maxHeartbeats 8000000 in
theorem MK {G:List (Nat×List Value)}(l:List CO)(r:List V)(hl:l.length≤1048576)(hr:r.length≤1048576)(hs: ∀c ∈ l,Gc c.nm)(hv: ∀v ∈ r,Gc v.s):Con prog G 78 [.ro true 2 (l.map eC),.ro true 3 (r.map eV)] [] 0 (Is (.r (.int .i64 (BS l r))) [] 0) No:=by
 refine AA func78 rfl (by kernel_rfl) (of_decide_eq_true (by kernel_rfl)) ?_;intro E hG hE;subst hG;simp only[B9];have cc:=GP E.G l hl hs
 by_cases h0:Am l=0
 ·rw[h0] at cc
  by_cases hlen:r.length=l.length
  ·have d1:((r.length:Int) !=(l.length:Int))=false:=by simp[hlen]
   have hM:BS l r=ER true l r:=by rw[BS,if_neg (by simpa using h0),if_neg (by simpa using hlen)]
   (repeat' (first |refine A0 ?_ |refine A5 ?_ |refine A6 ?_ |((first |refine rR (fun K kp hK hkp=>?_) |refine cR cc ?_);simp(implicitDefEqProofs:=false) (maxSteps:=2000000) (disch:=omega) only[go_sem,d1];(repeat' (refine hK _ ?_;clear hK hkp kp K))) |refine A4 rfl ?_));refine AH (fun q:Nat×Int=>⟨[(6,.r (.int .i64 q.1)),(5,.r (.int .i64 q.2)),(0,.ro true 2 (l.map eC)),(1,.ro true 3 (r.map eV))],[],0⟩) (Yi l r) (fun q=>r.length - q.1) (0,0) ?_ ?_ ?_
   ·exact⟨by simp,.inl ⟨rfl,hlen,by rw[hM];simp⟩⟩
   ·(refine AE hE [] rfl ?_ ?_<;>simp[AU,AO,lk,ren,renL,A9,AL]<;>(try omega))
   rintro⟨k,e⟩ ⟨hk,he⟩;simp only at hk he ⊢
   by_cases he0:e=0
   ·subst he0
    obtain⟨_,hlen,hno⟩:(0:Int)=0∧r.length=l.length∧ER (decide (k=0)) (l.drop k) (r.drop k)=BS l r:=he.resolve_right (fun h=>h.1 rfl)
    by_cases hlt:k<r.length
    ·have dk:decide ((k:Int)<(r.length:Int))=true:=decide_eq_true (by omega)
     obtain⟨v,hx⟩: ∃x,r[k]?=some x:=⟨r[k],by simp[hlt]⟩;obtain⟨c,hc⟩: ∃x,l[k]?=some x:=⟨l[k]'(by omega),by simp⟩;rw[G_ hc hx] at hno;have vc:=Ji E.G v (hv v (List.mem_of_getElem? hx));simp only[eV] at vc
     by_cases hvc:AZ v.k v.n v.s=0
     ·rw[if_neg (by simpa using hvc)] at hno
      rw[hvc] at vc
      by_cases hkk:v.k=c.k
      ·have n1:(v.k !=c.k)=false:=by simp[hkk]
       rw[if_neg (by simp[hkk])] at hno;(repeat' (first |refine A0 ?_ |refine A5 ?_ |refine A6 ?_ |((first |refine rR (fun K kp hK hkp=>?_) |refine rD (id:=8) mixed 28 [0,1,2,3,4,5,6,7,8,9,10,11,12,13,14,15,16,17,18,19,20,21,22,23,24,25,26,27] (fun K kp hK hkp=>?_) |refine cR vc ?_);simp(implicitDefEqProofs:=false) (maxSteps:=2000000) (disch:=omega) only[go_sem,hx,hc,eV,eC,n1,dk];(repeat' (refine hK _ ?_;clear hK hkp kp K))) |refine A3 rfl ?_ |refine A4 rfl ?_))
       ((refine AJ ((k+1,0)) ?_ ?_ ?_);rotate_left;(·(try dsimp only);(omega));(·(refine AE hE [] rfl ?_ ?_<;>simp[AU,AO,lk,ren,renL,A9,AL]<;>(try omega))))
       exact⟨by simp only;omega,.inl ⟨rfl,hlen,hno⟩⟩
      ·have n1:(v.k !=c.k)=true:=by simp[hkk]
       by_cases hk0:k=0
       ·have n2:decide ((k:Int)>0)=false:=decide_eq_false (by omega)
        rw[if_pos ⟨hkk,.inl hk0⟩] at hno;(repeat' (first |refine A0 ?_ |refine A5 ?_ |refine A6 ?_ |((first |refine rR (fun K kp hK hkp=>?_) |refine rD (id:=8) mixed 28 [0,1,2,3,4,5,6,7,8,9,10,11,12,13,14,15,16,17,18,19,20,21,22,23,24,25,26,27] (fun K kp hK hkp=>?_) |refine cR vc ?_);simp(implicitDefEqProofs:=false) (maxSteps:=2000000) (disch:=omega) only[go_sem,hx,hc,eV,eC,n1,n2,dk];(repeat' (refine hK _ ?_;clear hK hkp kp K))) |refine A3 rfl ?_))
        ((refine AJ ((k+1,4)) ?_ ?_ ?_);rotate_left;(·(try dsimp only);(omega));(·(refine AE hE [] rfl ?_ ?_<;>simp[AU,AO,lk,ren,renL,A9,AL]<;>(try omega))))
        exact⟨by simp only;omega,.inr ⟨by simp,hno⟩⟩
       ·have n2:decide ((k:Int)>0)=true:=decide_eq_true (by omega)
        by_cases hv0:v.k=0
        ·have n3:(v.k==0)=true:=by simp[hv0]
         rw[if_neg (by simp[hv0,hk0])] at hno;(repeat' (first |refine A0 ?_ |refine A5 ?_ |refine A6 ?_ |((first |refine rR (fun K kp hK hkp=>?_) |refine rD (id:=8) mixed 28 [0,1,2,3,4,5,6,7,8,9,10,11,12,13,14,15,16,17,18,19,20,21,22,23,24,25,26,27] (fun K kp hK hkp=>?_) |refine cR vc ?_);simp(implicitDefEqProofs:=false) (maxSteps:=2000000) (disch:=omega) only[go_sem,hx,hc,eV,eC,n1,n2,n3,dk];(repeat' (refine hK _ ?_;clear hK hkp kp K))) |refine A3 rfl ?_ |refine A4 rfl ?_))
         ((refine AJ ((k+1,0)) ?_ ?_ ?_);rotate_left;(·(try dsimp only);(omega));(·(refine AE hE [] rfl ?_ ?_<;>simp[AU,AO,lk,ren,renL,A9,AL]<;>(try omega))))
         exact⟨by simp only;omega,.inl ⟨rfl,hlen,hno⟩⟩
        ·have n3:(v.k==0)=false:=by simp[hv0]
         rw[if_pos ⟨hkk,.inr hv0⟩] at hno;(repeat' (first |refine A0 ?_ |refine A5 ?_ |refine A6 ?_ |((first |refine rR (fun K kp hK hkp=>?_) |refine rD (id:=8) mixed 28 [0,1,2,3,4,5,6,7,8,9,10,11,12,13,14,15,16,17,18,19,20,21,22,23,24,25,26,27] (fun K kp hK hkp=>?_) |refine cR vc ?_);simp(implicitDefEqProofs:=false) (maxSteps:=2000000) (disch:=omega) only[go_sem,hx,hc,eV,eC,n1,n2,n3,dk];(repeat' (refine hK _ ?_;clear hK hkp kp K))) |refine A3 rfl ?_))
         ((refine AJ ((k+1,4)) ?_ ?_ ?_);rotate_left;(·(try dsimp only);(omega));(·(refine AE hE [] rfl ?_ ?_<;>simp[AU,AO,lk,ren,renL,A9,AL]<;>(try omega))))
         exact⟨by simp only;omega,.inr ⟨by simp,hno⟩⟩
     ·have b1:(AZ v.k v.n v.s==0)=false:=by simpa using hvc
      rw[if_pos hvc] at hno;(repeat' (first |refine A0 ?_ |refine A5 ?_ |refine A6 ?_ |((first |refine rR (fun K kp hK hkp=>?_) |refine rD (id:=8) mixed 28 [0,1,2,3,4,5,6,7,8,9,10,11,12,13,14,15,16,17,18,19,20,21,22,23,24,25,26,27] (fun K kp hK hkp=>?_) |refine cR vc ?_);simp(implicitDefEqProofs:=false) (maxSteps:=2000000) (disch:=omega) only[go_sem,hx,hc,eV,eC,b1,dk];(repeat' (refine hK _ ?_;clear hK hkp kp K))) |refine A3 rfl ?_ |refine A4 rfl ?_))
      ((refine AJ ((k+1,AZ v.k v.n v.s)) ?_ ?_ ?_);rotate_left;(·(try dsimp only);(omega));(·(refine AE hE [] rfl ?_ ?_<;>simp[AU,AO,lk,ren,renL,A9,AL]<;>(try omega))))
      exact⟨by simp only;omega,.inr ⟨hvc,hno⟩⟩
    ·have dk:decide ((k:Int)<(r.length:Int))=false:=decide_eq_false (by omega)
     (repeat' (first |refine A0 ?_ |refine AB ?_ |((refine rR (fun K kp hK hkp=>?_));simp(implicitDefEqProofs:=false) (maxSteps:=2000000) (disch:=omega) only[go_sem,dk];(repeat' (refine hK _ ?_;clear hK hkp kp K))) |refine A4 rfl ?_ |refine A8 ?_));(refine A7 (by(simp(implicitDefEqProofs:=false) (maxSteps:=2000000) (disch:=omega) only[go_sem,results78]);rfl) ?_;refine eN hE ?_;simp[AG,ren,renL])
     rw[←hno,List.drop_of_length_le (l:=r) (by omega)];cases l.drop k<;>rfl
   ·have hno:e=BS l r:=(he.resolve_left (fun h=>he0 h.1)).2
    have b1:(e==0)=false:=by simpa using he0
    by_cases hlt:k<r.length
    ·have dk:decide ((k:Int)<(r.length:Int))=true:=decide_eq_true (by omega)
     (repeat' (first |refine A0 ?_ |refine AB ?_ |((refine rR (fun K kp hK hkp=>?_));simp(implicitDefEqProofs:=false) (maxSteps:=2000000) (disch:=omega) only[go_sem,dk,b1];(repeat' (refine hK _ ?_;clear hK hkp kp K))) |refine A4 rfl ?_ |refine A8 ?_));(refine A7 (by(simp(implicitDefEqProofs:=false) (maxSteps:=2000000) (disch:=omega) only[go_sem,results78]);rfl) ?_;refine eN hE ?_;simp[AG,ren,renL]);exact hno
    ·have dk:decide ((k:Int)<(r.length:Int))=false:=decide_eq_false (by omega)
     (repeat' (first |refine A0 ?_ |refine AB ?_ |((refine rR (fun K kp hK hkp=>?_));simp(implicitDefEqProofs:=false) (maxSteps:=2000000) (disch:=omega) only[go_sem,dk];(repeat' (refine hK _ ?_;clear hK hkp kp K))) |refine A4 rfl ?_ |refine A8 ?_));(refine A7 (by(simp(implicitDefEqProofs:=false) (maxSteps:=2000000) (disch:=omega) only[go_sem,results78]);rfl) ?_;refine eN hE ?_;simp[AG,ren,renL]);exact hno
  ·have d1:((r.length:Int) !=(l.length:Int))=true:=by simp;omega
   have hM:BS l r=1:=by rw[BS,if_neg (by simpa using h0),if_pos hlen]
   (repeat' (first |refine A0 ?_ |refine A5 ?_ |((first |refine rR (fun K kp hK hkp=>?_) |refine cR cc ?_);simp(implicitDefEqProofs:=false) (maxSteps:=2000000) (disch:=omega) only[go_sem,d1];(repeat' (refine hK _ ?_;clear hK hkp kp K))) |refine A3 rfl ?_));refine AH (fun q:Nat×Int=>⟨[(6,.r (.int .i64 q.1)),(5,.r (.int .i64 q.2)),(0,.ro true 2 (l.map eC)),(1,.ro true 3 (r.map eV))],[],0⟩) (Yi l r) (fun q=>r.length - q.1) (0,1) ?_ ?_ ?_
   ·exact⟨by simp,.inr ⟨by decide,hM.symm⟩⟩
   ·(refine AE hE [] rfl ?_ ?_<;>simp[AU,AO,lk,ren,renL,A9,AL]<;>(try omega))
   rintro⟨k,e⟩ ⟨hk,he⟩;simp only at hk he ⊢
   by_cases he0:e=0
   ·subst he0
    exact(hlen (he.resolve_right (fun h=>h.1 rfl)).2.1).elim
   ·have hno:e=BS l r:=(he.resolve_left (fun h=>he0 h.1)).2
    have b1:(e==0)=false:=by simpa using he0
    by_cases hlt:k<r.length
    ·have dk:decide ((k:Int)<(r.length:Int))=true:=decide_eq_true (by omega)
     (repeat' (first |refine A0 ?_ |refine AB ?_ |((refine rR (fun K kp hK hkp=>?_));simp(implicitDefEqProofs:=false) (maxSteps:=2000000) (disch:=omega) only[go_sem,dk,b1];(repeat' (refine hK _ ?_;clear hK hkp kp K))) |refine A4 rfl ?_ |refine A8 ?_));(refine A7 (by(simp(implicitDefEqProofs:=false) (maxSteps:=2000000) (disch:=omega) only[go_sem,results78]);rfl) ?_;refine eN hE ?_;simp[AG,ren,renL]);exact hno
    ·have dk:decide ((k:Int)<(r.length:Int))=false:=decide_eq_false (by omega)
     (repeat' (first |refine A0 ?_ |refine AB ?_ |((refine rR (fun K kp hK hkp=>?_));simp(implicitDefEqProofs:=false) (maxSteps:=2000000) (disch:=omega) only[go_sem,dk];(repeat' (refine hK _ ?_;clear hK hkp kp K))) |refine A4 rfl ?_ |refine A8 ?_));(refine A7 (by(simp(implicitDefEqProofs:=false) (maxSteps:=2000000) (disch:=omega) only[go_sem,results78]);rfl) ?_;refine eN hE ?_;simp[AG,ren,renL]);exact hno
 ·have b0:(Am l==0)=false:=by simpa using h0
  have hM:BS l r=Am l:=by rw[BS,if_pos h0]
  (repeat' (first |refine A0 ?_ |refine A5 ?_ |refine A6 ?_ |((first |refine rR (fun K kp hK hkp=>?_) |refine cR cc ?_);simp(implicitDefEqProofs:=false) (maxSteps:=2000000) (disch:=omega) only[go_sem,b0];(repeat' (refine hK _ ?_;clear hK hkp kp K))) |refine A4 rfl ?_));refine AH (fun q:Nat×Int=>⟨[(6,.r (.int .i64 q.1)),(5,.r (.int .i64 q.2)),(0,.ro true 2 (l.map eC)),(1,.ro true 3 (r.map eV))],[],0⟩) (Yi l r) (fun q=>r.length - q.1) (0,Am l) ?_ ?_ ?_
  ·exact⟨by simp,.inr ⟨h0,hM.symm⟩⟩
  ·(refine AE hE [] rfl ?_ ?_<;>simp[AU,AO,lk,ren,renL,A9,AL]<;>(try omega))
  rintro⟨k,e⟩ ⟨hk,he⟩;simp only at hk he ⊢
  by_cases he0:e=0
  ·subst he0
   obtain⟨_,hlen,hno⟩:(0:Int)=0∧r.length=l.length∧ER (decide (k=0)) (l.drop k) (r.drop k)=BS l r:=he.resolve_right (fun h=>h.1 rfl)
   by_cases hlt:k<r.length
   ·have dk:decide ((k:Int)<(r.length:Int))=true:=decide_eq_true (by omega)
    obtain⟨v,hx⟩: ∃x,r[k]?=some x:=⟨r[k],by simp[hlt]⟩;obtain⟨c,hc⟩: ∃x,l[k]?=some x:=⟨l[k]'(by omega),by simp⟩;rw[G_ hc hx] at hno;have vc:=Ji E.G v (hv v (List.mem_of_getElem? hx));simp only[eV] at vc
    by_cases hvc:AZ v.k v.n v.s=0
    ·rw[if_neg (by simpa using hvc)] at hno
     rw[hvc] at vc
     by_cases hkk:v.k=c.k
     ·have n1:(v.k !=c.k)=false:=by simp[hkk]
      rw[if_neg (by simp[hkk])] at hno;(repeat' (first |refine A0 ?_ |refine A5 ?_ |refine A6 ?_ |((first |refine rR (fun K kp hK hkp=>?_) |refine rD (id:=8) mixed 28 [0,1,2,3,4,5,6,7,8,9,10,11,12,13,14,15,16,17,18,19,20,21,22,23,24,25,26,27] (fun K kp hK hkp=>?_) |refine cR vc ?_);simp(implicitDefEqProofs:=false) (maxSteps:=2000000) (disch:=omega) only[go_sem,hx,hc,eV,eC,n1,dk];(repeat' (refine hK _ ?_;clear hK hkp kp K))) |refine A3 rfl ?_ |refine A4 rfl ?_))
      ((refine AJ ((k+1,0)) ?_ ?_ ?_);rotate_left;(·(try dsimp only);(omega));(·(refine AE hE [] rfl ?_ ?_<;>simp[AU,AO,lk,ren,renL,A9,AL]<;>(try omega))))
      exact⟨by simp only;omega,.inl ⟨rfl,hlen,hno⟩⟩
     ·have n1:(v.k !=c.k)=true:=by simp[hkk]
      by_cases hk0:k=0
      ·have n2:decide ((k:Int)>0)=false:=decide_eq_false (by omega)
       rw[if_pos ⟨hkk,.inl hk0⟩] at hno;(repeat' (first |refine A0 ?_ |refine A5 ?_ |refine A6 ?_ |((first |refine rR (fun K kp hK hkp=>?_) |refine rD (id:=8) mixed 28 [0,1,2,3,4,5,6,7,8,9,10,11,12,13,14,15,16,17,18,19,20,21,22,23,24,25,26,27] (fun K kp hK hkp=>?_) |refine cR vc ?_);simp(implicitDefEqProofs:=false) (maxSteps:=2000000) (disch:=omega) only[go_sem,hx,hc,eV,eC,n1,n2,dk];(repeat' (refine hK _ ?_;clear hK hkp kp K))) |refine A3 rfl ?_))
       ((refine AJ ((k+1,4)) ?_ ?_ ?_);rotate_left;(·(try dsimp only);(omega));(·(refine AE hE [] rfl ?_ ?_<;>simp[AU,AO,lk,ren,renL,A9,AL]<;>(try omega))))
       exact⟨by simp only;omega,.inr ⟨by simp,hno⟩⟩
      ·have n2:decide ((k:Int)>0)=true:=decide_eq_true (by omega)
       by_cases hv0:v.k=0
       ·have n3:(v.k==0)=true:=by simp[hv0]
        rw[if_neg (by simp[hv0,hk0])] at hno;(repeat' (first |refine A0 ?_ |refine A5 ?_ |refine A6 ?_ |((first |refine rR (fun K kp hK hkp=>?_) |refine rD (id:=8) mixed 28 [0,1,2,3,4,5,6,7,8,9,10,11,12,13,14,15,16,17,18,19,20,21,22,23,24,25,26,27] (fun K kp hK hkp=>?_) |refine cR vc ?_);simp(implicitDefEqProofs:=false) (maxSteps:=2000000) (disch:=omega) only[go_sem,hx,hc,eV,eC,n1,n2,n3,dk];(repeat' (refine hK _ ?_;clear hK hkp kp K))) |refine A3 rfl ?_ |refine A4 rfl ?_))
        ((refine AJ ((k+1,0)) ?_ ?_ ?_);rotate_left;(·(try dsimp only);(omega));(·(refine AE hE [] rfl ?_ ?_<;>simp[AU,AO,lk,ren,renL,A9,AL]<;>(try omega))))
        exact⟨by simp only;omega,.inl ⟨rfl,hlen,hno⟩⟩
       ·have n3:(v.k==0)=false:=by simp[hv0]
        rw[if_pos ⟨hkk,.inr hv0⟩] at hno;(repeat' (first |refine A0 ?_ |refine A5 ?_ |refine A6 ?_ |((first |refine rR (fun K kp hK hkp=>?_) |refine rD (id:=8) mixed 28 [0,1,2,3,4,5,6,7,8,9,10,11,12,13,14,15,16,17,18,19,20,21,22,23,24,25,26,27] (fun K kp hK hkp=>?_) |refine cR vc ?_);simp(implicitDefEqProofs:=false) (maxSteps:=2000000) (disch:=omega) only[go_sem,hx,hc,eV,eC,n1,n2,n3,dk];(repeat' (refine hK _ ?_;clear hK hkp kp K))) |refine A3 rfl ?_))
        ((refine AJ ((k+1,4)) ?_ ?_ ?_);rotate_left;(·(try dsimp only);(omega));(·(refine AE hE [] rfl ?_ ?_<;>simp[AU,AO,lk,ren,renL,A9,AL]<;>(try omega))))
        exact⟨by simp only;omega,.inr ⟨by simp,hno⟩⟩
    ·have b1:(AZ v.k v.n v.s==0)=false:=by simpa using hvc
     rw[if_pos hvc] at hno;(repeat' (first |refine A0 ?_ |refine A5 ?_ |refine A6 ?_ |((first |refine rR (fun K kp hK hkp=>?_) |refine rD (id:=8) mixed 28 [0,1,2,3,4,5,6,7,8,9,10,11,12,13,14,15,16,17,18,19,20,21,22,23,24,25,26,27] (fun K kp hK hkp=>?_) |refine cR vc ?_);simp(implicitDefEqProofs:=false) (maxSteps:=2000000) (disch:=omega) only[go_sem,hx,hc,eV,eC,b1,dk];(repeat' (refine hK _ ?_;clear hK hkp kp K))) |refine A3 rfl ?_ |refine A4 rfl ?_))
     ((refine AJ ((k+1,AZ v.k v.n v.s)) ?_ ?_ ?_);rotate_left;(·(try dsimp only);(omega));(·(refine AE hE [] rfl ?_ ?_<;>simp[AU,AO,lk,ren,renL,A9,AL]<;>(try omega))))
     exact⟨by simp only;omega,.inr ⟨hvc,hno⟩⟩
   ·have dk:decide ((k:Int)<(r.length:Int))=false:=decide_eq_false (by omega)
    (repeat' (first |refine A0 ?_ |refine AB ?_ |((refine rR (fun K kp hK hkp=>?_));simp(implicitDefEqProofs:=false) (maxSteps:=2000000) (disch:=omega) only[go_sem,dk];(repeat' (refine hK _ ?_;clear hK hkp kp K))) |refine A4 rfl ?_ |refine A8 ?_));(refine A7 (by(simp(implicitDefEqProofs:=false) (maxSteps:=2000000) (disch:=omega) only[go_sem,results78]);rfl) ?_;refine eN hE ?_;simp[AG,ren,renL])
    rw[←hno,List.drop_of_length_le (l:=r) (by omega)];cases l.drop k<;>rfl
  ·have hno:e=BS l r:=(he.resolve_left (fun h=>he0 h.1)).2
   have b1:(e==0)=false:=by simpa using he0
   by_cases hlt:k<r.length
   ·have dk:decide ((k:Int)<(r.length:Int))=true:=decide_eq_true (by omega)
    (repeat' (first |refine A0 ?_ |refine AB ?_ |((refine rR (fun K kp hK hkp=>?_));simp(implicitDefEqProofs:=false) (maxSteps:=2000000) (disch:=omega) only[go_sem,dk,b1];(repeat' (refine hK _ ?_;clear hK hkp kp K))) |refine A4 rfl ?_ |refine A8 ?_));(refine A7 (by(simp(implicitDefEqProofs:=false) (maxSteps:=2000000) (disch:=omega) only[go_sem,results78]);rfl) ?_;refine eN hE ?_;simp[AG,ren,renL]);exact hno
   ·have dk:decide ((k:Int)<(r.length:Int))=false:=decide_eq_false (by omega)
    (repeat' (first |refine A0 ?_ |refine AB ?_ |((refine rR (fun K kp hK hkp=>?_));simp(implicitDefEqProofs:=false) (maxSteps:=2000000) (disch:=omega) only[go_sem,dk];(repeat' (refine hK _ ?_;clear hK hkp kp K))) |refine A4 rfl ?_ |refine A8 ?_));(refine A7 (by(simp(implicitDefEqProofs:=false) (maxSteps:=2000000) (disch:=omega) only[go_sem,results78]);rfl) ?_;refine eN hE ?_;simp[AG,ren,renL]);exact hno
end Go.AM
namespace Go.AM
open Go
section
variable {P:Program} {ops:Array Oper} {Q:Exit→Act→World→Prop} {n:Nat} {L:Array Bool→Act→World→Prop}
theorem EK (s:Array Bool)(i:Nat):(s.setIfInBounds i true).getD i true=true:=by
 rcases Nat.lt_or_ge i s.size with h |h
 ·simp[Array.getD_eq_getD_getElem?,h]
 ·rw[Array.getD_eq_getD_getElem?,Array.getElem?_eq_none (by simpa using h)];rfl
def Did (fs:List Nat)(s:Array Bool):Prop:= ∀f ∈ fs,s.getD f true=true
theorem Did.set {fs:List Nat}{s:Array Bool}(h:Did fs s)(i:Nat):Did fs (s.setIfInBounds i true):=by
 intro f hf
 by_cases e:i=f
 ·subst e;exact EK _ _
 ·rw[getD_set_ne true e];exact h f hf
theorem JC {fs:List Nat}{i:Nat}{oi:Oper}{v:Value}(hi:ops[i]?=some oi)(hsel: ∀(j:Nat)(o:Oper) cs b,ops[j]?=some o→o.op≠ .select cs b)
  (hQ: ∀c a w,Q (.panic c) (a.put oi.dst v) w→Q (.panic c) a w) (hlt: ∀s,HeadInv .any ops n s→Did fs s→ ∀i,i<n→s.getD i true=false→ ∀j ∈ Region.ready .any ops s,j<n) (hin:i<n)
  (hdone: ∀s a w,L s a w→ ∀j ∈ Region.ready .any ops s,n≤j): ∀(f:Nat)(s:Array Bool)(a:Act)(w:World),HeadInv .any ops n s→Did fs s→
   (∀j oj,ops[j]?=some oj→j≠i→s.getD j true=false→(∀e ∈ oj.after,Region.binds .any e=true→e.on≠i)→oi.apart ops oj=true)→
   i ∈ Region.ready .any ops s→YieldsIf P ops (Ext w) oi v a→Gs P ops Q n L f (s.setIfInBounds i true) (a.put oi.dst v) w→Gs P ops Q n L (f+1) s a w:=by
 intro f
 induction f with
 |zero=>
  intro s a w inv did _ hr hy H;refine⟨fun h=>(by rw[h] at hr;cases hr),fun j hj=>?_⟩;have hjn:j<n:=hlt s inv did i hin (mem_ready.1 hr).1 j hj
  by_cases hji:j=i
  ·subst hji;exact⟨hjn,hy.wpOp hi (Ext.refl w) ⟨Ext.refl w,H⟩⟩
  ·have:=hdone _ _ _ H j (ready_mono hj hji)
   omega
 |succ f ih=>
  intro s a w inv did hfree hr hy H;refine⟨fun h=>(by rw[h] at hr;cases hr),fun j hj=>?_⟩;have hjn:j<n:=hlt s inv did i hin (mem_ready.1 hr).1 j hj;refine⟨hjn,?_⟩
  by_cases hji:j=i
  ·subst hji;exact hy.wpOp hi (Ext.refl w) ⟨Ext.refl w,H⟩
  ·have h1:=(H.2 j (ready_mono hj hji)).2
   obtain⟨hjun,oj,hoj,hall⟩:=mem_ready.1 hj;have hiun:=(mem_ready.1 hr).1
   have hnot: ∀e ∈ oj.after,Region.binds .any e=true→e.on≠i:=fun e he hb heq=>by
    have h2:=hall e he hb;rw[heq,getD_both hiun] at h2;cases h2
   have h2:=wpOp_putIf hoj (hfree j oj hoj hji hjun hnot) (fun cs b=>hsel i oi cs b hi) (fun cs b=>hsel j oj cs b hoj) hQ hy h1;refine wpOp_mono (fun a' w' h3=>⟨h3.2.1,ih _ a' w' (inv.set hj hjn) (did.set j) (fun k ok hk hki hun hno=>hfree k ok hk hki ?_ hno) (ready_mono hr (Ne.symm hji)) (Jf h3.1 h3.2.1) ?_⟩) h2
   ·by_cases hjk:j=k
    ·subst hjk;exact hjun
    ·rwa [getD_set_ne true hjk] at hun
   ·rw[Array.setIfInBounds_comm _ _ hji]
    exact h3.2.2
end
section
variable {P:Program} {E:Env} {N:Nat} {st:AS} {th:List NLoc} {z:AT} {a:Act} {w:World} {AQ:AExit→AS→Prop}
theorem HZ {ops:Array Oper}{kp:AV→AS→Prop}{Q:Exit→Act→World→Prop}{K:AS→Prop}{n:Nat}{fs:List Nat}(hQ: ∀c a d v w,Q (.panic c) (a.put d v) w→Q (.panic c) a w)
  (hp: ∀x v st' th' z' a' w',kp x st'→Sim E N st' th' z' a' w'→Rep w' z' th' x v→Q (.panic [{v:=v,recovered:=false}]) a' w')
  (hK: ∀st' th' z' a' w',K st'→Sim E N st' th' z' a' w'→Q .normal a' w') (hd: ∀o ∈ ops.toList,∀i,o.dst=some i→i<N)
  (h1:Region.noSelect ops=true) (h2: ∀s,HeadInv .any ops n s→Did fs s→ ∀i,i<n→s.getD i true=false→ ∀j ∈ Region.ready .any ops s,j<n):
  ∀(ord:List Nat){s:Array Bool}{st:AS}{th:List NLoc}{z:AT}{a:Act}{w:World},HeadInv .any ops n s→Did fs s→DS ops n ord s=true→Sim E N st th z a w→Bp P E N (BI ops) kp (ops.toList.drop n) (Ah ops ord) st K→Gs P ops Q n (LU P ops Q n) ord.length s a w
 | [],s,st,th,z,a,w,inv,did,ho,h,hx=>⟨ho,CF hp hK _ (fun o ho=>hd o (List.mem_of_mem_drop ho)) h hx⟩
 |i::rest,s,st,th,z,a,w,inv,did,ho,h,hx=>by
  simp only[DS,Bool.and_eq_true,decide_eq_true_eq] at ho;obtain⟨⟨hin,ho1⟩,ho2⟩:=ho
  cases hi:ops[i]? with
  |none=>rw[hi] at ho1;simp at ho1
  |some o=>
   simp only[Ah,List.filterMap_cons,hi] at hx;unfold Bp at hx;change DO _ (DD P E N st o.op (fun v st'=>Bp P E N (BI ops) kp (ops.toList.drop n) (Ah ops rest) (st'.put o.dst v) K) kp) (Bp P E N (BI ops) kp (ops.toList.drop n) (Ah ops rest) (st.put o.dst (.r (.tuple #[]))) K) at hx;have hmem:o ∈ ops.toList:=Array.mem_toList_iff.2 (Array.mem_of_getElem? hi);have hdo:=hd o hmem;simp only[hi] at ho1;have ih: ∀ {s:Array Bool}{st:AS}{th:List NLoc}{z:AT}{a:Act}{w:World},HeadInv .any ops n s→Did fs s→DS ops n rest s=true→Sim E N st th z a w→Bp P E N (BI ops) kp (ops.toList.drop n) (Ah ops rest) st K→Gs P ops Q n (LU P ops Q n) rest.length s a w:=
    HZ hQ hp hK hd h1 h2 rest
   have guard:=CE h hx;split at ho1
   ·rename_i hq
    simp only[Bool.and_eq_true] at ho1;obtain⟨hr,hf⟩:=ho1
    have hr':i ∈ Region.ready .any ops s:=by simpa using hr
    rcases guard with ⟨hw,hs⟩ |⟨hw,hs⟩
    ·obtain⟨x,hqv,hs⟩:=EC hq hs
     obtain⟨v,hrep,hrun⟩:=DE h o hqv;exact JC hi (Region.noSelect_spec h1) (fun c a w=>hQ c a _ _ w) h2 hin (fun s a w hL=>seqB_ready hL.1) _ s a w inv did (Region.free_spec hi hf) hr' (.inl ⟨hw,fun w' e=>hrun w' (e.sameK h)⟩)
      (ih (inv.set hr' hin) (did.set i) ho2 (h.put hrep o.dst hdo) hs)
    ·exact JC hi (Region.noSelect_spec h1) (fun c a w=>hQ c a _ _ w) h2 hin (fun s a w hL=>seqB_ready hL.1) _ s a w inv did (Region.free_spec hi hf) hr' (.inr ⟨hw,rfl⟩)
      (ih (inv.set hr' hin) (did.set i) ho2 (h.put (.r th undef) o.dst hdo) hs)
   ·simp only[decide_eq_true_eq] at ho1
    have hr':i ∈ Region.ready .any ops s:=by rw[ho1];simp
    refine⟨fun h0=>(by rw[h0] at hr';cases hr'),fun j hj=>?_⟩;rw[ho1] at hj
    obtain rfl:j=i:=by simpa using hj
    refine⟨hin,?_⟩;unfold wpOp;simp only[hi]
    rcases guard with ⟨hw,hs⟩ |⟨hw,hs⟩
    ·rw[if_pos hw]
     exact .inl (CZ h o hs hdo (fun x st' th' z' a' w' g1 g2 g3=>⟨g3,ih (inv.set hr' hin) (did.set j) ho2 g2 g1⟩) (fun x v st' th' z' w' g1 g2 g3=>hp x v st' th' z' a w' g1 g2 g3))
    ·rw[if_neg (by rw[hw];exact Bool.false_ne_true)]
     exact⟨Ext.refl w,ih (inv.set hr' hin) (did.set j) ho2 (h.put (.r th undef) o.dst hdo) hs⟩
def Ov (G:List (Nat×List Value)):List Oper→AS→Option AS
 | [],st=>some st
 |⟨d,.move x,_,_,_,none⟩::r,st=>match ev st G x with
  |some v=>Ov G r (st.put d v)
  |none=>none
 |_::_,_=>none
def Y7 (ops:Array Oper)(n:Nat):List Nat→Array Bool→Bool
 | [],_=>true
 |i::r,s=>decide (i<n)&&(ops[i]?).isSome&&(Region.ready .any ops s).contains i&&Region.free .any ops s i&&Y7 ops n r (s.setIfInBounds i true)
def RS (fs:List Nat)(s:Array Bool):Array Bool:=fs.foldl (fun s i=>s.setIfInBounds i true) s
def MQ (ops:Array Oper)(n:Nat)(fs ord:List Nat):Bool:=
 Region.noSelect ops&&Ru ops n fs&&Region.chainB .any ops n&&decide (n<ops.size)&&decide (fs.length+ord.length=n)&&Y7 ops n fs (Array.replicate ops.size false)&&DS ops n ord (RS fs (Array.replicate ops.size false))
theorem OS {fs:List Nat}: ∀ {gs:List Nat}{s:Array Bool},(∀f ∈ fs,f ∈ gs∨s.getD f true=true)→Did fs (RS gs s)
 | [],s,h=>fun f hf=>(h f hf).elim (fun h=>by cases h) id
 |i::r,s,h=>by
  show Did fs (RS r (s.setIfInBounds i true));refine OS fun f hf=>?_
  rcases h f hf with h1 |h1
  ·rcases List.mem_cons.1 h1 with rfl |h1
   ·exact .inr (EK _ _)
   ·exact .inl h1
  ·refine .inr ?_
   by_cases e:i=f
   ·subst e;exact EK _ _
   ·rw[getD_set_ne true e];exact h1
theorem Rk {ops:Array Oper}{Q:Exit→Act→World→Prop}{n g:Nat}(hQ: ∀c a d v w,Q (.panic c) (a.put d v) w→Q (.panic c) a w)(hsel:Region.noSelect ops=true)(hd: ∀o ∈ ops.toList,∀i,o.dst=some i→i<N):
  ∀(fs:List Nat){s:Array Bool}{st st1:AS}{a:Act},Y7 ops n fs s=true→HeadInv .any ops n s→Sim E N st th z a w→Ov E.G (Ah ops fs) st=some st1→
   (∀a',HeadInv .any ops n (RS fs s)→Sim E N st1 th z a' w→wpAny P .any ops Q g (RS fs s) a' w)→wpAny P .any ops Q (fs.length+g) s a w
 | [],s,st,st1,a,_,inv,h,hm,hk=>by
   simp only[Ah,List.filterMap_nil,Ov,Option.some.injEq] at hm;subst hm;have h0:=hk a inv h;rw[List.length_nil,Nat.zero_add];exact h0
 |i::r,s,st,st1,a,ho,inv,h,hm,hk=>by
  simp only[Y7,Bool.and_eq_true,decide_eq_true_eq] at ho;obtain⟨⟨⟨⟨hin,hsome⟩,hr⟩,hf⟩,ho2⟩:=ho;obtain⟨o,hi⟩:=Option.isSome_iff_exists.1 hsome
  have hr':i ∈ Region.ready .any ops s:=by simpa using hr
  have hmem:o ∈ ops.toList:=Array.mem_toList_iff.2 (Array.mem_of_getElem? hi);simp only[Ah,List.filterMap_cons,hi] at hm;obtain⟨d,op,ty,pos,aft,gd⟩:=o;unfold Ov at hm;split at hm
  ·rename_i hq;cases hq
  ·rename_i x d' x' t' p' af' r' e1
   simp only[List.cons.injEq,Oper.mk.injEq] at e1;obtain⟨⟨rfl,rfl,rfl,rfl,rfl,rfl⟩,rfl⟩:=e1;split at hm
   ·rename_i v hv
    rw[show(i::r).length+g=(r.length+g)+1 by simp;omega];refine wpAny_take (v:=a.eval x') hi hsel hf hr (fun c a w=>hQ c a _ _ w) (.inl ⟨by simp[Region.wanted],fun w'=>by simp[execOp]⟩) ?_;exact Rk hQ hsel hd r ho2 (inv.set hr' hin) (h.put (AP h hv) _ (hd _ hmem)) hm hk
   ·cases hm
  ·cases hm
theorem W8 {id:Nat}{ops:Array Oper}{ds:List (Option Nat)}{l l' lf:List Oper}{st1:AS}(hm:P.follows .mixedOrders=true)(n:Nat)(fs ord:List Nat)(hB:MQ ops n fs ord=true)(hd:Cr N ops=true)
  (hds:BI ops=ds) (ht:ops.toList.drop n=l') (hh:Ah ops ord=l) (hf:Ah ops fs=lf) (hv:Ov E.G lf st=some st1) (h:Bp P E N ds (fun x st=>AQ (.pan x) st) l' l st1 (AQ .normal)):AWP P E N (.region id ops true) st AQ:=by
 subst hds ht hh hf;intro Q hQ th z a w hs;simp only[MQ,Bool.and_eq_true,decide_eq_true_eq] at hB;obtain⟨⟨⟨⟨⟨⟨b1,b2⟩,b3⟩,b4⟩,b5⟩,b6⟩,b7⟩:=hB
 have hlt: ∀s,HeadInv .any ops n s→Did fs s→ ∀i,i<n→s.getD i true=false→ ∀j ∈ Region.ready .any ops s,j<n:=by
  intro s inv did i hi hs j hj
  by_cases h:j<n
  ·exact h
  ·have hz:i ∉ fs:=fun hz=>by rw[did i hz] at hs;cases hs
   exact absurd hj (Ie b2 b3 b4 inv _ i rfl hi hz hs j (by omega))
 let Q':Exit→Act→World→Prop:=fun e a w=>match e with
  | .panic c=> ∀a':Act,a'.defers=a.defers→Q (.panic c) a' w
  |e=>Q e a w
 refine wp_mono (Q:=Q') ?_ (fun e a w hq=>by
  cases e
  case panic c=>exact hq a rfl
  all_goals exact hq)
 have hQ': ∀c a d v w,Q' (.panic c) (a.put d v) w→Q' (.panic c) a w:=fun c a d v w hq a' ha=>hq a' (by rw[ha];cases d<;>rfl);have inv0:HeadInv .any ops n (Array.replicate ops.size false):=
  ⟨by simp,fun j oj _ hl=>(by rw[getD_replicate_false] at hl;cases hl),fun t _ ht=>getD_in (by simpa using ht) (getD_replicate_false _ _)⟩
 refine wp_region_any hm ?_;rw[show ops.size=fs.length+(ord.length+(ops.size - n)) by omega];refine Rk (P:=P) (n:=n) (E:=E) (N:=N) (th:=th) (z:=z) (g:=ord.length+(ops.size - n)) hQ' b1 (Bj hd) fs (st1:=st1) (by rw[show fs.length+(ord.length+(ops.size - n))=ops.size by omega];exact b6) (by rw[show fs.length+(ord.length+(ops.size - n))=ops.size by omega];exact inv0) (hs.ext (Ea w)) hv (fun a' inv hsim=>?_);have did:Did fs (RS fs (Array.replicate ops.size false)):=OS fun f hf=> .inl hf;rw[show fs.length+(ord.length+(ops.size - n))=ops.size by omega] at inv ⊢;have key:=HZ (Q:=Q') (K:=AQ .normal) (kp:=fun x st=>AQ (.pan x) st) (P:=P) (fs:=fs) hQ' (fun x v st' th' z' a' w' g1 g2 g3 a2 ha=>hQ.2.2.2 x v st' th' z' w' g1 g2.mem g3 a2 (ha.trans g2.dfs))
  (fun st' th' z' a' w' g1 g2=>hQ.1 st' th' z' a' w' g1 g2) (Bj hd) b1 hlt ord inv did b7 hsim h
 exact Fk (g:=ops.size - n) (fun s a w hL=>by
  have:=wpAny_of_seq (md:= .any) (Q':=Q') (ops.toList.drop n) n s a w (fun j=>by simp[List.getElem?_drop]) (by simpa using hL.1) hL.2
  simpa using this) _ _ _ _ key
end
section
variable {P:Program} {E:Env} {N:Nat} {st:AS} {AQ:AExit→AS→Prop}
attribute [go_sem] Ov
theorem rF {id:Nat}{ops:Array Oper}{ds:List (Option Nat)}{l l' lf:List Oper}{st1:AS}(hm:P.follows .mixedOrders=true)(n:Nat)(fs ord:List Nat)
  (h: ∀(K:AS→Prop)(kp:AV→AS→Prop),(∀st',AQ .normal st'→K st')→(∀x st',AQ (.pan x) st'→kp x st')→G7 P E N ds kp l' l st1 K)
  (hB:MQ ops n fs ord=true:=by kernel_rfl) (hd:Cr N ops=true:=by kernel_rfl) (hg:((Ah ops ord).all fun o=>SX o.op)=true:=by kernel_rfl)
  (hds:BI ops=ds:=by simp only[go_sem];rfl) (ht:ops.toList.drop n=l':=by simp only[go_sem];rfl) (hh:Ah ops ord=l:=by simp only[go_sem];rfl) (hf:Ah ops fs=lf:=by simp only[go_sem];rfl)
  (hv:Ov E.G lf st=some st1:=by simp only[go_sem];rfl):AWP P E N (.region id ops true) st AQ:=
 W8 hm n fs ord hB hd hds ht hh hf hv (DH (by rw[←hh];exact hg) (h _ _ (fun _ h=>h) (fun _ _ h=>h)))
end
end Go.AM
namespace Go.AM
open Go
section
variable {P:Program} {E:Env} {N:Nat} {st:AS} {th:List NLoc} {z:AT} {a:Act} {w:World}
theorem Reps.set_at {c:List AV}{ys:List Value}(h:Reps w z th c ys){j:Nat}{x:AV}(hx: ∀y,ys[j]?=some y→Rep w z th x y):Reps w z th (c.set j x) ys:=by
 refine⟨by simp[h.1],fun i u y h1 h2=>?_⟩;rw[List.getElem?_set] at h1;split at h1
 ·rename_i e;subst e
  split at h1
  ·cases h1;exact hx y h2
  ·cases h1
 ·exact h.2 i u y h1 h2
theorem BD (n j:Nat)(T:TypeId)(k:Nat){T':TypeId}{c:List AV}(h:lk st.o n=some (.box T' c))(hj:c[j]?=some (.r (.slice none 0 0)))(hne:n<st.n):
  Emb E N st {m:=st.m,o:=(n,.box T' (c.set j (.s st.n 0 0)))::(st.n,.lst T k [])::st.o,n:=st.n+1}:=by
 intro th z a w hs;have hk:=hs.know ⟨0,0,0,0,true⟩ (.lst T k []) (fun hp=>by cases hp) (fun _ _ _ _ _ _ hp=>by cases hp) (.inl ⟨rfl,rfl⟩) (.inl rfl)
 have hl:lk (BV st (.lst T k [])).o n=some (.box T' c):=by simp only[BV,lk];rw[if_neg (by omega)];exact h
 refine⟨_,z,hk.say hl (fun L hL hn=>?_)⟩;obtain⟨hp,cells,fr,h1,h2,h3,h4⟩:=hn;refine⟨hp,cells,fr,h1,h2,h3,h4.set_at fun y hy=>?_⟩;obtain⟨y',hy',hr⟩:=h4.get hj;rw[hy] at hy';cases hy';rw[show y= .slice none 0 0 from hr.r_inv];exact .sn _ _ 0 _ (hs.get_new _) rfl
end
end Go.AM
namespace Go.AM
open Go
section
variable {P:Program} {E:Env} {N:Nat} {st:AS} {th:List NLoc} {z:AT} {a:Act} {w:World} {o:List (Nat×Nd)} {n:Nat}
theorem FW {n:Nat}{nd:Nd}{o:List (Nat×Nd)}{j:Nat}{x:Nd}(h:lk ((n,nd)::o) j=some x):(n=j∧x=nd)∨(n≠j∧lk o j=some x):=by
 simp only[lk] at h;split at h
 ·rename_i e;cases h;exact .inl ⟨e,rfl⟩
 ·rename_i e;exact .inr ⟨e,h⟩
theorem BY (n:Nat){T k:Nat}{els:List (List AV)}(h:lk st.o n=some (.lst T k els)):Emb E N st (Ad st n (.ul T k els [])):=by
 intro th z a w hs;obtain⟨U,hU⟩:=hs.mem.uls;obtain⟨L,h1,h2,h3⟩:=hs.mem.nds n _ h;refine⟨th,z,hs.mem.sayU h rfl (fun e he=>?_) ⟨U,hU.say0 h (fun M hM=>?_)⟩,hs.size,hs.dfs,hs.slots⟩
 ·obtain⟨i,hi⟩:=List.mem_iff_getElem?.1 he
  rcases h2 with ⟨_,h0⟩ |⟨_,cells,fr,g1,g2,g3,g4,g5,g6⟩
  ·subst h0;simp at hi
  ·rw[←g3];exact(g6 i e hi).1
 ·rw[h1] at hM;cases hM
  refine⟨fun _ _ _=>False,fun _ _ _ h=>h,fun _ _ _ _ _ h=>h.elim,fun i e he j x hx=>?_⟩
  rcases h2 with ⟨_,h0⟩ |⟨_,cells,fr,g1,g2,g3,g4,g5,g6⟩
  ·subst h0;simp at he
  ·obtain⟨y,hy,hr,ho⟩:=(g6 i e he).2 j x hx
   exact⟨y,by rw[As g1];exact hy,ho,.r _ _ _ hr⟩
theorem EG (n:Nat){T k:Nat}{els:List (List AV)}(h:lk st.o n=some (.ul T k els [])):Emb E N st (Ad st n (.lst T k (Cv true els))):=by
 intro th z a w hs;obtain⟨U,hU⟩:=hs.mem.uls;have m:=hs.mem;obtain⟨L,h1,h2,h3⟩:=m.nds n _ h
 let z':AT:=fun t b=>z t b∨(t=true∧U n b)
 have le:Le w z w z':=⟨fun _ _ h=> .inl h,fun _ _ _=>rfl⟩
 have key: ∀j x,lk ((n,Nd.lst T k (Cv true els))::st.o) j=some x→ ∃y,lk st.o j=some y:=by
  intro j x hj
  rcases FW hj with ⟨rfl,_⟩ |⟨_,hj⟩
  ·exact⟨_,h⟩
  ·exact⟨_,hj⟩
 have hnz: ∀j nd M,lk st.o j=some nd→th[j]?=some M→M.ph=false→ ∀t,¬z' t M.b:=by
  intro j nd M hj hM hp t hz;obtain⟨M',k1,_,k3⟩:=m.nds j nd hj;rw[hM] at k1;cases k1
  rcases hz with hz |⟨_,hz⟩
  ·exact(k3 hp).2.1 t hz
  ·exact hU.kn j nd M n hj hM hp hz
 refine⟨th,z',⟨m.len,fun j x hj=>?_,fun i j x y A B hi hj=>?_,fun t b hz=>?_,m.grow,m.frame,fun t b hb=> .inl (m.zin t b hb),fun b hz=>?_,fun b hz=>?_,fun g cs hg=>⟨.inl (m.globs g cs hg).1,(m.globs g cs hg).2⟩,m.pre,m.sys,fun i b=>i≠n∧U i b,fun i T' k' els' op' M hi hM=>?_,fun i b hb=>hU.lt i b hb.2,fun i b hb t hz=>?_,fun i b hb=>hU.ow i b hb.2,fun i j b hb hb'=>hU.inj i j b hb.2 hb'.2,fun i nd M j hi hM hp hb=>?_⟩,hs.size,hs.dfs,fun i x hi=>?_⟩
 ·rcases FW hj with ⟨rfl,rfl⟩ |⟨hne,hj⟩
  ·refine⟨L,h1,?_,fun hp=>⟨(h3 hp).1,hnz n _ L h h1 hp,(h3 hp).2.2⟩⟩
   rcases h2 with ⟨hp,h0⟩ |⟨hp,cells,fr,g1,g2,g3,g4,g5,g6⟩
   ·subst h0;exact .inl ⟨hp,by simp[Cv]⟩
   ·obtain⟨F,f1,_,f3⟩:=hU.at_ n _ _ _ _ L h h1
    refine .inr ⟨hp,cells,fr,g1,g2,g3,g4,by rw[Fi];exact g5,fun i e he=>?_⟩;rw[Hd,Option.map_eq_some_iff] at he;obtain⟨e0,he0,rfl⟩:=he;refine⟨by rw[He];exact g6 i e0 he0,fun j x hx=>?_⟩;rw[Hf,Option.map_eq_some_iff] at hx;obtain⟨x0,hx0,rfl⟩:=hx;obtain⟨y,hy,ho,hcu⟩:=f3 i e0 he0 j x0 hx0;exact⟨y,by rw[←As g1];exact hy,UC.seen (show UC w z (F i j) x0 y from hcu) (fun _ _ h=> .inl h) (fun b hb=> .inr ⟨rfl,f1 _ _ _ hb⟩),ho⟩
  ·obtain⟨M,k1,k2,k3⟩:=m.nds j x hj
   exact⟨M,k1,by simpa using k2.on le (fun _=>rfl) [],fun hp=>⟨(k3 hp).1,hnz j x M hj k1 hp,(k3 hp).2.2⟩⟩
 ·obtain⟨x',hx'⟩:=key i x hi
  obtain⟨y',hy'⟩:=key j y hj;exact m.inj i j x' y' A B hx' hy'
 ·rcases hz with hz |⟨_,hz⟩
  ·exact m.zlt t b hz
  ·exact hU.lt n b hz
 ·rcases hz with hz |⟨_,hz⟩
  ·exact m.zout b hz
  ·exact .inr (hU.ow n b hz)
 ·rcases hz with hz |⟨hf,_⟩
  ·exact m.zb b hz
  ·cases hf
 ·rcases FW hi with ⟨_,he⟩ |⟨hne,hi⟩
  ·cases he
  ·obtain⟨F,f1,f2,f3⟩:=(hU.at_ i T' k' els' op' M hi hM).on le (fun _ _=>rfl) (.inr rfl) []
   rw[List.append_nil] at f3;exact⟨F,fun a b c hc=>⟨Ne.symm hne,f1 a b c hc⟩,f2,f3⟩
 ·rcases hz with hz |⟨_,hz⟩
  ·exact hU.nz i b hb.2 t hz
  ·exact hb.1 (hU.inj i n b hb.2 hz)
 ·obtain⟨x',hx'⟩:=key i nd hi
  exact hU.kn i x' M j hx' hM hp hb.2
 ·obtain⟨y,hy,hr⟩:=hs.slots i x hi
  exact⟨y,hy,hr.on' le⟩
theorem Ay (n i j:Nat){T k T' k' m lo len:Nat}{els els':List (List AV)}{op:List (Nat×Nat×AV)}{e:List AV}(h:lk st.o n=some (.ul T k els op))(hop:CN op i j=some (.s m lo len))(hm:lk st.o m=some (.ul T' k' els' []))(hne:m≠n)(hle:lo+len≤els'.length)(he:els[i]?=some e)(hj:j<e.length):
  Emb E N st {st with o:=(n,.ul T k (els.set i (e.set j (.u T' k' ((els'.drop lo).take len)))) (Gu op i j 1))::rm st.o m}:=by
 intro th z a w hs;obtain⟨U,hU⟩:=hs.mem.uls;have mm:=hs.mem;obtain⟨L,h1,h2,h3⟩:=mm.nds n _ h;obtain⟨M,m1,m2,m3⟩:=mm.nds m _ hm;obtain⟨F,f1,f2,f3⟩:=hU.at_ n _ _ _ _ L h h1;obtain⟨G,q1,q2,q3⟩:=hU.at_ m _ _ _ _ M hm m1;have hi:i<els.length:=(List.getElem?_eq_some_iff.1 he).1
 have key: ∀q x,lk ((n,Nd.ul T k (els.set i (e.set j (.u T' k' ((els'.drop lo).take len)))) (Gu op i j 1))::rm st.o m) q=some x→q≠m∧ ∃y,lk st.o q=some y:=by
  intro q x hq
  rcases FW hq with ⟨rfl,_⟩ |⟨_,hq⟩
  ·exact⟨Ne.symm hne,_,h⟩
  ·rw[FX] at hq
   split at hq
   ·cases hq
   ·rename_i hqm;exact⟨Ne.symm hqm,_,hq⟩
 let V:Nat→Prop:=fun b=>U m b∨(M.ph=false∧b=M.b)
 have hVn: ∀b,V b→ ¬U n b:=by
  rintro b (hb |⟨hp,rfl⟩) hn
  ·exact hne (hU.inj m n b hb hn)
  ·exact hU.kn m _ M n hm m1 hp hn
 have hVq: ∀q b,q≠m→V b→ ¬U q b:=by
  rintro q b hq (hb |⟨hp,rfl⟩) hn
  ·exact hq (hU.inj q m b hn hb)
  ·exact hU.kn m _ M q hm m1 hp hn
 have hold: ∀q nd,lk (rm st.o m) q=some nd→q≠m∧lk st.o q=some nd:=by
  intro q nd hq;rw[FX] at hq;split at hq
  ·cases hq
  ·rename_i hqm;exact⟨Ne.symm hqm,hq⟩
 refine⟨th,z,⟨mm.len,fun q x hq=>?_,fun p q x y A B hp hq=>?_,mm.zlt,mm.grow,mm.frame,mm.zin,mm.zout,mm.zb,mm.globs,mm.pre,mm.sys,fun q b=>if q=n then U n b∨V b else q≠m∧U q b,fun q T2 k2 els2 op2 A hq hA=>?_,fun q b hb=>?_,fun q b hb=>?_,fun q b hb=>?_,fun p q b hb hb'=>?_,fun p nd A q hp hA hph hb=>?_⟩,hs.size,hs.dfs,hs.slots⟩
 ·rcases FW hq with ⟨rfl,rfl⟩ |⟨_,hq⟩
  ·refine⟨L,h1,?_,h3⟩
   rcases h2 with ⟨_,h0⟩ |⟨hp,cells,fr,g1,g2,g3,g4,g5,g6⟩
   ·subst h0;simp at he
   ·refine .inr ⟨hp,cells,fr,g1,g2,g3,g4,by simpa using g5,fun p e' hp'=>?_⟩
    rw[List.getElem?_set] at hp';split at hp'
    ·obtain rfl:=Option.some.inj hp';rw[List.length_set];exact g6 i e he
    ·exact g6 p e' hp'
  ·exact mm.nds q x (hold q x hq).2
 ·obtain⟨_,x',hx'⟩:=key p x hp
  obtain⟨_,y',hy'⟩:=key q y hq;exact mm.inj p q x' y' A B hx' hy'
 ·rcases FW hq with ⟨rfl,heq⟩ |⟨hqn,hq⟩
  ·cases heq
   rw[h1] at hA;cases hA;simp only[if_true];refine⟨fun a b c=>if a=i∧b=j then V c else F a b c,fun a b c hc=>?_,fun a b a' b' c hc hc'=>?_,fun p e' hp q x hx=>?_⟩
   ·dsimp only at hc
    split at hc
    ·exact .inr hc
    ·exact .inl (f1 _ _ _ hc)
   ·dsimp only at hc hc'
    split at hc<;>split at hc'
    ·omega
    ·exact(hVn c hc (f1 _ _ _ hc')).elim
    ·exact(hVn c hc' (f1 _ _ _ hc)).elim
    ·exact f2 _ _ _ _ _ hc hc'
   ·have old: ∀e0,els[p]?=some e0→e0[q]?=some x→ ¬(p=i∧q=j)→ ∃y,w.cell? ⟨L.b,L.o+p * L.k+q,none⟩=some y∧y.oneCell'=true∧CellU w z th (if p=i∧q=j then V else F p q) (Gu op i j 1) p q x y:=by
     intro e0 he0 hx0 hn;obtain⟨y,hy,ho,hcu⟩:=f3 p e0 he0 q x hx0;refine⟨y,hy,ho,?_⟩;rw[if_neg hn];unfold CellU at hcu ⊢;rw[Ev,if_neg (by omega)];exact hcu
    have hF:(fun c=>if p=i∧q=j then V c else F p q c)=if p=i∧q=j then V else F p q:=by
     split<;>rfl
    show ∃y,w.cell? ⟨L.b,L.o+p * L.k+q,none⟩=some y∧y.oneCell'=true∧CellU w z th (fun c=>if p=i∧q=j then V c else F p q c) (Gu op i j 1) p q x y;rw[hF];rw[List.getElem?_set] at hp;split at hp
    ·rename_i hpi
     ·subst hpi
      obtain rfl:=Option.some.inj hp;rw[List.getElem?_set] at hx;split at hx
      ·rename_i hqj
       ·subst hqj
        obtain rfl:=Option.some.inj hx;obtain⟨y,hy,ho,hcu⟩:=f3 i e he j e[j] (by simp[hj]);refine⟨y,hy,ho,?_⟩;rw[if_pos ⟨rfl,rfl⟩];unfold CellU at hcu ⊢;rw[hop] at hcu;rw[Ev,if_pos (by omega)];obtain⟨M',hM',hcase⟩:=hcu.s_inv;rw[m1] at hM';cases hM'
        rcases hcase with ⟨_,rfl,rfl⟩ |⟨hp2,c,o',rfl,hlc,hcap,hox⟩
        ·simp only[List.take_zero];exact .n _ _ _
        ·rcases m2 with ⟨hp',_⟩ |⟨_,cells,fr,g1,g2,g3,g4,g5,g6⟩
         ·rw[hp2] at hp';cases hp'
         have hlen:((els'.drop lo).take len).length=len:=by simp;omega
         have:=UC.u (w:=w) (z:=z) V T' k' ((els'.drop lo).take len) M.b o' c cells fr (fun a b d=>G (lo+a) b d) (fun a b=>(w.cell? ⟨M.b,o'+a * k'+b,none⟩).getD undef) g1 g2 (by rw[hlen];exact hlc) (fun hc=>by
          have e1:=hox hc;have:(lo+c) * M.k≤M.cap * M.k:=Nat.mul_le_mul_right _ hcap;rw[Nat.add_mul] at this
          rw[e1,←g3];omega) (.inr ⟨hp2,rfl⟩) (fun a b d hd=>⟨.inl (q1 _ _ _ hd),fun e1=>by subst e1;exact hU.kn m _ M m hm m1 hp2 (q1 _ _ _ hd)⟩) (fun a b a' b' d hd hd'=>by
          have:=q2 _ _ _ _ _ hd hd';exact⟨by omega,this.2⟩) (fun a e1 ha=>?_) (fun a e1 b x1 ha hb=>?_) (fun a e1 b x1 ha hb=>?_) (fun a e1 b x1 ha hb=>?_)
         ·rw[hlen] at this;exact this
         all_goals
          rw[List.getElem?_take] at ha;split at ha;rotate_left
          ·cases ha
          rename_i hlt;rw[List.getElem?_drop] at ha
         ·rw[←g3];exact g6 _ _ ha
         all_goals
          obtain⟨y1,hy1,ho1,hcu1⟩:=q3 _ e1 ha b x1 hb;have e2:=hox (by omega)
          have e3:M.o+(lo+a) * M.k+b=o'+a * k'+b:=by rw[e2,Nat.add_mul,g3];omega
          rw[e3] at hy1;simp only[hy1,Option.getD_some]
         ·rw[←As g1];exact hy1
         ·exact ho1
         ·exact hcu1
      ·rename_i hqj
       exact old e he hx (fun hh=>hqj hh.2.symm)
    ·rename_i hpi
     exact old e' hp hx (fun hh=>hpi hh.1.symm)
  ·obtain⟨k1,k9⟩:=hold q _ hq
   obtain⟨F2,u1,u2,u3⟩:=hU.at_ q T2 k2 els2 op2 A k9 hA;refine⟨F2,fun a b c hc=>?_,u2,u3⟩;dsimp only;rw[if_neg (Ne.symm hqn)];exact⟨k1,u1 a b c hc⟩
 ·split at hb
  ·rcases hb with hb |hb |⟨hp,rfl⟩
   ·exact hU.lt _ _ hb
   ·exact hU.lt _ _ hb
   ·exact(m3 hp).1
  ·exact hU.lt _ _ hb.2
 ·split at hb
  ·rcases hb with hb |hb |⟨hp,rfl⟩
   ·exact hU.nz _ _ hb
   ·exact hU.nz _ _ hb
   ·exact(m3 hp).2.1
  ·exact hU.nz _ _ hb.2
 ·split at hb
  ·rcases hb with hb |hb |⟨hp,rfl⟩
   ·exact hU.ow _ _ hb
   ·exact hU.ow _ _ hb
   ·exact(m3 hp).2.2
  ·exact hU.ow _ _ hb.2
 ·split at hb<;>split at hb'
  ·omega
  ·rcases hb with hb |hb
   ·rename_i hpn hqn;subst hpn;exact hU.inj _ _ _ hb hb'.2
   ·exact(hVq q b hb'.1 hb hb'.2).elim
  ·rcases hb' with hb' |hb'
   ·rename_i hpn hqn;subst hqn;exact hU.inj _ _ _ hb.2 hb'
   ·exact(hVq p b hb.1 hb' hb.2).elim
  ·exact hU.inj _ _ _ hb.2 hb'.2
 ·obtain⟨hpm,x',hx'⟩:=key p nd hp
  split at hb
  ·rcases hb with hb |hb |⟨hp2,hb⟩
   ·exact hU.kn p x' A n hx' hA hph hb
   ·exact hU.kn p x' A m hx' hA hph hb
   ·exact hpm (mm.inj p m x' _ A M hx' hm hA m1 hph hp2 hb)
  ·exact hU.kn p x' A q hx' hA hph hb.2
theorem Fg (n i j:Nat){T k T' k':Nat}{els els':List (List AV)}{op:List (Nat×Nat×AV)}{e:List AV}(h:lk st.o n=some (.ul T k els op))(he:els[i]?=some e)(hj:e[j]?=some (.u T' k' els'))(hop:CN op i j=none):
  Emb E N st {m:=st.m,o:=(st.n,.ul T' k' els' [])::(n,.ul T k els ((i,j,.s st.n 0 els'.length)::op))::st.o,n:=st.n+1}:=by
 intro th z a w hs;obtain⟨U,hU⟩:=hs.mem.uls;have mm:=hs.mem;obtain⟨L,h1,h2,h3⟩:=mm.nds n _ h;obtain⟨F,f1,f2,f3⟩:=hU.at_ n _ _ _ _ L h h1;obtain⟨y,hy,ho,hcu⟩:=f3 i e he j _ hj;unfold CellU at hcu;rw[hop] at hcu
 have hltn:n<st.n:=by rw[←mm.len];exact(List.getElem?_eq_some_iff.1 h1).1
 have core: ∃(L':NLoc)(Um:Nat→Prop),NdAt w z (th++[L']) L' (.ul T' k' els' [])∧UlAt w z (th++[L']) Um L' els' []∧Rep w z (th++[L']) (.s st.n 0 els'.length) y∧(L'.ph=false→F i j L'.b)∧ ∀b,Um b→F i j b∧(L'.ph=false→b≠L'.b):=by
  cases hcu with
  |r _ _ _ hr=>cases hr
  |n _ _ _=>exact⟨⟨0,0,0,0,true⟩,fun _=>False,.inl ⟨rfl,rfl⟩,⟨fun _ _ _=>False,fun _ _ _ h=>h,fun _ _ _ _ _ h=>h.elim,fun i e he=>by simp at he⟩,.sn _ _ 0 _ (hs.get_new _) rfl,fun hp=>(by cases hp),fun b h=>h.elim⟩
  |u _ _ _ _ b o c cells fr G ys hb hf hl hsz hfb hF hd hk hy' h1' hx=>
   refine⟨⟨b,if c=0 then 0 else o,k',c,false⟩,fun b'=> ∃p q,G p q b',.inr ⟨rfl,cells,fr,hb,hf,rfl,?_,hl,fun p e1 hp=>hk p e1 hp⟩,⟨G,fun p q b' hb'=>⟨p,q,hb'⟩,hd,fun p e1 hp q x hx'=>⟨ys p q,?_,h1' p e1 q x hp hx',hx p e1 q x hp hx'⟩⟩,.s _ _ 0 _ c o _ (hs.get_new _) rfl hl (by simp) (fun hc=>by simp;omega),fun _=>hfb,fun b' ⟨p,q,hb'⟩=>⟨(hF p q b' hb').1,fun _=>(hF p q b' hb').2⟩⟩
   ·show(if c=0 then 0 else o)+c * k'≤cells.size
    by_cases hc:c=0
    ·simp[hc]
    ·rw[if_neg hc];exact hsz (by omega)
   ·have hlt:p<els'.length:=(List.getElem?_eq_some_iff.1 hp).1
    show w.cell? ⟨b,(if c=0 then 0 else o)+p * k'+q,none⟩=_;rw[if_neg (by omega),As hb];exact hy' p e1 q x hp hx'
 obtain⟨L',Um,c1,c2,c3,c4,c5⟩:=core;have hget:(th++[L'])[st.n]?=some L':=hs.get_new L';have lr:Le w z w z:=Le.refl w z
 have look: ∀q x,lk ((st.n,Nd.ul T' k' els' [])::(n,Nd.ul T k els ((i,j,.s st.n 0 els'.length)::op))::st.o) q=some x→(q=st.n∧x= .ul T' k' els' [])∨(q=n∧x= .ul T k els ((i,j,.s st.n 0 els'.length)::op))∨(q≠st.n∧q≠n∧lk st.o q=some x):=by
  intro q x hq
  rcases FW hq with ⟨rfl,rfl⟩ |⟨g1,hq⟩
  ·exact .inl ⟨rfl,rfl⟩
  ·rcases FW hq with ⟨rfl,rfl⟩ |⟨g2,hq⟩
   ·exact .inr (.inl ⟨rfl,rfl⟩)
   ·exact .inr (.inr ⟨Ne.symm g1,Ne.symm g2,hq⟩)
 have old: ∀q x M,lk st.o q=some x→(th++[L'])[q]?=some M→th[q]?=some M:=by
  intro q x M hq hM;obtain⟨A,k1,_⟩:=mm.nds q x hq;have:=Ae [L'] k1;rw[hM] at this;cases this;exact k1
 have known: ∀q x M,lk ((st.n,Nd.ul T' k' els' [])::(n,Nd.ul T k els ((i,j,.s st.n 0 els'.length)::op))::st.o) q=some x→(th++[L'])[q]?=some M→(q=st.n∧M=L')∨(q≠st.n∧ ∃x',lk st.o q=some x'∧th[q]?=some M):=by
  intro q x M hq hM
  rcases look q x hq with ⟨rfl,_⟩ |⟨rfl,_⟩ |⟨g1,_,g3⟩
  ·rw[hget] at hM;cases hM;exact .inl ⟨rfl,rfl⟩
  ·exact .inr ⟨by omega,_,h,old _ _ _ h hM⟩
  ·exact .inr ⟨g1,_,g3,old _ _ _ g3 hM⟩
 refine⟨th++[L'],z,⟨by simp[mm.len],fun q x hq=>?_,fun p q x y A B hp hq hA hB e1 e2 hb=>?_,mm.zlt,mm.grow,mm.frame,mm.zin,mm.zout,mm.zb,mm.globs,fun i L hi=>Ae _ (mm.pre i L hi),mm.sys,fun q b=>if q=st.n then Um b else if q=n then U n b∧ ¬F i j b else U q b,fun q T2 k2 els2 op2 A hq hA=>?_,fun q b hb=>?_,fun q b hb=>?_,fun q b hb=>?_,fun p q b hb hb'=>?_,fun p nd A q hp hA hph hb=>?_⟩,hs.size,hs.dfs,fun q x hq=>?_⟩
 ·rcases look q x hq with ⟨rfl,rfl⟩ |⟨rfl,rfl⟩ |⟨_,_,g3⟩
  ·exact⟨L',hget,c1,fun hp=>⟨hU.lt n _ (f1 _ _ _ (c4 hp)),hU.nz n _ (f1 _ _ _ (c4 hp)),hU.ow n _ (f1 _ _ _ (c4 hp))⟩⟩
  ·exact⟨L,Ae _ h1,(show NdAt w z (th++[L']) L (.ul T k els op) from h2.on lr (fun _=>rfl) [L']),h3⟩
  ·obtain⟨M,k1,k2,k3⟩:=mm.nds q x g3
   exact⟨M,Ae _ k1,k2.on lr (fun _=>rfl) [L'],k3⟩
 ·rcases known p x A hp hA with ⟨rfl,rfl⟩ |⟨g1,x',g2,g3⟩<;>rcases known q y B hq hB with ⟨rfl,rfl⟩ |⟨g4,y',g5,g6⟩
  ·rfl
  ·have:=f1 _ _ _ (c4 e1);rw[hb] at this;exact(hU.kn q y' B n g5 g6 e2 this).elim
  ·have:=f1 _ _ _ (c4 e2);rw[←hb] at this;exact(hU.kn p x' A n g2 g3 e1 this).elim
  ·exact mm.inj p q x' y' A B g2 g5 g3 g6 e1 e2 hb
 ·rcases look q _ hq with ⟨rfl,heq⟩ |⟨rfl,heq⟩ |⟨g1,g2,g3⟩
  ·cases heq
   rw[hget] at hA;cases hA;simp only[if_true];exact c2
  ·cases heq
   have hA':=old q _ A h hA;rw[h1] at hA';cases hA';rw[show(fun b=>if q=st.n then Um b else if q=q then U q b∧ ¬F i j b else U q b)=fun b=>U q b∧ ¬F i j b by funext b;rw[if_neg (by omega),if_pos rfl]];refine⟨fun a b c=>F a b c∧ ¬(a=i∧b=j),fun a b c hc=>⟨f1 _ _ _ hc.1,fun hij=>hc.2 (f2 _ _ _ _ _ hc.1 hij)⟩,fun a b a' b' c hc hc'=>f2 _ _ _ _ _ hc.1 hc'.1,fun p e1 hp r x hx=>?_⟩;obtain⟨y1,hy1,ho1,hcu1⟩:=f3 p e1 hp r x hx;refine⟨y1,hy1,ho1,?_⟩;unfold CellU at hcu1 ⊢;simp only[CN]
   by_cases hpr:i=p∧j=r
   ·rw[if_pos hpr]
    obtain⟨rfl,rfl⟩:=hpr;rw[hy] at hy1;cases hy1;exact c3
   ·rw[if_neg hpr]
    have:CellU w z th (F p r) op p r x y1:=hcu1;have:=this.on lr (fun _ _=>rfl) [L'];unfold CellU at this;split at this
    ·exact this
    ·exact this.sub (fun b hb=>⟨hb,fun hh=>hpr ⟨hh.1.symm,hh.2.symm⟩⟩)
  ·have hA':=old q _ A g3 hA
   have:=(hU.at_ q T2 k2 els2 op2 A g3 hA').on lr (fun _ _=>rfl) (.inr rfl) [L'];rw[show(fun b=>if q=st.n then Um b else if q=n then U n b∧ ¬F i j b else U q b)=U q by funext b;rw[if_neg g1,if_neg g2]];exact this
 ·split at hb
  ·exact hU.lt n b (f1 _ _ _ (c5 b hb).1)
  ·split at hb
   ·exact hU.lt n b hb.1
   ·exact hU.lt q b hb
 ·split at hb
  ·exact hU.nz n b (f1 _ _ _ (c5 b hb).1)
  ·split at hb
   ·exact hU.nz n b hb.1
   ·exact hU.nz q b hb
 ·split at hb
  ·exact hU.ow n b (f1 _ _ _ (c5 b hb).1)
  ·split at hb
   ·exact hU.ow n b hb.1
   ·exact hU.ow q b hb
 ·have Ur: ∀q b,(if q=st.n then Um b else if q=n then U n b∧ ¬F i j b else U q b)→(q=st.n∧F i j b)∨(q≠st.n∧U q b∧ ¬F i j b):=by
   intro q b hb;split at hb
   ·rename_i e1;exact .inl ⟨e1,(c5 b hb).1⟩
   ·rename_i e1
    split at hb
    ·rename_i e2;subst e2;exact .inr ⟨e1,hb.1,hb.2⟩
    ·rename_i e2;exact .inr ⟨e1,hb,fun hF=>e2 (hU.inj q n b hb (f1 _ _ _ hF))⟩
  rcases Ur p b hb with ⟨g1,g2⟩ |⟨g1,g2,g3⟩<;>rcases Ur q b hb' with ⟨g4,g5⟩ |⟨g4,g5,g6⟩
  ·rw[g1,g4]
  ·exact(g6 g2).elim
  ·exact(g3 g5).elim
  ·exact hU.inj p q b g2 g5
 ·rcases known p nd A hp hA with ⟨rfl,rfl⟩ |⟨g1,x',g2,g3⟩
  ·split at hb
   ·exact(c5 _ hb).2 hph rfl
   ·split at hb
    ·exact hb.2 (c4 hph)
    ·rename_i e1 e2;exact e2 (hU.inj q n _ hb (f1 _ _ _ (c4 hph)))
  ·split at hb
   ·exact hU.kn p x' A n g2 g3 hph (f1 _ _ _ (c5 _ hb).1)
   ·split at hb
    ·exact hU.kn p x' A n g2 g3 hph hb.1
    ·exact hU.kn p x' A q g2 g3 hph hb
 ·obtain⟨u,hu,hr⟩:=hs.slots q x hq
  exact⟨u,hu,hr.on lr [L']⟩
end
end Go.AM
namespace Go.AM
open Go
section
variable {P:Program} {E:Env} {N:Nat} {st:AS} {th:List NLoc} {z:AT} {a:Act} {w:World}
def JI (ρ:List Nat)(o:List (Nat×Nd)):Prop:=(o.map fun p=>ρ[p.1]?).Nodup
theorem Q3 {α β:Type}{f:α→β}: ∀ {l:List α},(l.map f).Nodup→ ∀x ∈ l,∀y ∈ l,f x=f y→x=y
 | [],_,x,hx,_,_,_=>by cases hx
 |z::r,h,x,hx,y,hy,e=>by
  rw[List.map_cons,List.nodup_cons] at h
  rcases List.mem_cons.1 hx with rfl |hx'
  ·rcases List.mem_cons.1 hy with rfl |hy'
   ·rfl
   ·exact absurd (List.mem_map.2 ⟨y,hy',e.symm⟩) h.1
  ·rcases List.mem_cons.1 hy with rfl |hy'
   ·exact absurd (List.mem_map.2 ⟨x,hx',e⟩) h.1
   ·exact Q3 h.2 x hx' y hy' e
theorem Lr {ρ:List Nat}{o:List (Nat×Nd)}(h:JI ρ o){i i' j:Nat}{x y:Nd}(hi:lk o i=some x)(hi':lk o i'=some y)(hj:ρ[i]?=some j)(hj':ρ[i']?=some j):i=i':=by
 have:=Q3 h (i,x) (Bi hi) (i',y) (Bi hi') (by simp only[hj,hj']);exact(Prod.mk.injEq _ _ _ _▸this).1
theorem UlOK.ren2 {U:Nat→Nat→Prop}{o o':List (Nat×Nd)}(hU:UlOK U E o th z w){ρ:List Nat}(hr': ∀j ∈ ρ,j<th.length)(hb':th.length≤1000000000)(hnd:JI ρ o')(get: ∀i nd,lk o' i=some nd→ ∃j,ρ[i]?=some j∧lk o j=some (A9 (AL ρ) nd)):
  UlOK (fun i b=>(∃x,lk o' i=some x)∧ ∃j,ρ[i]?=some j∧U j b) E o' (Cz th ρ) z w:=by
 refine⟨fun i T k els op L hi hL=>?_,fun i b ⟨_,j,_,hb⟩=>hU.lt j b hb,fun i b ⟨_,j,_,hb⟩=>hU.nz j b hb,fun i b ⟨_,j,_,hb⟩=>hU.ow j b hb,fun i i' b ⟨⟨x,hx⟩,j,hj,hb⟩ ⟨⟨y,hy⟩,j',hj',hb'⟩=>?_,fun i nd L q hi hL hp ⟨_,j',_,hb⟩=>?_⟩
 ·obtain⟨j,hj,hnd'⟩:=get i _ hi
  rw[Ap hr' hj] at hL;obtain⟨F,h1,h2,h3⟩:=(hU.at_ j T k els _ L hnd' hL).unren (Cf hr' hb');exact⟨F,fun a b c hc=>⟨⟨_,hi⟩,j,hj,h1 a b c hc⟩,h2,h3⟩
 ·have:=hU.inj j j' b hb hb'
  subst this;exact Lr hnd hx hy hj hj'
 ·obtain⟨j,hj,hnd'⟩:=get i _ hi
  rw[Ap hr' hj] at hL;exact hU.kn j _ L j' hnd' hL hp hb
theorem Mem.ren2 {o o':List (Nat×Nd)}{n:Nat}(h:Mem E o n th z w)(ρ:List Nat)(hr: ∀j ∈ ρ,j<n)(hb:n≤1000000000)(ho:AO ρ o o')(hpre: ∀i,i<E.th0.length→ρ[i]?=some i)(hnd:JI ρ o'):Mem E o' ρ.length (Cz th ρ) z w:=by
 have hr': ∀j ∈ ρ,j<th.length:=fun j hj=>by rw[h.len];exact hr j hj
 have hb':th.length≤1000000000:=by rw[h.len];exact hb
 have get: ∀i nd,lk o' i=some nd→ ∃j,ρ[i]?=some j∧lk o j=some (A9 (AL ρ) nd):=fun i nd hi=>ho _ (Bi hi);refine⟨by simp[Cz],fun i nd hi=>?_,fun i i' x y L M hi hi' hL hM e1 e2 hbb=>?_,h.zlt,h.grow,h.frame,h.zin,h.zout,h.zb,h.globs,fun i L hi=>?_,h.sys,?_⟩
 ·obtain⟨j,hj,hnd⟩:=get i nd hi
  obtain⟨L,k1,k2,k3⟩:=h.nds j _ hnd;exact⟨L,by rw[Ap hr' hj];exact k1,k2.unren (Cf hr' hb'),k3⟩
 ·obtain⟨j,hj,hx⟩:=get i x hi
  obtain⟨j',hj',hy⟩:=get i' y hi';rw[Ap hr' hj] at hL;rw[Ap hr' hj'] at hM;have:=h.inj j j' _ _ L M hx hy hL hM e1 e2 hbb;subst this;exact Lr hnd hi hi' hj hj'
 ·have hi':i<E.th0.length:=(List.getElem?_eq_some_iff.1 hi).1
  rw[Ap hr' (hpre i hi')];exact h.pre i L hi
 ·obtain⟨U,hU⟩:=h.uls
  exact⟨_,hU.ren2 hr' hb' hnd get⟩
theorem Vq (ρ:List Nat){st st':AS}(hm:AU ρ st.m st'.m)(ho:AO ρ st.o st'.o)(hn:st'.n=ρ.length)(hr: ∀j ∈ ρ,j<st.n)(hb:st.n≤1000000000)(hpre: ∀i,i<E.th0.length→ρ[i]?=some i)(hnd:JI ρ st'.o):Emb E N st st':=by
 intro th z a w h;refine⟨Cz th ρ,z,?_,h.size,h.dfs,fun i x hi=>?_⟩
 ·rw[hn];exact h.mem.ren2 ρ hr hb ho hpre hnd
 ·obtain⟨y,hy,hrep⟩:=h.slots i _ (hm _ (Bi hi))
  exact⟨y,hy,hrep.unren (Cf (fun j hj=>by rw[h.mem.len];exact hr j hj) (by rw[h.mem.len];exact hb)) x rfl⟩
theorem Q9 (ρ:List Nat){x y:AV}{o':List (Nat×Nd)}(hx:x=ren (AL ρ) y)(ho:AO ρ st.o o')(hr: ∀j ∈ ρ,j<st.n)(hb:st.n≤1000000000)(hpre: ∀i,i<E.th0.length→ρ[i]?=some i)(hnd:JI ρ o'):EmbV E st x o' ρ.length y:=by
 intro th z w v h hv;exact⟨Cz th ρ,z,h.ren2 ρ hr hb ho hpre hnd,hv.unren (Cf (fun j hj=>by rw[h.len];exact hr j hj) (by rw[h.len];exact hb)) y hx⟩
end
end Go.AM
namespace Go.AM
open Go
section
variable {P:Program} {E:Env} {N:Nat} {st:AS} {th:List NLoc} {z:AT} {a:Act} {w:World} {ops:Array Oper} {Q:Exit→Act→World→Prop}
def UW (ops:Array Oper)(n:Nat):Bool:=(List.range ops.size).all fun t=>decide (t≤n)||(List.range t).any fun t'=>decide (n≤t')&&Region.waitsFor .any ops t t'
theorem NE {n:Nat}{s:Array Bool}(hs:Region.sinkB .any ops n=true)(hc:UW ops n=true)(inv:HeadInv .any ops n s):
  ∀(d i:Nat),n - i=d→i<n→s.getD i true=false→ ∀t,n≤t→t ∉ Region.ready .any ops s:=by
 intro d
 induction d using Nat.strongRecOn with
 |_ d ih=>
  intro i hd hi hun t ht hr;obtain⟨_,ot,hot,hall⟩:=mem_ready.1 hr;have htlt:t<ops.size:=(Array.getElem?_eq_some_iff.1 hot).1
  by_cases htn:t=n
  ·subst htn
   have h1:=List.all_eq_true.1 hs i (List.mem_range.2 hi);obtain⟨j,hj,hj2⟩:=List.any_eq_true.1 h1;simp only[Bool.and_eq_true,decide_eq_true_eq] at hj2;obtain⟨oj,hoj,e,he,hb,hon⟩:=Region.waitsFor_spec hj2.2
   have hjle:j≤t:=by have:=List.mem_range.1 hj;omega
   by_cases hjt:j=t
   ·subst hjt
    have:oj=ot:=Option.some.inj (hoj.symm.trans hot);subst this;have h2:=hall e he hb;rw[hon,getD_both hun] at h2;cases h2
   ·cases hl:s.getD j false with
    |true=>
     have h2:=inv.closed j oj hoj hl e he hb;rw[hon,getD_both hun] at h2;cases h2
    |false=>
     have hjs:j<s.size:=by rw[inv.size];omega
     exact ih (t - j) (by omega) j rfl (by omega) (getD_in hjs hl) t (Nat.le_refl _) hr
  ·have h1:=List.all_eq_true.1 hc t (List.mem_range.2 htlt)
   simp only[Bool.or_eq_true,decide_eq_true_eq] at h1
   rcases h1 with h1 |h1
   ·omega
   ·obtain⟨t',ht',h1⟩:=List.any_eq_true.1 h1
    simp only[Bool.and_eq_true,decide_eq_true_eq] at h1;have:=List.mem_range.1 ht';obtain⟨o',ho',e,he,hb,hon⟩:=Region.waitsFor_spec h1.2;have:o'=ot:=Option.some.inj (ho'.symm.trans hot);subst this;have h2:=hall e he hb;rw[hon,getD_both (inv.tail t' h1.1 (by omega))] at h2;cases h2
def K8 (ops:Array Oper)(ord2:List Nat):Nat→Nat→Array Bool→Bool
 |0,_,s=>DS ops ops.size ord2 s
 |g+1,k,s=>decide (Region.ready .any ops s=[k])&&K8 ops ord2 g (k+1) (s.setIfInBounds k true)
def HE (ops:Array Oper)(n:Nat)(base:Array Bool→Bool):List Nat→Array Bool→Bool
 | [],s=>base s
 |i::r,s=>decide (i<n)&&(match ops[i]? with
  |some o=>Cw o.op&&(Region.ready .any ops s).contains i&&Region.free .any ops s i
  |none=>false)&&HE ops n base r (s.setIfInBounds i true)
theorem KB {kp:AV→AS→Prop}{K:AS→Prop}(hQ: ∀c a d v w,Q (.panic c) (a.put d v) w→Q (.panic c) a w)
  (hp: ∀x v st' th' z' a' w',kp x st'→Sim E N st' th' z' a' w'→Rep w' z' th' x v→Q (.panic [{v:=v,recovered:=false}]) a' w')
  (hK: ∀st' th' z' a' w',K st'→Sim E N st' th' z' a' w'→Q .normal a' w') (hd: ∀o ∈ ops.toList,∀i,o.dst=some i→i<N)
  (h1:Region.noSelect ops=true) (ord2:List Nat) (hg2:((Ah ops ord2).all fun o=>SX o.op)=true):
  ∀(l:List Oper)(k:Nat){s:Array Bool}{st:AS}{th:List NLoc}{z:AT}{a:Act}{w:World},(∀j,j<l.length→l[j]?=ops[k+j]?)→HeadInv .any ops ops.size s→K8 ops ord2 l.length k s=true→Sim E N st th z a w→
   G6 P E N (BI ops) kp l st (fun st1=>G7 P E N (BI ops) kp [] (Ah ops ord2) st1 K)→wpAny P .any ops Q (l.length+ord2.length) s a w
 | [],k,s,st,th,z,a,w,hl,inv,ho,h,hx=>by
   have hx':=DH (P:=P) (E:=E) (N:=N) (tail:=[]) hg2 hx;have hdr:ops.toList.drop ops.size=[]:=List.drop_of_length_le (by simp);rw[←hdr] at hx'
   have key:=Ff (n:=ops.size) hQ hp hK hd h1 (fun s inv i hi hs j hj=>by
    obtain⟨_,oj,hoj,_⟩:=mem_ready.1 hj
    exact(Array.getElem?_eq_some_iff.1 hoj).1) ord2 inv ho h hx'
   have:=Fk (g:=0) (fun s a w hL=>by
    have:=wpAny_of_seq (md:= .any) (Q':=Q) (ops.toList.drop ops.size) ops.size s a w (fun j=>by simp[List.getElem?_drop]) (by simpa using hL.1) hL.2
    simpa using this) _ _ _ _ key
   simpa using this
 |o::rest,k,s,st,th,z,a,w,hl,inv,ho,h,hx=>by
  have hk:ops[k]?=some o:=by simpa using(hl 0 (by simp)).symm
  simp only[List.length_cons,K8,Bool.and_eq_true,decide_eq_true_eq] at ho;have hmem:o ∈ ops.toList:=Array.mem_toList_iff.2 (Array.mem_of_getElem? hk);have hdo:=hd o hmem
  have hr:k ∈ Region.ready .any ops s:=by rw[ho.1];simp
  have inv':=inv.set hr (Array.getElem?_eq_some_iff.1 hk).1;have ih: ∀ {st:AS}{th:List NLoc}{z:AT}{a:Act}{w:World},Sim E N st th z a w→G6 P E N (BI ops) kp rest st (fun st1=>G7 P E N (BI ops) kp [] (Ah ops ord2) st1 K)→wpAny P .any ops Q (rest.length+ord2.length) (s.setIfInBounds k true) a w:=
   KB hQ hp hK hd h1 ord2 hg2 rest (k+1) (fun j hj=>by have:=hl (j+1) (by simp;omega);simpa[Nat.add_assoc,Nat.add_comm 1 j] using this) inv' ho.2
  rw[List.length_cons,show rest.length+1+ord2.length=(rest.length+ord2.length)+1 by omega];refine⟨fun h0=>(by rw[h0] at hr;cases hr),fun i hi=>?_⟩;rw[ho.1] at hi
  obtain rfl:i=k:=by simpa using hi
  unfold G6 at hx;unfold wpOp;simp only[hk]
  rcases CE h hx with ⟨hw,hs⟩ |⟨hw,hs⟩
  ·rw[if_pos hw]
   exact .inl (Ig h o hs hdo (fun x st' th' z' a' w' g1 g2=>ih g2 g1) (fun x v st' th' z' w' g1 g2 g3=>hp x v st' th' z' a w' g1 g2 g3))
  ·rw[if_neg (by rw[hw];exact Bool.false_ne_true)]
   exact ih (h.put (.r th undef) o.dst hdo) hs
theorem Iu {kp:AV→AS→Prop}{K:AS→Prop}{n:Nat}{mid:List Oper}{base:Array Bool→Bool}{L:Array Bool→Act→World→Prop}(hQ: ∀c a d v w,Q (.panic c) (a.put d v) w→Q (.panic c) a w)(hd: ∀o ∈ ops.toList,∀i,o.dst=some i→i<N)
  (h1:Region.noSelect ops=true) (h2: ∀s,HeadInv .any ops n s→ ∀i,i<n→s.getD i true=false→ ∀j ∈ Region.ready .any ops s,j<n)
  (hdone: ∀s a w,L s a w→ ∀j ∈ Region.ready .any ops s,n≤j)
  (hb: ∀s st th z a w,HeadInv .any ops n s→base s=true→Sim E N st th z a w→G6 P E N (BI ops) kp mid st K→L s a w):
  ∀(ord:List Nat){s:Array Bool}{st:AS}{th:List NLoc}{z:AT}{a:Act}{w:World},HeadInv .any ops n s→HE ops n base ord s=true→Sim E N st th z a w→Bp P E N (BI ops) kp mid (Ah ops ord) st K→Gs P ops Q n L ord.length s a w
 | [],s,st,th,z,a,w,inv,ho,h,hx=>hb s st th z a w inv ho h hx
 |i::rest,s,st,th,z,a,w,inv,ho,h,hx=>by
  simp only[HE,Bool.and_eq_true,decide_eq_true_eq] at ho;obtain⟨⟨hin,ho1⟩,ho2⟩:=ho
  cases hi:ops[i]? with
  |none=>rw[hi] at ho1;simp at ho1
  |some o=>
   simp only[Ah,List.filterMap_cons,hi] at hx;unfold Bp at hx;change DO _ (DD P E N st o.op (fun v st'=>Bp P E N (BI ops) kp mid (Ah ops rest) (st'.put o.dst v) K) kp) (Bp P E N (BI ops) kp mid (Ah ops rest) (st.put o.dst (.r (.tuple #[]))) K) at hx;have hdo:=hd o (Array.mem_toList_iff.2 (Array.mem_of_getElem? hi));simp only[hi,Bool.and_eq_true] at ho1;obtain⟨⟨hq,hr⟩,hf⟩:=ho1
   have hr':i ∈ Region.ready .any ops s:=by simpa using hr
   have ih: ∀ {s:Array Bool}{st:AS}{th:List NLoc}{z:AT}{a:Act}{w:World},HeadInv .any ops n s→HE ops n base rest s=true→Sim E N st th z a w→Bp P E N (BI ops) kp mid (Ah ops rest) st K→Gs P ops Q n L rest.length s a w:=
    Iu hQ hd h1 h2 hdone hb rest
   rcases CE h hx with ⟨hw,hs⟩ |⟨hw,hs⟩
   ·obtain⟨x,hqv,hs⟩:=EC hq hs
    obtain⟨v,hrep,hrun⟩:=DE h o hqv;exact D9 hi (Region.noSelect_spec h1) (fun c a w=>hQ c a _ _ w) h2 hin hdone _ s a w inv (Region.free_spec hi hf) hr' (.inl ⟨hw,fun w' e=>hrun w' (e.sameK h)⟩)
     (ih (inv.set hr' hin) ho2 (h.put hrep o.dst hdo) hs)
   ·exact D9 hi (Region.noSelect_spec h1) (fun c a w=>hQ c a _ _ w) h2 hin hdone _ s a w inv (Region.free_spec hi hf) hr' (.inr ⟨hw,rfl⟩)
     (ih (inv.set hr' hin) ho2 (h.put (.r th undef) o.dst hdo) hs)
def VW (ops:Array Oper)(n m:Nat)(ord ord2:List Nat):Bool:=
 Region.noSelect ops&&Region.sinkB .any ops n&&UW ops n&&decide (n<m)&&decide (m≤ops.size)&&decide (ord.length=n)&&decide (ord2.length=ops.size - m)&&HE ops n (K8 ops ord2 (m - n) n) ord (Array.replicate ops.size false)
theorem W4 {id:Nat}{AQ:AExit→AS→Prop}{ds:List (Option Nat)}{l lm l2:List Oper}(hm:P.follows .mixedOrders=true)(n m:Nat)(ord ord2:List Nat)(hB:VW ops n m ord ord2=true)(hd:Cr N ops=true)
  (hg:((Ah ops ord).all fun o=>SX o.op)=true) (hg2:((Ah ops ord2).all fun o=>SX o.op)=true)
  (hds:BI ops=ds) (ht:(ops.toList.drop n).take (m - n)=lm) (hh:Ah ops ord=l) (hh2:Ah ops ord2=l2)
  (h: ∀(K:AS→Prop)(kp:AV→AS→Prop),(∀st',AQ .normal st'→K st')→(∀x st',AQ (.pan x) st'→kp x st')→G7 P E N ds kp lm l st (fun st1=>G7 P E N ds kp [] l2 st1 K)):AWP P E N (.region id ops true) st AQ:=by
 subst hds ht hh hh2;have h:=DH hg (h (AQ .normal) (fun x st=>AQ (.pan x) st) (fun _ h=>h) (fun _ _ h=>h));intro Q hQ th z a w hs;simp only[VW,Bool.and_eq_true,decide_eq_true_eq] at hB;obtain⟨⟨⟨⟨⟨⟨⟨b1,b2⟩,b3⟩,b4⟩,b5⟩,b6⟩,b7⟩,b8⟩:=hB
 let Q':Exit→Act→World→Prop:=fun e a w=>match e with
  | .panic c=> ∀a':Act,a'.defers=a.defers→Q (.panic c) a' w
  |e=>Q e a w
 refine wp_mono (Q:=Q') ?_ (fun e a w hq=>by
  cases e
  case panic c=>exact hq a rfl
  all_goals exact hq)
 have inv0:HeadInv .any ops n (Array.replicate ops.size false):=
  ⟨by simp,fun j oj _ hl=>(by rw[getD_replicate_false] at hl;cases hl),fun t _ ht=>getD_in (by simpa using ht) (getD_replicate_false _ _)⟩
 refine wp_region_any hm ?_;have hQ1: ∀c a d v w,Q' (.panic c) (a.put d v) w→Q' (.panic c) a w:=fun c a d v w hq a' ha=>hq a' (by rw[ha];cases d<;>rfl);have hp1: ∀x v st' th' z' a' w',AQ (.pan x) st'→Sim E N st' th' z' a' w'→Rep w' z' th' x v→Q' (.panic [{v:=v,recovered:=false}]) a' w':=fun x v st' th' z' a' w' g1 g2 g3 a2 ha=>hQ.2.2.2 x v st' th' z' w' g1 g2.mem g3 a2 (ha.trans g2.dfs);have hK1: ∀st' th' z' a' w',AQ .normal st'→Sim E N st' th' z' a' w'→Q' .normal a' w':=fun st' th' z' a' w' g1 g2=>hQ.1 st' th' z' a' w' g1 g2
 have hml:((ops.toList.drop n).take (m - n)).length=m - n:=by simp;omega
 obtain⟨g,hgm⟩: ∃g,m - n=g+1:=⟨m - n - 1,by omega⟩;have key:=Iu (P:=P) (Q:=Q') (n:=n) (L:=fun s a w=>(∀j ∈ Region.ready .any ops s,n≤j)∧wpAny P .any ops Q' ((m - n)+ord2.length) s a w) hQ1 (Bj hd) b1
  (fun s inv i hi hs j hj=>by
   by_cases h:j<n
   ·exact h
   ·exact absurd hj (NE b2 b3 inv _ i rfl hi hs j (by omega)))
  (fun s a w hL=>hL.1)
  (fun s st th z a w inv hb hs hx=>by
   refine⟨?_,?_⟩
   ·rw[hgm] at hb
    simp only[K8,Bool.and_eq_true,decide_eq_true_eq] at hb;intro j hj;rw[hb.1] at hj
    have:j=n:=by simpa using hj
    omega
   ·have:=KB (P:=P) (Q:=Q') (kp:=fun x st=>AQ (.pan x) st) hQ1 hp1 hK1 (Bj hd) b1 ord2 hg2 _ n (s:=s) (fun j hj=>by
     rw[hml] at hj
     rw[List.getElem?_take_of_lt hj,List.getElem?_drop];simp) ⟨inv.size,inv.closed,fun t h1 h2=>by omega⟩ (by rw[hml];exact hb) hs hx
    rw[hml] at this
    exact this)
  ord inv0 b8 (hs.ext (Ea w)) h
 have:=Fk (fun s a w hL=>hL.2) _ _ _ _ key;rw[b6,b7,show n+(m - n+(ops.size - m))=ops.size by omega] at this;exact this
def Za (P:Program)(E:Env)(N:Nat)(ds:List (Option Nat))(l2:List Oper)(AQ:AExit→AS→Prop)(st1:AS):Prop:= ∀(K:AS→Prop)(kp:AV→AS→Prop),(∀st',AQ .normal st'→K st')→(∀x st',AQ (.pan x) st'→kp x st')→G7 P E N ds kp [] l2 st1 K
theorem Ym {ds:List (Option Nat)}{l2:List Oper}{AQ:AExit→AS→Prop}{st1:AS}(h: ∀(K:AS→Prop)(kp:AV→AS→Prop),(∀st',AQ .normal st'→K st')→(∀x st',AQ (.pan x) st'→kp x st')→G7 P E N ds kp [] l2 st1 K):Za P E N ds l2 AQ st1:=h
theorem rP {id:Nat}{AQ:AExit→AS→Prop}{ds:List (Option Nat)}{l lm l2:List Oper}(hm:P.follows .mixedOrders=true)(n m:Nat)(ord ord2:List Nat)
  (h: ∀(K:AS→Prop)(kp:AV→AS→Prop),(∀st',Za P E N ds l2 AQ st'→K st')→(∀x st',AQ (.pan x) st'→kp x st')→G7 P E N ds kp lm l st K)
  (hB:VW ops n m ord ord2=true:=by kernel_rfl) (hd:Cr N ops=true:=by kernel_rfl)
  (hg:((Ah ops ord).all fun o=>SX o.op)=true:=by kernel_rfl) (hg2:((Ah ops ord2).all fun o=>SX o.op)=true:=by kernel_rfl)
  (hds:BI ops=ds:=by simp only[go_sem];rfl) (ht:(ops.toList.drop n).take (m - n)=lm:=by simp only[go_sem];rfl) (hh:Ah ops ord=l:=by simp only[go_sem];rfl) (hh2:Ah ops ord2=l2:=by simp only[go_sem];rfl):AWP P E N (.region id ops true) st AQ:=
 W4 hm n m ord ord2 hB hd hg hg2 hds ht hh hh2 fun K kp hK hkp=>h _ kp (fun _ hh=>hh K kp hK hkp) hkp
end
end Go.AM
namespace Go.AM
open Go
theorem Ny {E:Env}{N:Nat}{st:AS}{T:TypeId}(n:Nat)(h:lk st.o n=some (.lst T 1 [[.r (.slice none 0 0)]])):Emb E N st (Ad st n (.lst T 1 [[.ro true 1 []]])):=fun th z a w hs=>
 ⟨th,z,hs.say h fun L hL hA=>by
  rcases hA with hA |⟨hp,cells,fr,h1,h2,h3,h4,h5,h6⟩
  ·exact absurd hA.2 (by simp)
  ·refine .inr ⟨hp,cells,fr,h1,h2,h3,h4,h5,fun i e he=>?_⟩
   cases i with
   |succ i=>simp at he
   |zero=>
    obtain rfl:e=[.ro true 1 []]:=by simpa using he.symm
    obtain⟨g1,g2⟩:=h6 0 [.r (.slice none 0 0)] rfl;refine⟨g1,fun j x hx=>?_⟩
    cases j with
    |succ j=>simp at hx
    |zero=>
     obtain rfl:x= .ro true 1 []:=by simpa using hx.symm
     obtain⟨y,hy,hr,ho⟩:=g2 0 (.r (.slice none 0 0)) rfl;obtain rfl:=hr.r_inv
     exact⟨_,hy,.nil _ _ _ _ _,ho⟩⟩
end Go.AM
namespace Go.AM
open Go
section
variable {P:Program} {G:List (Nat×List Value)} {N:Nat} {m m':List (Nat×AV)} {z z':AT} {a:Act} {w:World} {E:Env} {st:AS} {th:List NLoc} {o:List (Nat×Nd)} {n:Nat}
def At (G:List (Nat×List Value))(N:Nat)(m:List (Nat×AV))(z:AT)(a:Act)(w:World):Prop:=Sim ⟨w,fun _=>False,z,G,[],[]⟩ N ⟨m,[],0⟩ [] z a w
theorem KC {w:World}{z:AT}(hz: ∀t b,z t b→b<w.heap.size)(hG: ∀g cs,(g,cs) ∈ G→z true g∧ ∀(j:Nat) v,cs[j]?=some v→w.cell? ⟨g,j,none⟩=some v):Mem ⟨w,fun _=>False,z,G,[],[]⟩ [] 0 [] z w:=
 ⟨rfl,fun i nd hi=>by simp[lk] at hi,fun i j x y L M hi=>by simp[lk] at hi,hz,Nat.le_refl _,fun _ _ _=>rfl,fun _ _ h=>h,fun b h=> .inl h,fun b h=>h,hG,fun i L hi=>by simp at hi,Sys.refl w,FN rfl⟩
theorem IX (hG:E.G=G)(hds:E.ds=[])(h:Sim E N ⟨m,[],0⟩ th z a w):At G N m z a w:=by
 have hth:th=[]:=List.length_eq_zero_iff.1 h.mem.len;subst hth;exact⟨KC h.mem.zlt fun g cs hg=>h.mem.globs g cs (by rw[hG];exact hg),h.size,h.dfs.trans hds,h.slots⟩
structure Since (w:World)(z:AT)(w':World)(z':AT):Prop where
 ext:Ext w w'
 sub: ∀t b,z t b→z' t b
 new: ∀t b,z' t b→z t b∨(t=true∧w.heap.size≤b∧b<w'.heap.size)
theorem Since.trans {w1 w2 w3:World}{z1 z2 z3:AT}(h:Since w1 z1 w2 z2)(k:Since w2 z2 w3 z3):Since w1 z1 w3 z3:=
 ⟨h.ext.trans k.ext,fun t b hb=>k.sub t b (h.sub t b hb),fun t b hb=>by
  rcases k.new t b hb with q |⟨q1,q2,q3⟩
  ·rcases h.new t b q with r |⟨r1,r2,r3⟩
   ·exact .inl r
   ·exact .inr ⟨r1,r2,Nat.lt_of_lt_of_le r3 k.ext.size⟩
  ·exact .inr ⟨q1,Nat.le_trans h.ext.size q2,q3⟩⟩
def TI:AExit→Exit
 | .normal=> .normal
 | .exit id=> .exit id
 | .ret=> .ret
 | .pan _=> .outgrown
def St (E:Env)(N:Nat)(AQ:AExit→List (Nat×AV)→Prop):AExit→AS→Prop
 | .pan _,_=>False
 |e,st=> ∃m',AQ e m'∧Emb E N st ⟨m',[],0⟩
theorem Ch {w w':World}{z z':AT}(h:Mem ⟨w,fun _=>False,z,G,[],[]⟩ o n th z' w'):Since w z w' z':=
 ⟨⟨h.grow,fun b hb=>h.frame b hb (fun x=>x),h.sys⟩,h.zin,fun t b hb=>by
   cases t with
   |true=>
    rcases h.zout b hb with q |q |q
    ·exact .inl q
    ·exact q.elim
    ·exact .inr ⟨rfl,q,h.zlt _ _ hb⟩
   |false=>exact .inl (h.zb b hb)⟩
theorem Ud {c:Code}{AQ:AExit→List (Nat×AV)→Prop}{Q:Exit→Act→World→Prop}(hA: ∀E:Env,E.G=G→E.th0.length=0→AWP P E N c ⟨m,[],0⟩ (St E N AQ))(h:At G N m z a w)
  (hQ: ∀e m' a' w' z',AQ e m'→At G N m' z' a' w'→Since w z w' z'→Q (TI e) a' w'):c.wp P Q a w:=by
 have key: ∀e st th' z' a' w',(∃m',AQ e m'∧Emb ⟨w,fun _=>False,z,G,[],[]⟩ N st ⟨m',[],0⟩)→Sim ⟨w,fun _=>False,z,G,[],[]⟩ N st th' z' a' w'→Q (TI e) a' w':=by
  rintro e st th' z' a' w' ⟨m',h1,h2⟩ hs;obtain⟨th2,z2,h3⟩:=h2 th' z' a' w' hs;exact hQ e m' a' w' z2 h1 (IX rfl rfl h3) (Ch h3.mem)
 exact hA ⟨w,fun _=>False,z,G,[],[]⟩ rfl rfl Q ⟨fun st th z a w h1 h2=>key .normal st th z a w h1 h2,fun id st th z a w h1 h2=>key (.exit id) st th z a w h1 h2,fun st th z a w h1 h2=>key .ret st th z a w h1 h2,fun x v st th z w h1=>h1.elim⟩ [] z a w h
theorem Mem.freezeB (h:Mem E o n th z w){i:Nat}{T:TypeId}{c:List AV}{L:NLoc}(hi:lk o i=some (.box T c))(hL:th[i]?=some L):Mem E (rm o i) n th (fun t b=>z t b∨(t=true∧L.ph=false∧b=L.b)) w:=by
 have le:Le w z w (fun t b=>z t b∨(t=true∧L.ph=false∧b=L.b)):=⟨fun _ _ h=> .inl h,fun _ _ _=>rfl⟩;obtain⟨L',h1,_,h3⟩:=h.nds i _ hi;rw[hL] at h1;cases h1
 have hs: ∀j x,lk (rm o i) j=some x→i≠j∧lk o j=some x:=by
  intro j x hj;rw[FX] at hj;split at hj
  ·cases hj
  ·exact⟨by assumption,hj⟩
 refine⟨h.len,fun j nd hj=>?_,fun p q x y M M' hp hq=>h.inj p q x y M M' (hs _ _ hp).2 (hs _ _ hq).2,?_,h.grow,h.frame,fun t b hb=> .inl (h.zin t b hb),?_,?_,fun g cs hg=>⟨.inl (h.globs g cs hg).1,(h.globs g cs hg).2⟩,h.pre,h.sys,?_⟩
 ·obtain⟨hne,hj⟩:=hs _ _ hj
  obtain⟨M,k1,k2,k3⟩:=h.nds j nd hj;refine⟨M,k1,by simpa using k2.on le (fun _=>rfl) [],fun hp=>⟨(k3 hp).1,fun t hz=>?_,(k3 hp).2.2⟩⟩
  rcases hz with hz |⟨_,hp2,hz⟩
  ·exact(k3 hp).2.1 t hz
  ·exact hne (h.inj i j _ _ L M hi hj hL k1 hp2 hp hz.symm)
 ·rintro t b (hb |⟨_,hp,rfl⟩)
  ·exact h.zlt t b hb
  ·exact(h3 hp).1
 ·rintro b (hb |⟨_,hp,rfl⟩)
  ·exact h.zout b hb
  ·rcases(h3 hp).2.2 with h5 |h5
   ·exact .inr (.inl h5)
   ·exact .inr (.inr h5)
 ·rintro b (hb |⟨hf,_⟩)
  ·exact h.zb b hb
  ·cases hf
 ·obtain⟨U,hU⟩:=h.uls
  refine⟨U,fun j T' k' els' op M hj hM=>?_,hU.lt,fun j b hb t hz=>?_,hU.ow,hU.inj,fun j nd M q hj=>hU.kn j nd M q (hs _ _ hj).2⟩
  ·have:=(hU.at_ j T' k' els' op M (hs _ _ hj).2 hM).on le (fun _ _=>rfl) (.inr rfl) []
   simpa using this
  ·rcases hz with hz |⟨_,hp,rfl⟩
   ·exact hU.nz j b hb t hz
   ·exact hU.kn i _ L j hi hL hp hb
def pu:AV→Bool
 | .r _=>true
 | .ro _ _ _=>true
 | .re _ _ _=>true
 |_=>false
theorem Rep.unpure {x:AV}{v:Value}(hx:pu x=true)(h:Rep w z th x v):Rep w z [] x v:=by
 cases h with
 |r _ v=>exact .r _ v
 |nil _ t k a c=>exact .nil _ t k a c
 |ro _ t k els b o c ys h1 h2 h3 h4 h5 h6=>exact .ro _ t k els b o c ys h1 h2 h3 h4 h5 h6
 |re _ t c b o off ys h1 h2 h3=>exact .re _ t c b o off ys h1 h2 h3
 |s=>cases hx
 |sn=>cases hx
 |p=>cases hx
 |agg=>cases hx
 |tup=>cases hx
 |fn=>cases hx
 |ifc=>cases hx
 |q=>cases hx
 |any=>cases hx
theorem PL (d i:Nat){T:TypeId}{c:List AV}(hm:lk st.m d=some (.p i 0 0))(hn:lk st.o i=some (.box T c))(hc:c.all pu=true):Emb E N st {st with m:=(d,.re true c 0)::st.m,o:=rm st.o i}:=by
 intro th z a w hs;obtain⟨L,h1,h2,h3⟩:=hs.mem.nds i _ hn;obtain⟨hp,cells,fr,hb,hf,ho,hc2⟩:=h2;have le:Le w z w (fun t b=>z t b∨(t=true∧L.ph=false∧b=L.b)):=⟨fun _ _ h=> .inl h,fun _ _ _=>rfl⟩;refine⟨th,_,hs.mem.freezeB hn h1,hs.size,hs.dfs,fun j x hj=>?_⟩;simp only[lk] at hj;split at hj
 ·rename_i e;subst e;cases hj
  obtain⟨y,hy,hr⟩:=hs.slots d _ hm;refine⟨y,hy,?_⟩
  cases hr with
  |p _ _ _ _ L' hL'=>
   rw[h1] at hL';cases hL';rw[ho,Nat.zero_mul];refine Rep.re_mk (.inr ⟨rfl,hp,rfl⟩) (fun q x hq=>?_);have hlen:=hc2.1
   have hql:q<cells.size:=by have:=(List.getElem?_eq_some_iff.1 hq).1;simp at hlen;omega
   refine⟨cells[q],?_,?_⟩
   ·simp only[World.cell?,hb]
    simp[hql]
   ·have:=hc2.2 q x cells[q] hq (by simp[hql])
    exact(Rep.unpure (List.all_eq_true.1 hc x (List.mem_of_getElem? hq)) this).on' le
 ·obtain⟨y,hy,hr⟩:=hs.slots j x hj
  exact⟨y,hy,hr.on' le⟩
end
theorem X4 (c:List AV)(off:Nat):PT (.re true c off)= ∀x ∈ c,PT x:=propext ⟨fun h=>by cases h;assumption,.re c off⟩
theorem X5 (f:Nat)(c:List AV):PT (.fn f c)= ∀x ∈ c,PT x:=propext ⟨fun h=>by cases h;assumption,.fn f c⟩
attribute [simp] X4 X5
attribute [go_sem] pu
end Go.AM
namespace Go.AM
open Go
section
variable {P:Program} {G:List (Nat×List Value)} {N:Nat} {m m':List (Nat×AV)} {z z':AT} {a:Act} {w:World} {E:Env} {st:AS} {th:List NLoc} {o:List (Nat×Nd)} {n k:Nat} {Q:Exit→Act→World→Prop} {ops:Array Oper} {L:Array Bool→Act→World→Prop}
def rW (ro:Option Nat):Fence:={Fence.wide with round:=ro}
theorem Sw {ro:Option Nat}{f:Nat}{args:Array Value}{R:Ending→World→Prop}(h:Calls P f args w R):CallsIn (rW ro) k P f args w R:=(callsIn_wide (n:=k)).2 h
theorem Ps {ro:Option Nat}{o:Oper}{next:Act→World→Prop}(hnd: ∀c,o.op≠ .defer c)(h:o.wp P a w next Q):o.wpIn (rW ro) k P a w next Q:=by
 refine⟨fun _ _=>trivial,?_⟩;rw[Oper.semAt_plain (rW ro) _ o hnd];unfold Oper.wp at h;generalize (execOp a.eval o).run P w=r at h
 cases r with
 |ok x w'=>
  cases x<;>simp only[Oper.upon,Oper.uponIn] at h ⊢ <;>
   first
    |exact h
    |exact⟨fun h=>(by cases h),Sw h⟩
    |exact⟨fun h=>(by cases h),fun c cs _=>let ⟨v,w',r,s⟩:=h c cs;⟨v,w',r,stepsIn_wide.2 s⟩⟩
    |exact h.elim
 |halt x w'=>cases x<;>simp only[Oper.upon,Oper.uponIn] at h ⊢ <;>exact h
def Er:Op→Bool
 | .defer _=>false
 |_=>true
theorem HG {op:Op}(h:Er op=true): ∀c,op≠ .defer c:=by rintro c rfl;cases h
theorem JV {ro:Option Nat}(hO: ¬LetsOut Q): ∀(l:List Oper),(l.all fun o=>Er o.op)=true→ ∀ {a:Act}{w:World},wpList P ops Q l a w→wpListIn (rW ro) k P ops Q l a w
 | [],_,_,_,h=>h
 |o::rest,hd,a,w,h=>by
  simp only[List.all_cons,Bool.and_eq_true] at hd;simp only[wpList] at h;simp only[wpListIn];split at h
  ·rename_i hw
   rw[if_pos hw]
   rcases h with h |h
   ·exact Oper.wpIn_mono (fun a w h=>JV hO rest hd.2 h) (Ps (HG hd.1) h)
   ·exact absurd h.2 hO
  ·rename_i hw
   rw[if_neg hw];exact⟨fun _ _=>trivial,JV hO rest hd.2 h⟩
theorem X7 {ro:Option Nat}{i:Nat}{K:Act→World→Prop}(hO: ¬LetsOut Q)(hd:(ops.toList.all fun o=>Er o.op)=true)(h:wpOp P ops Q i K a w):wpOpIn (rW ro) k P ops Q i K a w:=by
 unfold wpOp at h;unfold wpOpIn
 cases hi:ops[i]? with
 |none=>simp only[hi] at h ⊢;exact h
 |some o=>
  simp only[hi] at h ⊢;have hdo:=List.all_eq_true.1 hd o (Array.mem_toList_iff.2 (Array.mem_of_getElem? hi));split at h
  ·rename_i hw
   rw[if_pos hw]
   rcases h with h |h
   ·exact Ps (HG hdo) h
   ·exact absurd h.2 hO
  ·rename_i hw
   rw[if_neg hw];exact⟨fun _ _=>trivial,h⟩
theorem L5 {ro:Option Nat}{g:Nat}(hO: ¬LetsOut Q)(hd:(ops.toList.all fun o=>Er o.op)=true)(hL: ∀s a w,L s a w→wpAnyIn (rW ro) k P .any ops Q g s a w): ∀(f:Nat)(s:Array Bool)(a:Act)(w:World),Gs P ops Q n L f s a w→wpAnyIn (rW ro) k P .any ops Q (f+g) s a w
 |0,s,a,w,h=>by rw[Nat.zero_add];exact hL _ _ _ h
 |f+1,s,a,w,h=>by
  rw[show f+1+g=(f+g)+1 by omega];exact⟨fun h0=>absurd h0 h.1,fun i hi=>X7 hO hd (wpOp_mono (fun a' w' h'=>L5 hO hd hL f _ a' w' h'.2) (h.2 i hi).2)⟩
theorem Hp {F:Fence}: ∀(l:List Oper)(j:Nat)(s:Array Bool)(a:Act)(w:World),(∀i,l[i]?=ops[j+i]?)→Region.seqB .any ops l.length j s=true→wpListIn F k P ops Q l a w→wpAnyIn F k P .any ops Q l.length s a w
 | [],_,_,_,_,_,hB,h=>⟨by simpa[Region.seqB] using hB,h⟩
 |o::l,j,s,a,w,hl,hB,h=>by
  have h0:ops[j]?=some o:=by simpa using(hl 0).symm
  simp only[List.length_cons,Region.seqB,Bool.and_eq_true,decide_eq_true_eq] at hB;refine⟨fun h1=>(by rw[hB.1] at h1;cases h1),fun i hi=>?_⟩;rw[hB.1] at hi
  obtain rfl:i=j:=by simpa using hi
  have hw:wpOpIn F k P ops Q i (wpListIn F k P ops Q l) a w:=by unfold wpOpIn;simp only[h0];exact h
  exact wpOpIn_mono (fun a' w' h'=>Hp l (i+1) _ a' w' (fun i'=>by have:=hl (i'+1);simpa[Nat.add_assoc,Nat.add_comm 1 i'] using this) hB.2 h') hw
theorem Iz {kp:AV→AS→Prop}{K:AS→Prop}(hQ: ∀c a d v w,Q (.panic c) (a.put d v) w→Q (.panic c) a w)
  (hp: ∀x v st' th' z' a' w',kp x st'→Sim E N st' th' z' a' w'→Rep w' z' th' x v→Q (.panic [{v:=v,recovered:=false}]) a' w') (hd: ∀o ∈ ops.toList,∀i,o.dst=some i→i<N)
  (h1:Region.noSelect ops=true) (h2: ∀s,HeadInv .any ops n s→ ∀i,i<n→s.getD i true=false→ ∀j ∈ Region.ready .any ops s,j<n):
  ∀(ord:List Nat){s:Array Bool}{st:AS}{th:List NLoc}{z:AT}{a:Act}{w:World},HeadInv .any ops n s→DS ops n ord s=true→Sim E N st th z a w→Bp P E N (BI ops) kp [] (Ah ops ord) st K→
   Gs P ops Q n (fun s a w=>Region.seqB .any ops (ops.size - n) n s=true∧ ∃st th z,K st∧Sim E N st th z a w) ord.length s a w
 | [],s,st,th,z,a,w,inv,ho,h,hx=>⟨ho,st,th,z,hx,h⟩
 |i::rest,s,st,th,z,a,w,inv,ho,h,hx=>by
  simp only[DS,Bool.and_eq_true,decide_eq_true_eq] at ho;obtain⟨⟨hin,ho1⟩,ho2⟩:=ho
  cases hi:ops[i]? with
  |none=>rw[hi] at ho1;simp at ho1
  |some o=>
   simp only[Ah,List.filterMap_cons,hi] at hx;unfold Bp at hx;change DO _ (DD P E N st o.op (fun v st'=>Bp P E N (BI ops) kp [] (Ah ops rest) (st'.put o.dst v) K) kp) (Bp P E N (BI ops) kp [] (Ah ops rest) (st.put o.dst (.r (.tuple #[]))) K) at hx;have hmem:o ∈ ops.toList:=Array.mem_toList_iff.2 (Array.mem_of_getElem? hi);have hdo:=hd o hmem;simp only[hi] at ho1;have ih: ∀ {s:Array Bool}{st:AS}{th:List NLoc}{z:AT}{a:Act}{w:World},HeadInv .any ops n s→DS ops n rest s=true→Sim E N st th z a w→Bp P E N (BI ops) kp [] (Ah ops rest) st K→Gs P ops Q n _ rest.length s a w:=
    Iz hQ hp hd h1 h2 rest
   have guard:=CE h hx;split at ho1
   ·rename_i hq
    simp only[Bool.and_eq_true] at ho1;obtain⟨hr,hf⟩:=ho1
    have hr':i ∈ Region.ready .any ops s:=by simpa using hr
    rcases guard with ⟨hw,hs⟩ |⟨hw,hs⟩
    ·obtain⟨x,hqv,hs⟩:=EC hq hs
     obtain⟨v,hrep,hrun⟩:=DE h o hqv;exact D9 hi (Region.noSelect_spec h1) (fun c a w=>hQ c a _ _ w) h2 hin (fun s a w hL=>seqB_ready hL.1) _ s a w inv (Region.free_spec hi hf) hr' (.inl ⟨hw,fun w' e=>hrun w' (e.sameK h)⟩)
      (ih (inv.set hr' hin) ho2 (h.put hrep o.dst hdo) hs)
    ·exact D9 hi (Region.noSelect_spec h1) (fun c a w=>hQ c a _ _ w) h2 hin (fun s a w hL=>seqB_ready hL.1) _ s a w inv (Region.free_spec hi hf) hr' (.inr ⟨hw,rfl⟩)
      (ih (inv.set hr' hin) ho2 (h.put (.r th undef) o.dst hdo) hs)
   ·simp only[decide_eq_true_eq] at ho1
    have hr':i ∈ Region.ready .any ops s:=by rw[ho1];simp
    refine⟨fun h0=>(by rw[h0] at hr';cases hr'),fun j hj=>?_⟩;rw[ho1] at hj
    obtain rfl:j=i:=by simpa using hj
    refine⟨hin,?_⟩;unfold wpOp;simp only[hi]
    rcases guard with ⟨hw,hs⟩ |⟨hw,hs⟩
    ·rw[if_pos hw]
     exact .inl (CZ h o hs hdo (fun x st' th' z' a' w' g1 g2 g3=>⟨g3,ih (inv.set hr' hin) ho2 g2 g1⟩) (fun x v st' th' z' w' g1 g2 g3=>hp x v st' th' z' a w' g1 g2 g3))
    ·rw[if_neg (by rw[hw];exact Bool.false_ne_true)]
     exact⟨Ext.refl w,ih (inv.set hr' hin) ho2 (h.put (.r th undef) o.dst hdo) hs⟩
end
end Go.AM
namespace Go.AM
open Go
section
variable {P:Program} {G:List (Nat×List Value)} {N:Nat} {m m':List (Nat×AV)} {z z':AT} {a:Act} {w:World} {E:Env} {st:AS} {th:List NLoc} {o:List (Nat×Nd)} {k:Nat} {Q:Exit→Act→World→Prop} {ops:Array Oper}
theorem NK {l:Nat}{f x:Nat}{d:Option Nat}{ts:Array TypeId}{ty:TypeId}{pos:String}{aft:Array Edge}(hf:a.eval (.tmp f)= .func (.yield l) #[] #[]):
  (execOp a.eval ⟨d,.call {callee:= .value (.tmp f),args:= #[.tmp x],argTypes:=ts},ty,pos,aft,none⟩).run P w=(Instr.yield l #[a.eval (.tmp x)]).run P w:=by
 simp[execOp,resolve,hf,Deferred.ofValue,Sem.run_bind,Sem.run_pure,Result.andThen_ok,invoke]
theorem RX {id:Nat}{ds:List (Option Nat)}{l0 rest:List Oper}{d f x:Nat}{ts:Array TypeId}{ty:TypeId}{pos:String}{aft:Array Edge}{KM:List (Nat×AV)→Prop}(hm:P.follows .mixedOrders=true)(n:Nat)(ord:List Nat)
  (hA:At G N m z a w) (hO: ¬LetsOut Q) (hP: ∀c a w,¬Q (.panic c) a w)
  (hB:Ep ops n ord=true) (hd:Cr N ops=true) (hnd:(ops.toList.all fun o=>Er o.op)=true) (hg:((Ah ops ord).all fun o=>SX o.op)=true) (hds:BI ops=ds) (hh:Ah ops ord=l0)
  (ht:ops.toList.drop n=⟨some d,.call {callee:= .value (.tmp f),args:= #[.tmp x],argTypes:=ts},ty,pos,aft,none⟩::rest)
  (hx: ∀E:Env,E.G=G→E.th0.length=0→ ∀(K:AS→Prop)(kp:AV→AS→Prop),(∀st',St E N (fun e m1=>e= .normal∧KM m1) .normal st'→K st')→(∀x st',False→kp x st')→G7 P E N ds kp [] l0 ⟨m,[],0⟩ K)
  (hy: ∀m1 a1 w1 z1,KM m1→At G N m1 z1 a1 w1→Since w z w1 z1→ ∃l,a1.eval (.tmp f)= .func (.yield l) #[] #[]∧YieldAt Fence.wide k P l #[a1.eval (.tmp x)] w1 (fun e w2=> ∃v,e= .returned v∧wpListIn Fence.wide (k+1) P ops Q rest (a1.put (some d) v) w2)):
  (Code.region id ops true).wp P Q a w:=by
 subst hds hh;simp only[Ep,Bool.and_eq_true,decide_eq_true_eq] at hB;obtain⟨⟨⟨b1,b2⟩,b5⟩,b6⟩:=hB
 have hlt: ∀s,HeadInv .any ops n s→ ∀i,i<n→s.getD i true=false→ ∀j ∈ Region.ready .any ops s,j<n:=by
  intro s inv i hi hs j hj
  rcases Bool.or_eq_true _ _▸b2 with b2 |b2
  ·have:=of_decide_eq_true b2
   obtain⟨_,oj,hoj,_⟩:=mem_ready.1 hj;rw[this];exact(Array.getElem?_eq_some_iff.1 hoj).1
  ·simp only[Bool.and_eq_true,decide_eq_true_eq] at b2
   by_cases h:j<n
   ·exact h
   ·exact absurd hj (tail_waits b2.1.1 b2.1.2 b2.2 inv _ i rfl hi hs j (by omega))
 have hle:n≤ops.size:=by
  rcases Bool.or_eq_true _ _▸b2 with b2 |b2
  ·exact Nat.le_of_eq (of_decide_eq_true b2)
  ·simp only[Bool.and_eq_true,decide_eq_true_eq] at b2;exact Nat.le_of_lt b2.2
 have inv0:HeadInv .any ops n (Array.replicate ops.size false):=
  ⟨by simp,fun j oj _ hl=>(by rw[getD_replicate_false] at hl;cases hl),fun t _ ht=>getD_in (by simpa using ht) (getD_replicate_false _ _)⟩
 refine(wpIn_wide (n:=k+1)).1 ?_;refine wpIn_region_any hm ?_;have hA':Sim ⟨w,fun _=>False,z,G,[],[]⟩ N ⟨m,[],0⟩ [] z a w.drew:=Sim.ext hA (Ea w);have key:=Iz (Q:=Q) (P:=P) (kp:=fun _ _=>False) (K:=fun st=> ∃m1,KM m1∧Emb ⟨w,fun _=>False,z,G,[],[]⟩ N st ⟨m1,[],0⟩) (fun c a d v w hq=>absurd hq (hP c _ w)) (fun x v st' th' z' a' w' g1=>g1.elim)
  (Bj hd) b1 hlt ord inv0 b6 hA' (DH hg (hx _ rfl rfl _ _ (fun st' ⟨m1,⟨_,h1⟩,h2⟩=>⟨m1,h1,h2⟩) (fun _ _ h=>h)))
 have:=L5 (ro:=none) (k:=k+1) (g:=ops.size - n) hO hnd (fun s a1 w1 ⟨hs,st1,th1,z1,⟨m1,hk,he⟩,hs1⟩=>by
  obtain⟨th2,z2,hs2⟩:=he _ _ _ _ hs1;obtain⟨l,hf,fn,tmps,assign,body,hr,hR⟩:=hy m1 a1 w1 z2 hk (IX rfl rfl hs2) (Ch hs2.mem)
  have h0:=Hp (P:=P) (ops:=ops) (F:=rW none) (k:=k+1) (Q:=Q) (ops.toList.drop n) n s a1 w1 (fun j=>by simp[List.getElem?_drop]) (by simpa using hs) (by
   rw[ht];simp only[wpListIn];rw[if_pos (show Region.wanted _ _=true from rfl)];refine⟨fun _ _=>trivial,?_⟩;rw[Oper.semAt_plain (rW none) _ _ (fun c h=>by cases h)];rw[NK hf,hr,Oper.uponIn_round];refine⟨fun h=>(by cases h),?_⟩;refine RoundIn.mono hR ?_;rintro e w2 ⟨v,rfl,h1⟩
   exact h1)
  simpa using h0) _ _ _ _ key
 rw[b5,show n+(ops.size - n)=ops.size by omega] at this;exact this
theorem Po {rest:List Oper}{KM:List (Nat×AV)→Prop}(hA:At G N m z a w)(hO: ¬LetsOut Q)(hdo: ∀o ∈ rest,∀i,o.dst=some i→i<N)(hnd:(rest.all fun o=>Er o.op)=true)
  (hx: ∀E:Env,E.G=G→E.th0.length=0→ ∀(K:AS→Prop)(kp:AV→AS→Prop),(∀st',St E N (fun e m1=>e= .normal∧KM m1) .normal st'→K st')→(∀x st',False→kp x st')→ex P E N (BI ops) kp rest ⟨m,[],0⟩ K)
  (hQ: ∀m1 a1 w1 z1,KM m1→At G N m1 z1 a1 w1→Since w z w1 z1→Q .normal a1 w1):wpListIn Fence.wide k P ops Q rest a w:=by
 refine JV (ro:=none) hO rest hnd ?_;refine CF (kp:=fun _ _=>False) (K:=fun st=> ∃m1,KM m1∧Emb ⟨w,fun _=>False,z,G,[],[]⟩ N st ⟨m1,[],0⟩) (fun x v st' th' z' a' w' h=>h.elim) (fun st' th' z' a' w' ⟨m1,h1,h2⟩ hs=>?_) rest hdo hA
  (Dc (hx _ rfl rfl _ _ (fun st' ⟨m1,⟨_,h1⟩,h2⟩=>⟨m1,h1,h2⟩) (fun _ _ h=>h)))
 obtain⟨th2,z2,hs2⟩:=h2 _ _ _ _ hs;exact hQ m1 a' w' z2 h1 (IX rfl rfl hs2) (Ch hs2.mem)
theorem N1 {ι:Type}(R:ι→Act→World→Prop)(μ:ι→Nat)(i0:ι){c:Code}(h0:R i0 a w)(round: ∀i a w,R i a w→c.wp P (Exit.then (fun a' w'=> ∃i',μ i'<μ i∧R i' a' w') Q) a w):(Code.loop c).wp P Q a w:=by
 classical
 let p:Act→World→Nat→Prop:=fun a w n=> ∃i,R i a w∧μ i=n
 let mm:Act→World→Nat:=fun a w=>if h: ∃n,p a w n then (D7 (p a w) h.choose h.choose_spec).choose else 0
 have hm: ∀a w n,p a w n→p a w (mm a w)∧mm a w≤n:=by
  intro a w n hn;have h: ∃n,p a w n:=⟨n,hn⟩;have:=(D7 (p a w) h.choose h.choose_spec).choose_spec;simp only[mm,dif_pos h];exact⟨this.1,this.2 n hn⟩
 refine wp_loop (fun a w=> ∃n,p a w n) mm ⟨μ i0,i0,h0,rfl⟩ (fun a w ⟨n,hn⟩=>?_);obtain⟨⟨i,hR,hμ⟩,_⟩:=hm a w n hn;refine wp_mono (round i a w hR) (fun e a' w' h=>?_)
 cases e with
 |normal=>
  obtain⟨i',hlt,hR'⟩:=h;have hp:p a' w' (μ i'):=⟨i',hR',rfl⟩;exact⟨⟨μ i',hp⟩,by have:=(hm a' w' _ hp).2;omega⟩
 |exit id=>exact h
 |goto l=>exact h
 |ret=>exact h
 |panic ch=>exact h
 |outgrown=>exact h
theorem At.turn {w':World}(h:At G N m z a w)(hs:w.heap.size≤w'.heap.size)(hz: ∀t b,z t b→w'.heap[b]?=w.heap[b]?):At G N m z a w':=by
 refine⟨KC (fun t b hb=>Nat.lt_of_lt_of_le (h.mem.zlt t b hb) hs) (fun g cs hg=>?_),h.size,h.dfs,fun i x hi=>?_⟩
 ·obtain⟨h1,h2⟩:=h.mem.globs g cs hg
  exact⟨h1,fun j v hv=>(B7 (hz _ _ h1) j).trans (h2 j v hv)⟩
 ·obtain⟨y,hy,hr⟩:=h.slots i x hi
  exact⟨y,hy,hr.on' ⟨fun _ _ h=>h,hz⟩⟩
theorem OL {xs:List AV}{vs:List Value}(hz: ∀t b,z t b→b<w.heap.size)(hG: ∀g cs,(g,cs) ∈ G→z true g∧ ∀(j:Nat) v,cs[j]?=some v→w.cell? ⟨g,j,none⟩=some v)(hr:Reps w z [] xs vs)(hN:xs.length≤N):
  At G N (B9 0 xs) z {tmps:=vs.toArray++Array.replicate (N - vs.toArray.size) undef,defers:=[]} w:=by
 refine⟨KC hz hG,by simp;have:=hr.1;omega,rfl,fun i x hi=>?_⟩;obtain⟨_,h2⟩:=P0 xs 0 i x hi;rw[Nat.sub_zero] at h2;obtain⟨y,hy,hrep⟩:=hr.get h2;refine⟨y,?_,hrep⟩;have:i<vs.length:=(List.getElem?_eq_some_iff.1 hy).1;simp only[Array.getElem?_append,List.size_toArray,this,if_true];simpa using hy
theorem At.zlt (h:At G N m z a w): ∀t b,z t b→b<w.heap.size:=h.mem.zlt
theorem At.slot (h:At G N m z a w){i:Nat}{x:AV}(hi:lk m i=some x):Rep w z [] x (a.eval (.tmp i)):=by
 obtain⟨y,hy,hr⟩:=h.slots i x hi
 have:a.eval (.tmp i)=y:=by simp[Act.eval,Array.getD_eq_getD_getElem?,hy]
 rw[this];exact hr
theorem At.putb (h:At G N m z a w)(d:Nat)(hd:d<N)(v:Value):At G N ((d,.r v)::m) z (a.put (some d) v) w:=Sim.put h (.r _ v) (some d) (fun i hi=>by cases hi;exact hd)
end
end Go.AM
namespace Go.AM
open Go
theorem Rep.later {w:World}{z:AT}{th th':List NLoc}{x:AV}{v:Value}(h:Rep w z th x v)(hf: ∀(i:Nat) L,th[i]?=some L→th'[i]?=some L):Rep w z th' x v:=by
 induction h with
 |r th v=>exact .r _ _
 |nil th t k a c=>exact .nil _ _ _ _ _
 |ro th t k els b o c ys hz hc hk hy ho hx ih=>exact .ro _ _ _ _ b o c ys hz hc hk hy ho hx
 |re th t c b o off ys hz hy hx ih=>exact .re _ _ _ b o _ ys hz hy hx
 |s th n lo len c x L hL hp hl hc ho=>exact .s _ _ _ _ c x L (hf _ _ hL) hp hl hc ho
 |sn th n lo L hL hp=>exact .sn _ _ _ L (hf _ _ hL) hp
 |p th n i off L hL=>exact .p _ _ _ _ L (hf _ _ hL)
 |agg th c ys hl hx ih=>exact .agg _ _ ys hl (fun i x y h1 h2=>ih i x y h1 h2 hf)
 |tup th c ys hl hx ih=>exact .tup _ _ ys hl (fun i x y h1 h2=>ih i x y h1 h2 hf)
 |fn th f c ys hl hx ih=>exact .fn _ _ _ ys hl (fun i x y h1 h2=>ih i x y h1 h2 hf)
 |ifc th t x v hx ih=>exact .ifc _ _ _ _ (ih hf)
 |q th n L hL=>exact .q _ _ L (hf _ _ hL)
 |any th v=>exact .any _ _
def MM (D b:Nat):Prop:=b=D∨b=D+1
def OV (D:Nat)(w0:World)(G:List (Nat×List Value))(th0:List NLoc)(W:World)(zc:AT):Env:=⟨W,fun b=>(∀t,¬zc t b)∧ ¬MM D b∧w0.heap.size≤b,zc,G,th0,[]⟩
section
variable {P:Program} {G:List (Nat×List Value)} {N D:Nat} {w0 W w w':World} {z0 zc z z':AT} {th0 th:List NLoc} {o:List (Nat×Nd)} {n:Nat} {m:List (Nat×AV)} {tmps:Array Value}
theorem Mem.epochG {E:Env}(h:Mem E o n th z w)(hG:E.G=G)(hpre: ∀(i:Nat) L,th0[i]?=some L→th[i]?=some L)(hu:IC o=true)
  (hnd: ∀i nd L,lk o i=some nd→th[i]?=some L→L.ph=false→L.b<w.heap.size∧(∀t,¬z t L.b)∧ ¬MM D L.b∧w0.heap.size≤L.b) (hs:w.heap.size≤w'.heap.size) (hsame: ∀b,b<w.heap.size→ ¬MM D b→w'.heap[b]?=w.heap[b]?)
  (hzr: ∀t b,z t b→ ¬MM D b) (hzz: ∀t b,z t b→z' t b) (hzn: ∀t b,z' t b→z t b∨(t=true∧w.heap.size≤b∧b<w'.heap.size)):Mem (OV D w0 G th0 w' z') o n th z' w':=by
 have le:Le w z w' z':=⟨hzz,fun t b hb=>hsame b (h.zlt t b hb) (hzr t b hb)⟩;refine⟨h.len,fun i nd hi=>?_,h.inj,?_,Nat.le_refl _,fun _ _ _=>rfl,fun _ _ h=>h,fun b h=> .inl h,fun b h=>h,fun g cs hg=>?_,hpre,Sys.refl _,FN hu⟩
 ·obtain⟨L,h1,h2,h3⟩:=h.nds i nd hi
  refine⟨L,h1,by simpa using h2.on le (fun hp=>hsame _ (hnd i nd L hi h1 hp).1 (hnd i nd L hi h1 hp).2.2.1) [],fun hp=>?_⟩;obtain⟨k1,k2,k3,k4⟩:=hnd i nd L hi h1 hp
  have hz': ∀t,¬z' t L.b:=fun t hz=>by
   rcases hzn t L.b hz with q |⟨_,q,_⟩
   ·exact k2 t q
   ·omega
  exact⟨Nat.lt_of_lt_of_le k1 hs,hz',.inl ⟨hz',k3,k4⟩⟩
 ·intro t b hb
  rcases hzn t b hb with q |⟨_,_,q⟩
  ·exact Nat.lt_of_lt_of_le (h.zlt t b q) hs
  ·exact q
 ·obtain⟨h1,h2⟩:=h.globs g cs (by rw[hG];exact hg)
  exact⟨hzz _ _ h1,fun j v hv=>(B7 (le.same _ _ h1) j).trans (h2 j v hv)⟩
theorem Mem.epoch (h:Mem (OV D w0 G th0 W zc) o n th z w)(hu:IC o=true)(h0:w0.heap.size≤D)(hD:D+1<W.heap.size)(hs:w.heap.size≤w'.heap.size)(hsame: ∀b,b<w.heap.size→ ¬MM D b→w'.heap[b]?=w.heap[b]?)
  (hzr: ∀t b,z t b→ ¬MM D b) (hzz: ∀t b,z t b→z' t b) (hzn: ∀t b,z' t b→z t b∨(t=true∧w.heap.size≤b∧b<w'.heap.size)):Mem (OV D w0 G th0 w' z') o n th z' w':=by
 refine h.epochG rfl h.pre hu (fun i nd L hi hL hp=>?_) hs hsame hzr hzz hzn;obtain⟨L',h1,_,h3⟩:=h.nds i nd hi;rw[hL] at h1;cases h1;obtain⟨k1,k2,k3⟩:=h3 hp;refine⟨k1,k2,?_⟩
 rcases k3 with k3 |k3
 ·exact k3.2
 ·have k3:W.heap.size≤L.b:=k3
  exact⟨by rintro(e |e)<;>omega,by omega⟩
structure Bd (D:Nat)(w0:World)(z0:AT)(th0:List NLoc)(m:List (Nat×AV))(tmps:Array Value)(W:World)(zc:AT):Prop where
 slots: ∀i x,lk m i=some x→ ∃y,tmps[i]?=some y∧Rep W zc th0 x y
 zrd: ∀t b,zc t b→ ¬MM D b
 zlt: ∀t b,zc t b→b<W.heap.size
 since:Since w0 z0 W zc
theorem Bd.go (h:Bd D w0 z0 th0 m tmps W zc)(h0:w0.heap.size≤D)(hD:D+1<W.heap.size)(hs:W.heap.size≤w'.heap.size)(hsame: ∀b,b<W.heap.size→(∃t,zc t b)∨b<w0.heap.size→w'.heap[b]?=W.heap[b]?)(hsys:Sys W w')
  (hzz: ∀t b,zc t b→z' t b) (hzn: ∀t b,z' t b→zc t b∨(t=true∧w0.heap.size≤b∧b<w'.heap.size∧ ¬MM D b)):Bd D w0 z0 th0 m tmps w' z':=by
 have le:Le W zc w' z':=⟨hzz,fun t b hb=>hsame b (h.zlt t b hb) (.inl ⟨t,hb⟩)⟩;refine⟨fun i x hi=>?_,fun t b hb=>?_,fun t b hb=>?_,⟨⟨Nat.le_trans h.since.ext.size hs,fun b hb=>?_,h.since.ext.sys.trans hsys⟩,fun t b hb=>hzz t b (h.since.sub t b hb),fun t b hb=>?_⟩⟩
 ·obtain⟨y,hy,hr⟩:=h.slots i x hi
  exact⟨y,hy,hr.on' le⟩
 ·rcases hzn t b hb with q |q
  ·exact h.zrd t b q
  ·exact q.2.2.2
 ·rcases hzn t b hb with q |q
  ·exact Nat.lt_of_lt_of_le (h.zlt t b q) hs
  ·exact q.2.2.1
 ·exact(hsame b (Nat.lt_of_lt_of_le hb h.since.ext.size) (.inr hb)).trans (h.since.ext.same b hb)
 ·rcases hzn t b hb with q |q
  ·rcases h.since.new t b q with r |⟨r1,r2,r3⟩
   ·exact .inl r
   ·exact .inr ⟨r1,r2,Nat.lt_of_lt_of_le r3 hs⟩
  ·exact .inr ⟨q.1,q.2.1,q.2.2.1⟩
theorem Bd.mem (h:Bd D w0 z0 th0 m tmps W zc)(h0:w0.heap.size≤D)(hD:D+1<W.heap.size)(hm:Mem (OV D w0 G th0 W zc) o n th z' w'):Bd D w0 z0 th0 m tmps w' z':=by
 refine h.go h0 hD hm.grow (fun b hb hk=>hm.frame b hb (fun ho=>?_)) hm.sys hm.zin (fun t b hb=>?_)
 ·rcases hk with ⟨t,hk⟩ |hk
  ·exact ho.1 t hk
  ·have:=ho.2.2;omega
 ·cases t with
  |false=>exact .inl (hm.zb b hb)
  |true=>
   rcases hm.zout b hb with q |q |q
   ·exact .inl q
   ·exact .inr ⟨rfl,q.2.2,hm.zlt _ _ hb,q.2.1⟩
   ·have q:W.heap.size≤b:=q
    exact .inr ⟨rfl,by omega,hm.zlt _ _ hb,by rintro(e |e)<;>omega⟩
theorem Mem.rd (hm:Mem (OV D w0 G th0 W zc) o n th z' w')(hD:D+1<W.heap.size){b:Nat}(hb:MM D b):w'.heap[b]?=W.heap[b]?:=
 hm.frame b (show b<W.heap.size by rcases hb with rfl |rfl<;>omega) (fun ho=>ho.2.1 hb)
def JM (G:List (Nat×List Value))(D:Nat)(w0:World)(z0:AT)(th0:List NLoc)(m:List (Nat×AV))(tmps:Array Value)(o:List (Nat×Nd))(n:Nat)(W:World)(z:AT):Prop:=
 D+1<W.heap.size∧ ∃th zc,Mem (OV D w0 G th0 W zc) o n th zc W∧Bd D w0 z0 th0 m tmps W zc∧ ∀t b,z t b→zc t b
theorem JM.step (h:JM G D w0 z0 th0 m tmps o n W z)(hu:IC o=true)(h0:w0.heap.size≤D)(hs:W.heap.size≤w'.heap.size)(hsame: ∀b,b<W.heap.size→ ¬MM D b→w'.heap[b]?=W.heap[b]?)(hsys:Sys W w')
  (hzn: ∀t b,z' t b→z t b∨(t=true∧W.heap.size≤b∧b<w'.heap.size)):JM G D w0 z0 th0 m tmps o n w' z':=by
 obtain⟨hD,th,zc,hm,hb,hz⟩:=h;refine⟨by omega,th,fun t b=>zc t b∨(t=true∧W.heap.size≤b∧b<w'.heap.size),hm.epoch hu h0 hD hs hsame hb.zrd (fun t b h=> .inl h) (fun t b h=>h),?_,fun t b hb'=>?_⟩
 ·refine hb.go h0 hD hs (fun b hlt hk=>hsame b hlt ?_) hsys (fun t b h=> .inl h) (fun t b h=>?_)
  ·rcases hk with ⟨t,hk⟩ |hk
   ·exact hb.zrd t b hk
   ·rintro(e |e)<;>omega
  ·rcases h with h |⟨h1,h2,h3⟩
   ·exact .inl h
   ·exact .inr ⟨h1,by omega,h3,by rintro(e |e)<;>omega⟩
 ·rcases hzn t b hb' with q |q
  ·exact .inl (hz t b q)
  ·exact .inr q
def QN (P:Program)(l kk:Nat)(E:Env)(N:Nat)(c:Code)(st:AS)(AQ:AExit→AS→Prop):Prop:=
 ∀Q,Z_ E N Q AQ→ ¬LetsOut Q→ ∀th z a w,Sim E N st th z a w→c.wpIn (rW (some l)) kk P Q a w
section
variable {l kk:Nat} {E:Env} {st:AS} {AQ:AExit→AS→Prop} {c x y:Code}
theorem FE {id:Nat}{ops:Array Oper}(h: ∀(K:AS→Prop)(kp:AV→AS→Prop),(∀st',AQ .normal st'→K st')→(∀x st',AQ (.pan x) st'→kp x st')→ex P E N (BI ops) kp ops.toList st K)(hd:Cr N ops=true:=by kernel_rfl)(hnd:(ops.toList.all fun o=>Er o.op)=true:=by kernel_rfl):QN P l kk E N (.region id ops false) st AQ:=by
 intro Q hQ hO th z a w hs;refine wpIn_region_list (JV hO _ hnd ?_);exact CF (kp:=fun x st=>AQ (.pan x) st) (K:=AQ .normal) (fun x v st' th' z' a' w' h1 h2 h3=>hQ.2.2.2 x v st' th' z' w' h1 h2.mem h3 a' h2.dfs) (fun st' th' z' a' w' h1 h2=>hQ.1 st' th' z' a' w' h1 h2) ops.toList (Bj hd) hs (Dc (h _ _ (fun _ h=>h) (fun _ _ h=>h)))
theorem OJ (h:AQ .normal st):QN P l kk E N .skip st AQ:=fun _ hQ _ th z a w hs=>wpIn_skip (hQ.1 st th z a w h hs)
theorem T8 {id:Nat}(h:AQ (.exit id) st):QN P l kk E N (.exit id) st AQ:=fun _ hQ _ th z a w hs=>wpIn_exit (hQ.2.1 id st th z a w h hs)
theorem QK (h:QN P l kk E N x st (CR (fun st'=>QN P l kk E N y st' AQ) AQ)):QN P l kk E N (.seq x y) st AQ:=by
 intro Q hQ hO th z a w hs;refine wpIn_seq (h (Exit.then (y.wpIn (rW (some l)) kk P Q) Q) ⟨?_,?_,?_,?_⟩ (by rintro⟨a,w,h⟩;exact hO ⟨a,w,h⟩) th z a w hs)
 ·intro st' th' z' a' w' h1 h2;exact h1 Q hQ hO th' z' a' w' h2
 ·intro id st' th' z' a' w' h1 h2;exact hQ.2.1 id st' th' z' a' w' h1 h2
 ·intro st' th' z' a' w' h1 h2;exact hQ.2.2.1 st' th' z' a' w' h1 h2
 ·intro x v st' th' z' w' h1 h2 h3 a' h4;exact hQ.2.2.2 x v st' th' z' w' h1 h2 h3 a' h4
theorem RP {id:Nat}(h:QN P l kk E N c st (Gr id AQ)):QN P l kk E N (.block id c) st AQ:=by
 intro Q hQ hO th z a w hs;refine wpIn_block (h (Exit.inBlock id Q) ⟨?_,?_,?_,?_⟩ (by rintro⟨a,w,h⟩;exact hO ⟨a,w,h⟩) th z a w hs)
 ·intro st' th' z' a' w' h1 h2;exact hQ.1 st' th' z' a' w' h1 h2
 ·intro id' st' th' z' a' w' h1 h2
  simp only[Gr] at h1;simp only[Exit.inBlock];split at h1
  ·rename_i e;rw[if_pos (Nat.eq_of_beq_eq_true e)];exact hQ.1 st' th' z' a' w' h1 h2
  ·rename_i e;rw[if_neg (Nat.ne_of_beq_eq_false e)];exact hQ.2.1 id' st' th' z' a' w' h1 h2
 ·intro st' th' z' a' w' h1 h2;exact hQ.2.2.1 st' th' z' a' w' h1 h2
 ·intro x v st' th' z' w' h1 h2 h3 a' h4;exact hQ.2.2.2 x v st' th' z' w' h1 h2 h3 a' h4
theorem Pd {o:Operand}(hc:ev st E.G o=some (.r (.bool true)))(h:QN P l kk E N x st AQ):QN P l kk E N (.cond o x y) st AQ:=fun Q hQ hO th z a w hs=>wpIn_cond_true (hs.eval_r hc) (h Q hQ hO th z a w hs)
theorem Kz {o:Operand}(hc:ev st E.G o=some (.r (.bool false)))(h:QN P l kk E N y st AQ):QN P l kk E N (.cond o x y) st AQ:=fun Q hQ hO th z a w hs=>wpIn_cond_false (hs.eval_r hc) (h Q hQ hO th z a w hs)
end
end
end Go.AM
namespace Go.AM
open Go Go.RowKit
structure Yld {α:Type}(eA:α→AV)(all:List α)(P:Program)(k l:Nat)(J Jx:List α→World→AT→Prop):Prop where
 grow: ∀pre W W' z z',J pre W z→Since W z W' z'→J pre W' z'
 growx: ∀pre W W' z z',Jx pre W z→Since W z W' z'→Jx pre W' z'
 call: ∀pre x v W z,pre++[x] <+: all→J pre W z→(∀t b,z t b→b<W.heap.size)→Rep W z [] (eA x) v→YieldAt Fence.wide k P l #[v] W fun e W'=>(W.heap.size≤W'.heap.size∧(∀t b,z t b→W'.heap[b]?=W.heap[b]?))∧
  ((e= .returned (.bool true)∧J (pre++[x]) W' z)∨(e= .returned (.bool false)∧Jx (pre++[x]) W' z))
def QA:AExit→Code
 | .exit id=> .exit id
 |_=> .ret
section
variable {P:Program} {G:List (Nat×List Value)} {N kk:Nat} {w0 w:World} {z0 zc:AT} {th0 th:List NLoc} {m:List (Nat×AV)} {a:Act} {Q:Exit→Act→World→Prop} {α:Type} {eA:α→AV}
theorem FR (w:World)(r:Nat)(o:Obj){D:Nat}(hr:MM D r): ∀b,b<w.heap.size→ ¬MM D b→(w.putObj r o).heap[b]?=w.heap[b]?:=fun b _ hb=>World.putObj_heap_other (by rintro rfl;exact hb hr)
theorem RY {g:Operand}{p gf:Nat}{assign body:Code}{lb:Array Value}{all:List α}(I:List α→List (Nat×Nd))(nI:Nat)(B:List α→α→AS)(Ix:AExit→List α→List (Nat×Nd))(nX:Nat)(ok:List α→Prop)(X:AExit→List α→Prop)
  (hu: ∀pre,IC (I pre)=true) (huB: ∀pre x,IC (B pre x).o=true) (hux: ∀e pre,IC (Ix e pre)=true) (hXn: ∀v pre,¬X (.pan v) pre) (hok:ok [])
  (hA:Mem ⟨w0,fun _=>False,z0,G,[],[]⟩ (I []) nI th zc w) (hsl: ∀i x,lk m i=some x→ ∃y,a.tmps[i]?=some y∧Rep w zc th0 x y) (hth: ∀(i:Nat) L,th0[i]?=some L→th[i]?=some L)
  (htm:a.tmps.size=N) (hdf:a.defers=[]) (hg:a.eval g= .func (.func gf) #[] lb) (hgf:K9 P gf=true) (hp:p<N) (hpm:lk m p=none)
  (hit: ∀J Jx W z,Yld eA all P kk (w.heap.size+1) J Jx→(∀t b,z t b→b<W.heap.size)→Since w zc W z→J [] W z→CallsIn Fence.wide (kk+1) P gf (#[.func (.yield (w.heap.size+1)) #[] #[]]++lb) W fun e W'=>(∃v,e= .returned v)∧ ∃z',(∀t b,z t b→z' t b)∧(J all W' z'∨ ∃pre,pre <+: all∧Jx pre W' z'))
  (hassign: ∀E pre x,pre++[x] <+: all→ok pre→E.G=G→E.th0.length=th0.length→QN P (w.heap.size+1) kk E N assign ⟨(p,eA x)::m,I pre,nI⟩ (fun e st=>e= .normal∧Emb E N st (B pre x)))
  (hbody: ∀E pre x,pre++[x] <+: all→ok pre→E.G=G→E.th0.length=th0.length→QN P (w.heap.size+1) kk E N body (B pre x) (fun e st=>(e= .normal∧ok (pre++[x])∧Emb E N st ⟨[],I (pre++[x]),nI⟩)∨(e≠ .normal∧X e (pre++[x])∧Emb E N st ⟨[],Ix e (pre++[x]),nX⟩)))
  (hdone: ∀W z',ok all→JM G w.heap.size w0 z0 th0 m a.tmps (I all) nI W z'→W.heap[w.heap.size]?=some (.deferred (some []))→Q .normal {a with defers:=[{target:= .collected w.heap.size,args:= #[]}]} W)
  (hstop: ∀e pre W z',pre <+: all→X e pre→JM G w.heap.size w0 z0 th0 m a.tmps (Ix e pre) nX W z'→W.heap[w.heap.size]?=some (.deferred (some []))→(QA e).wp P Q {a with defers:=[{target:= .collected w.heap.size,args:= #[]}]} W):
  (Code.rangeFunc g #[p] assign body).wp P Q a w:=by
 obtain⟨D,hDd⟩: ∃D,D=w.heap.size:=⟨_,rfl⟩
 have h0:w0.heap.size≤D:=by rw[hDd];exact hA.grow
 refine(wpIn_wide (n:=kk+2)).1 (wpIn_rangeFunc ?_);intro fn _
 obtain⟨rec,hrec⟩: ∃rec:LoopState→Option Code→Loop,rec=fun st pe=>{state:=st,pending:=pe,fn,tmps:=a.tmps,params:= #[p],assign,body,defers:=w.heap.size}:=⟨_,rfl⟩
 obtain⟨W1,hW1⟩: ∃W1,(w.alloc (.deferred (some []))).alloc (.loop (rec .ready none))=W1:=⟨_,rfl⟩
 have hsz:W1.heap.size=w.heap.size+2:=by rw[←hW1];simp
 have hL1:W1.heap[D+1]?=some (.loop (rec .ready none)):=by
  rw[←hW1,hDd];have:=World.alloc_heap_new (w.alloc (.deferred (some []))) (.loop (rec .ready none));rwa [World.size_alloc] at this
 have hK1:W1.heap[D]?=some (.deferred (some [])):=by
  rw[←hW1,hDd];exact(Below.heap_alloc _ _ _ (by simp)).trans (World.alloc_heap_new w _)
 have hsame1: ∀b,b<w.heap.size→W1.heap[b]?=w.heap[b]?:=fun b hb=>by
  rw[←hW1];exact(Below.heap_alloc _ _ _ (by simp;omega)).trans (Below.heap_alloc _ _ _ hb)
 have hsys1:Sys w W1:=by rw[←hW1];exact⟨rfl,rfl,rfl⟩
 have hzr0: ∀t b,zc t b→ ¬MM D b:=fun t b hb=>by have:=hA.zlt t b hb;rintro(e |e)<;>omega
 have hS1:Since w zc W1 zc:=⟨⟨by omega,hsame1,hsys1⟩,fun _ _ h=>h,fun _ _ h=> .inl h⟩;have hS0:Since w0 z0 w zc:=Ch hA
 let J:List α→World→AT→Prop:=fun pre W z=>ok pre∧JM G D w0 z0 th0 m a.tmps (I pre) nI W z∧W.heap[D+1]?=some (.loop (rec .ready none))∧W.heap[D]?=some (.deferred (some []))
 let Jx:List α→World→AT→Prop:=fun pre W z=> ∃e,X e pre∧JM G D w0 z0 th0 m a.tmps (Ix e pre) nX W z∧W.heap[D+1]?=some (.loop (rec .done (some (QA e))))∧W.heap[D]?=some (.deferred (some []))
 have hJ1:J [] W1 zc:=by
  refine⟨hok,⟨by omega,th,zc,hA.epochG rfl hth (hu _) (fun i nd L hi hL hp=>?_) (by omega) (fun b hb _=>hsame1 b hb) hzr0 (fun _ _ h=>h) (fun _ _ h=> .inl h),⟨fun i x hi=>?_,hzr0,fun t b hb=>Nat.lt_of_lt_of_le (hA.zlt t b hb) (by omega),hS0.trans hS1⟩,fun _ _ h=>h⟩,hL1,hK1⟩
  ·obtain⟨L',h1,_,h3⟩:=hA.nds i nd hi
   rw[hL] at h1;cases h1;obtain⟨k1,k2,k3⟩:=h3 hp;refine⟨k1,k2,by rintro(e |e)<;>omega,?_⟩
   rcases k3 with k3 |k3
   ·exact k3.elim
   ·exact k3
  ·obtain⟨y,hy,hr⟩:=hsl i x hi
   exact⟨y,hy,hr.on' ⟨fun _ _ h=>h,fun t b hb=>hsame1 b (hA.zlt t b hb)⟩⟩
 have Y:Yld eA all P kk (D+1) J Jx:=by
  refine⟨?_,?_,?_⟩
  ·rintro pre W W' z z' ⟨hk,hj,h1,h2⟩ s
   exact⟨hk,hj.step (hu _) h0 s.ext.size (fun b hb _=>s.ext.same b hb) s.ext.sys s.new,(s.ext.same _ hj.1).trans h1,(s.ext.same _ (by have:=hj.1;omega)).trans h2⟩
  ·rintro pre W W' z z' ⟨e,hX,hj,h1,h2⟩ s
   exact⟨e,hX,hj.step (hux _ _) h0 s.ext.size (fun b hb _=>s.ext.same b hb) s.ext.sys s.new,(s.ext.same _ hj.1).trans h1,(s.ext.same _ (by have:=hj.1;omega)).trans h2⟩
  ·rintro pre x v W z hpx ⟨hok1,⟨hD,th1,z1,hm,hb,hz⟩,h1,h2⟩ hzlt hv
   have hy:=run_yield (P:=P) (args:= #[v]) h1 (by rw[hrec];rfl);rw[hrec] at hy;refine⟨fn,_,assign,body,hy,roundIn_of_wpIn trivial ?_⟩
   have hs1:Sim (OV D w0 G th0 W z1) N ⟨(p,eA x)::m,I pre,nI⟩ th1 z1 {tmps:=(#[p].zip #[v]).foldl (fun tmps (t,a)=>tmps.setIfInBounds t a) a.tmps,defers:=[]} W:=by
    refine⟨hm,by simp[htm],rfl,fun i y hi=>?_⟩
    have he:(#[p].zip #[v]).foldl (fun tmps (t,a)=>tmps.setIfInBounds t a) a.tmps=a.tmps.setIfInBounds p v:=by simp
    rw[he];simp only[lk] at hi
    by_cases hpi:p=i
    ·subst hpi
     rw[if_pos rfl] at hi;cases hi;exact⟨v,by rw[Array.getElem?_setIfInBounds_self_of_lt];rw[htm];exact hp,(hv.on' ⟨hz,fun _ _ _=>rfl⟩).pure th1⟩
    ·rw[if_neg hpi] at hi
     obtain⟨u,hu',hr⟩:=hb.slots i y hi;exact⟨u,by rw[Array.getElem?_setIfInBounds_ne hpi];exact hu',hr.later hm.pre⟩
   have hlets: ∀K:Act→World→Prop,¬LetsOut (Exit.then K (fun _ _ _=>False)):=by rintro K ⟨a,w,h⟩;exact h
   rw[←hDd] at hassign hbody;refine hassign (OV D w0 G th0 W z1) pre x hpx hok1 rfl rfl _ ⟨?_,fun id st th' z' a' w' h=>(by cases h.1),fun st th' z' a' w' h=>(by cases h.1),fun x' v' st th' z' w' h=>(by cases h.1)⟩ (hlets _) th1 z1 _ W hs1;rintro st th2 z2 a2 w2 ⟨_,hemb⟩ hs2;obtain⟨th3,z3,hs3⟩:=hemb _ _ _ _ hs2;have hb3:=hb.mem h0 hD hs3.mem;have hr3:w2.heap[D+1]?=some (.loop (rec .ready none)):=(hs3.mem.rd hD (.inr rfl)).trans h1;have hd3:w2.heap[D]?=some (.deferred (some [])):=(hs3.mem.rd hD (.inl rfl)).trans h2;have hD3:D+1<w2.heap.size:=(Array.getElem?_eq_some_iff.1 hr3).1;obtain⟨w3,hw3⟩: ∃w3,w3=w2.putObj (D+1) (.loop {rec .ready none with state:= .busy}):=⟨_,rfl⟩
   have hsz3:w3.heap.size=w2.heap.size:=by rw[hw3];simp
   have hsm3: ∀b,b<w2.heap.size→ ¬MM D b→w3.heap[b]?=w2.heap[b]?:=by rw[hw3];exact FR _ _ _ (.inr rfl)
   refine⟨w3,by rw[hw3];exact run_beginRound hr3 (by rw[hrec]),?_⟩
   have hsy3:Sys w2 w3:=by rw[hw3];exact⟨rfl,rfl,rfl⟩
   have hbz: ∀b,b<w2.heap.size→(∃t,z3 t b)∨b<w0.heap.size→ ¬MM D b:=fun b _ hk=>by
    rcases hk with ⟨t,hk⟩ |hk
    ·exact hb3.zrd t b hk
    ·rintro(e |e)<;>omega
   have hb4:Bd D w0 z0 th0 m a.tmps w3 z3:=hb3.go h0 hD3 (by omega) (fun b hlt hk=>hsm3 b hlt (hbz b hlt hk)) hsy3 (fun _ _ h=>h) (fun _ _ h=> .inl h);have hm4:=hs3.mem.epoch (w':=w3) (z':=z3) (huB pre x) h0 hD (by omega) hsm3 hb3.zrd (fun _ _ h=>h) (fun _ _ h=> .inl h);have hs4:Sim (OV D w0 G th0 w3 z3) N (B pre x) th3 z3 a2 w3:=⟨hm4,hs3.size,hs3.dfs,fun i y hi=>let ⟨u,hu',hr⟩:=hs3.slots i y hi;⟨u,hu',hr.on' ⟨fun _ _ h=>h,fun t b hb=>hsm3 b (hb3.zlt t b hb) (hb3.zrd t b hb)⟩⟩⟩
   have hr4:w3.heap[D+1]?=some (.loop {rec .ready none with state:= .busy}):=by rw[hw3];exact World.putObj_heap_same hD3
   have hd4:w3.heap[D]?=some (.deferred (some [])):=by rw[hw3];exact(World.putObj_heap_other (by omega)).trans hd3
   have fin: ∀(o':List (Nat×Nd))(n':Nat)(st:AS)(th5:List NLoc)(z5:AT)(a5:Act)(w5:World),IC o'=true→Emb (OV D w0 G th0 w3 z3) N st ⟨[],o',n'⟩→Sim (OV D w0 G th0 w3 z3) N st th5 z5 a5 w5→ ∀jump:Option Code,
     (Instr.endRound (D+1) jump).run P w5= .ok (.bool jump.isNone) (w5.putObj (D+1) (.loop (rec (if jump.isNone then .ready else .done) jump)))∧
     (W.heap.size≤(w5.putObj (D+1) (.loop (rec (if jump.isNone then .ready else .done) jump))).heap.size∧ ∀t b,z t b→(w5.putObj (D+1) (.loop (rec (if jump.isNone then .ready else .done) jump))).heap[b]?=W.heap[b]?)∧
     JM G D w0 z0 th0 m a.tmps o' n' (w5.putObj (D+1) (.loop (rec (if jump.isNone then .ready else .done) jump))) z∧
     (w5.putObj (D+1) (.loop (rec (if jump.isNone then .ready else .done) jump))).heap[D+1]?=some (.loop (rec (if jump.isNone then .ready else .done) jump))∧
     (w5.putObj (D+1) (.loop (rec (if jump.isNone then .ready else .done) jump))).heap[D]?=some (.deferred (some [])):=by
    intro o' n' st th5 z5 a5 w5 hu' hemb5 hs5 jump;obtain⟨th6,z6,hs6⟩:=hemb5 _ _ _ _ hs5
    have hD4:D+1<w3.heap.size:=by omega
    have hb6:=hb4.mem h0 hD4 hs6.mem;have hr6:=(hs6.mem.rd hD4 (.inr rfl)).trans hr4;have hd6:=(hs6.mem.rd hD4 (.inl rfl)).trans hd4;have hD6:D+1<w5.heap.size:=(Array.getElem?_eq_some_iff.1 hr6).1;generalize hob:(Obj.loop (rec (if jump.isNone then .ready else .done) jump))=ob;have hsm6: ∀b,b<w5.heap.size→ ¬MM D b→(w5.putObj (D+1) ob).heap[b]?=w5.heap[b]?:=FR _ _ _ (.inr rfl)
    have hbz6: ∀b,b<w5.heap.size→(∃t,z6 t b)∨b<w0.heap.size→ ¬MM D b:=fun b _ hk=>by
     rcases hk with ⟨t,hk⟩ |hk
     ·exact hb6.zrd t b hk
     ·rintro(e |e)<;>omega
    have hrun:=run_endRound (P:=P) jump hr6;rw[hrec] at hrun hob;rw[←hrec] at hob
    refine⟨?_,⟨?_,fun t b hb'=>?_⟩,⟨by simpa using hD6,th6,z6,hs6.mem.epoch hu' h0 hD4 (by simp) hsm6 hb6.zrd (fun _ _ h=>h) (fun _ _ h=> .inl h),
     hb6.go h0 hD6 (by simp) (fun b hlt hk=>hsm6 b hlt (hbz6 b hlt hk)) ⟨rfl,rfl,rfl⟩ (fun _ _ h=>h) (fun _ _ h=> .inl h),fun t b hb'=>hs6.mem.zin t b (hs3.mem.zin t b (hz t b hb'))⟩,
     World.putObj_heap_same hD6,(World.putObj_heap_other (by omega)).trans hd6⟩
    ·rw[hrun,←hob,hrec]
    ·have e1:W.heap.size≤w2.heap.size:=hs3.mem.grow
     have e2:w3.heap.size≤w5.heap.size:=hs6.mem.grow;rw[World.putObj_size];omega
    ·have k1:=hz t b hb'
     have k2:w2.heap[b]?=W.heap[b]?:=hs3.mem.frame b (hb.zlt t b k1) (fun ho=>ho.1 t k1);have k3:=hs3.mem.zin t b k1;have k4:w5.heap[b]?=w3.heap[b]?:=hs6.mem.frame b (hb4.zlt t b k3) (fun ho=>ho.1 t k3);exact(hsm6 b (hb6.zlt t b (hs6.mem.zin t b k3)) (hb.zrd t b k1)).trans (k4.trans ((hsm3 b (hb3.zlt t b k3) (hb.zrd t b k1)).trans k2))
   refine hbody (OV D w0 G th0 w3 z3) pre x hpx hok1 rfl rfl _ ⟨?_,?_,?_,?_⟩ (by rintro⟨a,w,h⟩;exact h) th3 z3 a2 w3 hs4
   ·rintro st th5 z5 a5 w5 (⟨_,hok5,hemb5⟩ |⟨hne,_⟩) hs5
    ·obtain⟨f1,f2,f3,f4,f5⟩:=fin _ _ st th5 z5 a5 w5 (hu _) hemb5 hs5 none
     exact⟨_,_,f1,f2,.inl ⟨rfl,hok5,f3,f4,f5⟩⟩
    ·exact absurd rfl hne
   ·rintro id st th5 z5 a5 w5 (⟨he,_⟩ |⟨_,hX,hemb5⟩) hs5
    ·cases he
    ·obtain⟨f1,f2,f3,f4,f5⟩:=fin _ _ st th5 z5 a5 w5 (hux _ _) hemb5 hs5 (some (.exit id))
     exact⟨_,_,f1,f2,.inr ⟨rfl,_,hX,f3,f4,f5⟩⟩
   ·rintro st th5 z5 a5 w5 (⟨he,_⟩ |⟨_,hX,hemb5⟩) hs5
    ·cases he
    ·obtain⟨f1,f2,f3,f4,f5⟩:=fin _ _ st th5 z5 a5 w5 (hux _ _) hemb5 hs5 (some .ret)
     exact⟨_,_,f1,f2,.inr ⟨rfl,_,hX,f3,f4,f5⟩⟩
   ·rintro x' v' st th5 z5 w5 (⟨he,_⟩ |⟨_,hX,_⟩)
    ·cases he
    ·exact absurd hX (hXn x' _)
 refine⟨w.heap.size+1,[{target:= .collected w.heap.size,args:= #[]}],W1,{target:= .fn (.func gf) lb,args:= #[.func (.yield (w.heap.size+1)) #[] #[]]},W1,gf,
  #[.func (.yield (w.heap.size+1)) #[] #[]]++lb,W1,?_,?_,fun _ _=>trivial,?_,fun h=>(by cases h),?_⟩
 ·rw[←hW1,hrec];exact run_enterLoop_outer _ _ _ _ _
 ·simp only[resolve,hg]
  simp[go_sem]
 ·simp only[invoke]
  rw[DX hgf]
 ·rw[hdf]
  have hitr:=hit J Jx W1 zc (by rw[←hDd];exact Y) (fun t b hb=>Nat.lt_of_lt_of_le (hA.zlt t b hb) (by omega)) hS1 hJ1;refine hitr.mono ?_;rintro e W' ⟨⟨v,rfl⟩,z',_,(⟨hk,hj,hr,hd⟩ |⟨pre,hpre,e,hX,hj,hr,hd⟩)⟩
  ·refine⟨none,W'.putObj (D+1) (.loop {rec .ready none with state:= .exhausted}),by rw[←hDd];have:=run_endLoop (P:=P) hr (by rw[hrec];simp);rw[hrec] at this ⊢;exact this,?_⟩
   rw[hDd] at hj hd;refine hdone _ z' hk (hj.step (hu _) (by omega) (by simp) (FR _ _ _ (by rw[hDd];exact .inr rfl)) ⟨rfl,rfl,rfl⟩ (fun _ _ h=> .inl h)) ((World.putObj_heap_other (by omega)).trans hd)
  ·refine⟨some (QA e),W'.putObj (D+1) (.loop {rec .done (some (QA e)) with state:= .exhausted}),by rw[←hDd];have:=run_endLoop (P:=P) hr (by rw[hrec];simp);rw[hrec] at this ⊢;exact this,?_⟩
   rw[hDd] at hj hd;refine(wpIn_wide).2 (hstop e pre _ z' hpre hX (hj.step (hux _ _) (by omega) (by simp) (FR _ _ _ (by rw[hDd];exact .inr rfl)) ⟨rfl,rfl,rfl⟩ (fun _ _ h=> .inl h)) ((World.putObj_heap_other (by omega)).trans hd))
end
end Go.AM
namespace Go.AM
open Go Go.RowKit
section
variable {P:Program} {G:List (Nat×List Value)} {N kk D:Nat} {w0 W w w':World} {z0 zc z z':AT} {th0 th:List NLoc} {m:List (Nat×AV)} {a:Act} {Q:Exit→Act→World→Prop} {o:List (Nat×Nd)} {n:Nat} {st:AS} {tmps:Array Value} {E:Env}
theorem Mem.env {E E':Env}(h:Mem E o n th z w)(e1:E'.w0=E.w0)(e2:E'.own=E.own)(e3:E'.z0=E.z0)(e4:E'.G=E.G)(e5:E'.th0=E.th0):Mem E' o n th z w:=by
 obtain⟨a1,a2,a3,a4,a5,a6⟩:=E;obtain⟨b1,b2,b3,b4,b5,b6⟩:=E';dsimp only at e1 e2 e3 e4 e5;subst e1 e2 e3 e4 e5;obtain⟨U,hU⟩:=h.uls;exact⟨h.len,h.nds,h.inj,h.zlt,h.grow,h.frame,h.zin,h.zout,h.zb,h.globs,h.pre,h.sys,U,hU.at_,hU.lt,hU.nz,hU.ow,hU.inj,hU.kn⟩
def YS (D:Nat)(w0:World)(G:List (Nat×List Value))(th0:List NLoc)(W:World)(zc:AT):Env:={OV D w0 G th0 W zc with ds:=[{target:= .collected D,args:= #[]}]}
theorem JM.sim (h:JM G D w0 z0 th0 m tmps o n W z)(hN:tmps.size=N): ∃th zc,Sim (YS D w0 G th0 W zc) N ⟨m,o,n⟩ th zc ⟨tmps,[{target:= .collected D,args:= #[]}]⟩ W∧Bd D w0 z0 th0 m tmps W zc∧D+1<W.heap.size:=by
 obtain⟨hD,th,zc,hm,hb,hz⟩:=h;exact⟨th,zc,⟨hm.env rfl rfl rfl rfl rfl,hN,rfl,fun i x hi=>let ⟨y,hy,hr⟩:=hb.slots i x hi;⟨y,hy,hr.later hm.pre⟩⟩,hb,hD⟩
def Zf (E:Env)(N:Nat)(S1:AS):AExit→AS→Prop
 | .normal,st=>Emb E N st S1
 |_,_=>False
theorem Og {c:Code}{S1:AS}(hA:AWP P E N c st (Zf E N S1))(h:Sim E N st th z a w)(hQ: ∀th' z' a' w',Sim E N S1 th' z' a' w'→Q .normal a' w'):c.wp P Q a w:=by
 refine hA Q ⟨?_,fun id st th z a w h=>h.elim,fun st th z a w h=>h.elim,fun v x st th z w h=>h.elim⟩ th z a w h;rintro st' th' z' a' w' he hs;obtain⟨th2,z2,h2⟩:=he _ _ _ _ hs;exact hQ _ _ _ _ h2
theorem L_ {fn:Func}{y:AV}{own:Nat→Prop}(hs:Sim (YS D w0 G th0 W zc) N st th z a w)(hu:IC st.o=true)(hb:Bd D w0 z0 th0 m tmps W zc)(h0:w0.heap.size≤D)(hD:D+1<W.heap.size)(hd:W.heap[D]?=some (.deferred (some [])))
  (hG: ∀g cs,(g,cs) ∈ G→z0 true g∧ ∀(j:Nat) v,cs[j]?=some v→w0.cell? ⟨g,j,none⟩=some v) (hz0: ∀t b,z0 t b→b<w0.heap.size)
  (hret: ∀E,E.th0.length=0→ ∃l,LI P st fn.results.toList=some l∧OT E N st (AG l) [] 0 y):
  bodyPostM Fence.wide kk P fn (fun e w'=> ∃v y' o' n' th' z',((e= .returned v∧Is y [] 0 y' o' n')∨(e= .panicked [{v:=v,recovered:=false}]∧No y' o' n'))∧Mem ⟨w0,own,z0,G,[],[]⟩ o' n' th' z' w'∧Rep w' z' th' y' v) .ret a w:=by
 have hm:Mem (OV D w0 G th0 W zc) st.o st.n th z w:=hs.mem.env rfl rfl rfl rfl rfl;have hb2:=hb.mem h0 hD hm;have hd2:w.heap[D]?=some (.deferred (some [])):=(hm.rd hD (.inl rfl)).trans hd;have hg:W.heap.size≤w.heap.size:=hm.grow
 have hD2:D+1<w.heap.size:=by omega
 have hsm: ∀b,b<w.heap.size→ ¬MM D b→(w.putObj D (.deferred none)).heap[b]?=w.heap[b]?:=FR _ _ _ (.inl rfl)
 have hnd: ∀i nd L,lk st.o i=some nd→th[i]?=some L→L.ph=false→L.b<w.heap.size∧(∀t,¬z t L.b)∧ ¬MM D L.b∧w0.heap.size≤L.b:=by
  intro i nd L hi hL hp;obtain⟨L',h1,_,h3⟩:=hm.nds i nd hi;rw[hL] at h1;cases h1;obtain⟨k1,k2,k3⟩:=h3 hp;refine⟨k1,k2,?_⟩
  rcases k3 with k3 |k3
  ·exact k3.2
  ·have k3:W.heap.size≤L.b:=k3
   exact⟨by rintro(e |e)<;>omega,by omega⟩
 have hb3:Bd D w0 z0 th0 m tmps (w.putObj D (.deferred none)) z:=hb2.go h0 hD2 (by simp) (fun b hlt hk=>hsm b hlt (by
  rcases hk with ⟨t,hk⟩ |hk
  ·exact hb2.zrd t b hk
  ·rintro(e |e)<;>omega)) ⟨rfl,rfl,rfl⟩ (fun _ _ h=>h) (fun _ _ h=> .inl h)
 have hm3:=hm.epochG (G:=G) (th0:=[]) (D:=D) (w0:=w0) (w':=w.putObj D (.deferred none)) (z':=z) rfl (fun i L h=>by simp at h) hu hnd (by simp) hsm hb2.zrd (fun _ _ h=>h) (fun _ _ h=> .inl h);have hs3:Sim (OV D w0 G [] (w.putObj D (.deferred none)) z) N st th z ⟨a.tmps,[]⟩ (w.putObj D (.deferred none)):=
  ⟨hm3,hs.size,rfl,fun i x hi=>let ⟨u,hu',hr⟩:=hs.slots i x hi;⟨u,hu',hr.on' ⟨fun _ _ h=>h,fun t b hb'=>hsm b (hb2.zlt t b hb') (hb2.zrd t b hb')⟩⟩⟩
 obtain⟨l,hl,he⟩:=hret (OV D w0 G [] (w.putObj D (.deferred none)) z) rfl;obtain⟨v,hv,hrun⟩:=EI (P:=P) hs3 hl;obtain⟨th4,z4,hm4,hr4⟩:=he _ _ _ _ v hs3 hv;have hth:th4=[]:=List.length_eq_zero_iff.1 hm4.len;subst hth;have hb3':Bd D w0 z0 [] [] #[] (w.putObj D (.deferred none)) z:=⟨fun i x hi=>(by simp[lk] at hi),hb3.zrd,hb3.zlt,hb3.since⟩;have hb4:=hb3'.mem h0 (by simpa using hD2) hm4;have hdf:a.defers=[{target:= .collected D,args:= #[]}]:=hs.dfs;show LeavesInM Fence.wide kk P fn a.tmps _ a.defers .returning w;rw[hdf];refine⟨by simp,.inl ⟨D,_,rfl,run_takeDeferred hd2,?_⟩⟩;refine⟨v,hrun,v,y,[],0,[],z4,.inl ⟨rfl,rfl,rfl,rfl⟩,?_,hr4⟩;have hsc:=hb4.since;refine⟨rfl,fun i nd hi=>by simp[lk] at hi,fun i j x y L M hi=>by simp[lk] at hi,hb4.zlt,hsc.ext.size,fun b hb _=>hsc.ext.same b hb,hsc.sub,fun b hb=>?_,fun b hb=>?_,fun g cs hg=>?_,fun i L hi=>by simp at hi,hsc.ext.sys,FN rfl⟩
 ·rcases hsc.new _ _ hb with q |q
  ·exact .inl q
  ·exact .inr (.inr q.2.1)
 ·rcases hsc.new _ _ hb with q |q
  ·exact q
  ·cases q.1
 ·obtain⟨h1,h2⟩:=hG g cs hg
  exact⟨hsc.sub _ _ h1,fun j v hv=>(B7 (hsc.ext.same g (hz0 _ _ h1)) j).trans (h2 j v hv)⟩
theorem Con.res {f:Nat}{xs:List AV}{o o':List (Nat×Nd)}{n n':Nat}{y y':AV}{R:AV→List (Nat×Nd)→Nat→Prop}(hc:Con P G f xs o n (Is y o' n') R)(h: ∀(w:World)(z:AT)(th:List NLoc)(v:Value),Rep w z th y v→Rep w z th y' v):Con P G f xs o n (Is y' o' n') R:=by
 refine⟨hc.1,fun w th z own vs h1 h2 h3=>(hc.2 w th z own vs h1 h2 h3).mono ?_⟩;rintro e w' ⟨v,u,o2,n2,th',z',hh,hm,hr⟩
 rcases hh with ⟨rfl,rfl,rfl,rfl⟩ |⟨rfl,hR⟩
 ·exact⟨v,y',_,_,th',z',.inl ⟨rfl,rfl,rfl,rfl⟩,hm,h _ _ _ _ hr⟩
 ·exact⟨v,u,o2,n2,th',z',.inr ⟨rfl,hR⟩,hm,hr⟩
theorem Con.emb {f:Nat}{xs:List AV}{o o' o2:List (Nat×Nd)}{n n' n2:Nat}{y y2:AV}(hc:Con P G f xs o n (Is y o' n') No)(he: ∀E:Env,E.th0.length=n→Emb E 1 ⟨[(0,y)],o',n'⟩ ⟨[(0,y2)],o2,n2⟩):Con P G f xs o n (Is y2 o2 n2) No:=by
 refine⟨hc.1,fun w th z own vs h1 h2 h3=>(hc.2 w th z own vs h1 h2 h3).mono ?_⟩;rintro e w' ⟨v,u,o3,n3,th',z',hh,hm,hr⟩
 rcases hh with ⟨rfl,rfl,rfl,rfl⟩ |⟨rfl,hR⟩
 ·have hs:Sim ⟨w,own,z,G,th,[]⟩ 1 ⟨[(0,u)],o3,n3⟩ th' z' ⟨#[v],[]⟩ w':=⟨hm,rfl,rfl,fun i x hi=>by
   simp only[lk] at hi;split at hi
   ·rename_i q;subst q;cases hi;exact⟨v,rfl,hr⟩
   ·cases hi⟩
  obtain⟨th2,z2,hs2⟩:=he _ h2.len _ _ _ _ hs;obtain⟨v2,hv2,hr2⟩:=hs2.slots 0 y2 rfl
  obtain rfl:v=v2:=by simpa using hv2
  exact⟨v,y2,_,_,th2,z2,.inl ⟨rfl,rfl,rfl,rfl⟩,hs2.mem,hr2⟩
 ·exact hR.elim
theorem Oj {w:World}{z:AT}{th:List NLoc}{t:Bool}{k:Nat}{x:AV}{v:Value}(h:Rep w z th (.tup [.r (.slice none 0 0),x]) v):Rep w z th (.tup [.ro t k [],x]) v:=by
 cases h with
 |tup _ c ys hl hx=>
  refine .tup _ _ ys hl (fun i u y h1 h2=>?_)
  cases i with
  |zero=>
   have:=hx 0 _ y rfl h2;cases h1
   cases this with
   |r=>exact .nil _ _ _ _ _
  |succ i=>exact hx (i+1) u y h1 h2
end
end Go.AM
namespace Go.AM
open Go Go.RowKit
attribute [local irreducible] AWP Aw
theorem La {P:Program}{w:World}{z:AT}{t:Bool}{l:List UInt8}{v:Value}(h:Rep w z [] (.ro t 1 (l.map AC)) v):(Extern.Bytes.bytesOf v).run P w= .ok ⟨l.toArray⟩ w:=by
 obtain⟨ad,c,rfl,hc,hh⟩:=h.ro_inv
 rcases hh with h1 |⟨b,o,rfl,hz,hcell⟩
 ·have:l=[]:=by simpa using h1
  subst this
  cases ad<;>rfl
 ·have key:=Lib.run_loadBytesX (P:=P) (w:=w) (l.map fun x=>(x.toNat:Int)) ⟨b,o,none⟩ .empty (by
   intro j x hx;rw[List.getElem?_map,Option.map_eq_some_iff] at hx;obtain⟨y,hy,rfl⟩:=hx;obtain⟨_,h3⟩:=hcell j (AC y) (by rw[List.getElem?_map,hy];rfl);obtain⟨u,hu,hr,_⟩:=h3 0 _ rfl;obtain rfl:=hr.r_inv
   rw[C2];simpa using hu)
  have e1:Lib.bytesOf (l.map fun x=>(x.toNat:Int))=l:=by
   rw[Lib.bytesOf,List.map_map];refine(List.map_congr_left (fun x _=>?_)).trans (List.map_id _);show UInt8.ofNat ((x.toNat:Int).toNat)=x;rw[Int.toNat_natCast,UInt8.ofNat_toNat]
  rw[e1,List.length_map] at key;show(Extern.Bytes.loadBytes ⟨b,o,none⟩ (l.map AC).length .empty).run P w=_;rw[List.length_map,key];simp
theorem S0 {w:World}{z:AT}{t u:Bool}{l m:List UInt8}{a b:Value}(ha:Rep w z [] (.ro t 1 (l.map AC)) a)(hb:Rep w z [] (.ro u 1 (m.map AC)) b):
  (callFunc 146 #[a,b]).run prog w= .ok (.value (.int .i64 (Lib.compareBytes l m))) w:=by
 have hf:prog.funcs[146]?=some f146:=by kernel_rfl
 rw[run_callFunc_extern hf (by kernel_rfl) (by kernel_rfl) (by kernel_rfl) (e:=Extern.BytealgCompare.compare) (by kernel_rfl)]
 have:(Extern.BytealgCompare.compare #[a,b]).run prog w= .ok (.int .i64 (Lib.compareBytes l m)) w:=by
  show((Extern.Bytes.bytesOf a) >>= fun x=>(Extern.Bytes.bytesOf b) >>= fun y=>pure (goInt (Extern.BytealgCompare.cmp x y))).run _ w=_;simp only[Sem.run_bind,La ha,La hb,Result.andThen_ok,Sem.run_pure,Lib.cmp_eq]
  rfl
 rw[this];rfl
theorem T4 {w:World}{z:AT}{t u:Bool}{l m:List UInt8}{a b:Value}(ha:Rep w z [] (.ro t 1 (l.map AC)) a)(hb:Rep w z [] (.ro u 1 (m.map AC)) b):
  Calls prog 96 #[a,b] w fun e w'=>e= .returned (.int .i64 (Lib.compareBytes l m))∧Below w.heap.size w w':=by
 have h75:=S0 ha hb
 go_enter func96,ntmps96
 go_wp2
 go_ret
 exact⟨rfl,Below.refl _ _⟩
theorem Ct (G:List (Nat×List Value))(t u:Bool)(l m:List UInt8):Con prog G 96 [.ro t 1 (l.map AC),.ro u 1 (m.map AC)] [] 0 (Is (.r (.int .i64 (Lib.compareBytes l m))) [] 0) No:=
 BF (by kernel_rfl) (fun w z vs hz hr hG=>by
  obtain⟨v,r,rfl,h1,h2⟩:=hr.head;obtain⟨v2,r2,rfl,h3,h4⟩:=h2.head;obtain rfl:=h4.of_nil
  exact T4 h1 h3)
theorem Ks (G:List (Nat×List Value))(t:Bool)(x:UInt8)(l:List UInt8)(hl:l.length≤1048576):Con prog G 104 [.ro t 1 ((x::l).map AC)] [] 0 (Is (.ro true 1 ((x::l).map AC)) [] 0) No:=by
 refine AA func104 rfl (by kernel_rfl) (of_decide_eq_true (by kernel_rfl)) ?_;intro E hG hE;subst hG;simp only[B9];(repeat' (first |refine A0 ?_ |refine A6 ?_ |((refine rR (fun K kp hK hkp=>?_));simp(implicitDefEqProofs:=false) (maxSteps:=2000000) (disch:=omega) only[go_sem];(repeat' (first |(refine hK _ ?_;clear hK hkp kp K) |(with_reducible refine And.intro ?_ ?_) |omega))) |refine A4 rfl ?_ |refine A8 ?_));(refine A7 (by(simp(implicitDefEqProofs:=false) (maxSteps:=2000000) (disch:=omega) only[go_sem,results104]);rfl) ?_;refine Ar (by simp only[AG];simp(implicitDefEqProofs:=false) (maxSteps:=2000000) (disch:=omega) only[go_sem];rfl) ?_;refine(Al hE (by simp) ?_).s;simp[AG,ren,renL])
theorem BT (G:List (Nat×List Value))(t:Bool)(l:List UInt8)(hl:l.length≤1048576):Con prog G 94 [.ro t 1 (l.map AC)] [] 0 (Is (.ro true 1 (l.map AC)) [] 0) No:=by
 refine AA func94 rfl (by kernel_rfl) (of_decide_eq_true (by kernel_rfl)) ?_;intro E hG hE;subst hG;simp only[B9];(repeat' (first |refine A0 ?_ |refine A5 ?_ |((refine rR (fun K kp hK hkp=>?_));simp(implicitDefEqProofs:=false) (maxSteps:=2000000) (disch:=omega) only[go_sem];(repeat' (refine hK _ ?_;clear hK hkp kp K)))));(refine AWP.emb (C0 3 5 1 ?_) ?_;(·rfl);dsimp only);refine AH (fun k:Nat=>⟨[(4,.r (.int .i64 k)),(3,.s 0 0 k),(0,.ro t 1 (l.map AC))],[(0,.lst 5 1 ((l.take k).map AC))],1⟩) (fun k=>k≤l.length) (fun k=>l.length - k) 0 ?_ ?_ ?_
 ·simp
 ·(refine AE hE [0] rfl ?_ ?_<;>simp[AU,AO,lk,ren,renL,A9,AL]<;>(try omega))
 intro k hk
 have hz:(l.take k).length=k:=by rw[List.length_take];omega
 by_cases hlt:k<l.length
 ·obtain⟨x,hx⟩: ∃x,l[k]?=some x:=⟨l[k],by simp[hlt]⟩
  have htk:l.take (k+1)=l.take k++[x]:=by rw[List.take_add_one,hx];rfl
  (repeat' (first |refine A0 ?_ |refine A5 ?_ |refine A6 ?_ |((refine rR (fun K kp hK hkp=>?_));simp(implicitDefEqProofs:=false) (maxSteps:=2000000) (disch:=omega) only[go_sem,hx,AC];(repeat' (first |(refine hK _ ?_;clear hK hkp kp K) |(with_reducible refine And.intro ?_ ?_) |omega))) |((refine AD rfl (fun h=>?_) (fun h=>?_)<;>try simp only[BQ] at h)<;>(try (exfalso;omega)))))
  ((refine AJ (k+1) ?_ ?_ ?_);rotate_left;(·(try dsimp only);(omega));(·(refine AE hE [2] rfl ?_ ?_<;>simp[AU,AO,lk,ren,renL,A9,AL,AC,htk,List.take_take,Nat.min_self]<;>(try omega))))
  omega
 ·obtain rfl:k=l.length:=by omega
  rw[List.take_length];(repeat' (first |refine A0 ?_ |refine AB ?_ |((refine rR (fun K kp hK hkp=>?_));simp(implicitDefEqProofs:=false) (maxSteps:=2000000) (disch:=omega) only[go_sem];(repeat' (refine hK _ ?_;clear hK hkp kp K))) |((refine AD rfl (fun h=>?_) (fun h=>?_)<;>try simp only[BQ] at h)<;>(try (exfalso;omega))) |refine A8 ?_));(refine A7 (by(simp(implicitDefEqProofs:=false) (maxSteps:=2000000) (disch:=omega) only[go_sem,results94]);rfl) ?_;refine Ar (by simp only[AG];simp(implicitDefEqProofs:=false) (maxSteps:=2000000) (disch:=omega) only[go_sem];rfl) ?_;refine(Al hE (by simp) ?_).s;simp[AG,ren,renL])
theorem C5 (G:List (Nat×List Value))(t u:Bool)(l m:List UInt8):Con prog G 75 [.ro t 1 (l.map AC),.ro u 1 (m.map AC)] [] 0 (Is (.r (.bool (Op.bytesLess l m))) [] 0) No:=by
 refine AA func75 rfl (by kernel_rfl) (of_decide_eq_true (by kernel_rfl)) ?_;intro E hG hE;subst hG;simp only[B9];(repeat' (first |refine A0 ?_ |((refine rR (fun K kp hK hkp=>?_));simp(implicitDefEqProofs:=false) (maxSteps:=2000000) (disch:=omega) only[go_sem,Gz];(repeat' (refine hK _ ?_;clear hK hkp kp K))) |refine A8 ?_));(refine A7 (by(simp(implicitDefEqProofs:=false) (maxSteps:=2000000) (disch:=omega) only[go_sem,results75]);rfl) ?_;refine eN hE ?_;simp[AG,ren,renL])
 all_goals simp[ByteArray.toList_eq]
end Go.AM
namespace Go.AM
abbrev Ky:=List UInt8
def B4 (a b:Ky):Bool:=Go.Op.bytesLess a b
structure PG where
 leaf:Bool
 keys:List Ky
 kids:List Int
 high:Ky
 next:Int
instance:Inhabited PG:=⟨⟨true,[],[],[],-1⟩⟩
def pg (ps:List PG)(i:Nat):PG:=ps.getD i default
def AI (ps:List PG)(i:Nat):List Nat:=if (pg ps i).leaf then [] else (pg ps i).kids.map Int.toNat
def Eg (p:PG)(k:Nat)(low:Ky):Ky:=if k=0 then low else p.keys.getD (k - 1) []
def Db (p:PG)(k:Nat)(high:Ky):Ky:=if k<p.keys.length then p.keys.getD k [] else high
def B5 (p:PG)(low:Ky):Bool:=match p.keys with
 | []=>true
 |k::_=> !B4 k low
def CU (ps:List PG):Nat→Nat→Ky→Ky→Prop
 |0,i,low,high=>(pg ps i).leaf=true∧(pg ps i).high=high∧B5 (pg ps i) low=true
 |d+1,i,low,high=>(pg ps i).leaf=false∧(pg ps i).high=high∧B5 (pg ps i) low=true∧ ∀(k kid:Nat),(AI ps i)[k]?=some kid→CU ps d kid (Eg (pg ps i) k low) (Db (pg ps i) k high)
def CB (ps:List PG):Nat→List Nat→List Nat
 |0,l=>l
 |j+1,l=>CB ps j (l.flatMap (AI ps))
def pre (ps:List PG):Nat→Nat→List Nat
 |0,i=>[i]
 |d+1,i=>i::(AI ps i).flatMap (pre ps d)
theorem Bh (ps:List PG): ∀(j:Nat)(a b:List Nat),CB ps j (a++b)=CB ps j a++CB ps j b
 |0,_,_=>rfl
 |j+1,a,b=>by simp only[CB,List.flatMap_append,Bh ps j]
theorem Da (ps:List PG): ∀(j:Nat),CB ps j []=[]
 |0=>rfl
 |j+1=>by simp only[CB,List.flatMap_nil,Da ps j]
theorem D_ (ps:List PG)(j i:Nat):CB ps (j+1) [i]=CB ps j (AI ps i):=by simp[CB]
theorem Dj {ps:List PG}{i:Nat}(h:(pg ps i).leaf=true):AI ps i=[]:=by simp[AI,h]
theorem Ls {ps:List PG}: ∀ {d i:Nat}{low high:Ky},CU ps d i low high→ ∀j,d<j→CB ps j [i]=[]
 |0,i,low,high,h,j,hj=>by
  obtain⟨j,rfl⟩: ∃k,j=k+1:=⟨j - 1,by omega⟩;rw[D_,Dj h.1,Da]
 |d+1,i,low,high,h,j,hj=>by
  obtain⟨j,rfl⟩: ∃k,j=k+1:=⟨j - 1,by omega⟩;rw[D_]
  have hs: ∀x ∈ AI ps i,CB ps j [x]=[]:=fun x hx=>by
   obtain⟨k,hk⟩:=List.mem_iff_getElem?.1 hx;exact Ls (h.2.2.2 k x hk) j (by omega)
  generalize AI ps i=l at hs
  induction l with
  |nil=>exact Da ps j
  |cons x r ih=>
   rw[show x::r=[x]++r from rfl,Bh,hs x (by simp),ih fun y hy=>hs y (by simp[hy])];rfl
structure WS where
 met:List Nat
 rows:List (List Nat)
def BE (rows:List (List Nat))(level i:Nat):List (List Nat):=if level<rows.length then rows.set level (rows.getD level []++[i]) else rows++[[i]]
def DG (rec:Nat→Ky→Ky→Nat→WS→Int×WS)(p:PG)(low high:Ky)(lev:Nat):Nat→Int→WS→List Nat→Int×WS
 |_,deep,st,[]=>(deep,st)
 |k,deep,st,kid::r=>if (rec kid (Eg p k low) (Db p k high) lev st).1<0∨(deep≠ -2∧(rec kid (Eg p k low) (Db p k high) lev st).1≠deep) then (-1,(rec kid (Eg p k low) (Db p k high) lev st).2)
  else DG rec p low high lev (k+1) (rec kid (Eg p k low) (Db p k high) lev st).1 (rec kid (Eg p k low) (Db p k high) lev st).2 r
def CC (ps:List PG):Nat→Nat→Ky→Ky→Nat→WS→Int×WS
 |0,_,_,_,_,st=>(-1,st)
 |f+1,i,low,high,level,st=>if i ∈ st.met then (-1,st) else
  if (pg ps i).high≠high∨B5 (pg ps i) low=false then (-1,⟨st.met++[i],st.rows⟩) else
  if (pg ps i).leaf=true then ((level:Int),⟨st.met++[i],BE st.rows level i⟩) else
  DG (CC ps f) (pg ps i) low high (level+1) 0 (-2) ⟨st.met++[i],BE st.rows level i⟩ (AI ps i)
theorem Gt (rows:List (List Nat))(level i:Nat)(h:level≤rows.length):(BE rows level i).length=max rows.length (level+1):=by
 unfold BE;split
 ·rw[List.length_set];omega
 ·rw[List.length_append];simp;omega
theorem L8 (rows:List (List Nat))(level i:Nat)(h:level≤rows.length)(m:Nat):(BE rows level i).getD m []=rows.getD m []++if m=level then [i] else []:=by
 unfold BE;simp only[List.getD_eq_getElem?_getD];split
 ·rename_i hl
  rw[List.getElem?_set]
  by_cases hm:level=m
  ·subst hm;simp[hl]
  ·rw[if_neg hm,if_neg (Ne.symm hm),List.append_nil]
 ·rename_i hl
  obtain rfl:level=rows.length:=by omega
  by_cases hm:m=rows.length
  ·subst hm;simp
  ·rw[if_neg hm,List.append_nil]
   by_cases hlt:m<rows.length
   ·rw[List.getElem?_append_left hlt]
   ·rw[List.getElem?_eq_none (by simp;omega),List.getElem?_eq_none (by omega)]
structure WalkOK (ps:List PG)(d i level:Nat)(low high:Ky)(st:WS)(r:Int×WS):Prop where
 deep:r.1=((level+d:Nat):Int)
 good:CU ps d i low high
 met:r.2.met=st.met++pre ps d i
 nodup:(st.met++pre ps d i).Nodup
 len:r.2.rows.length=max st.rows.length (level+d+1)
 rows: ∀m,r.2.rows.getD m []=st.rows.getD m []++if level≤m then CB ps (m - level) [i] else []
structure KidsOK (ps:List PG)(p:PG)(d lev k:Nat)(low high:Ky)(l:List Nat)(st:WS)(r:Int×WS):Prop where
 deep:r.1=((lev+d:Nat):Int)
 good: ∀(j kid:Nat),l[j]?=some kid→CU ps d kid (Eg p (k+j) low) (Db p (k+j) high)
 met:r.2.met=st.met++l.flatMap (pre ps d)
 nodup:(st.met++l.flatMap (pre ps d)).Nodup
 len:r.2.rows.length=max st.rows.length (lev+d+1)
 rows: ∀m,r.2.rows.getD m []=st.rows.getD m []++if lev≤m then CB ps (m - lev) l else []
section
variable {ps:List PG} {rec:Nat→Ky→Ky→Nat→WS→Int×WS} {p:PG} {low high:Ky} {lev:Nat}
theorem KN (hrec: ∀i low high st,lev≤st.rows.length→st.met.Nodup→0≤(rec i low high lev st).1→ ∃d,WalkOK ps d i lev low high st (rec i low high lev st)):
  ∀(l:List Nat)(k d0:Nat)(deep:Int)(st:WS),lev≤st.rows.length→st.met.Nodup→(deep= -2∨(deep=((lev+d0:Nat):Int)∧lev+d0+1≤st.rows.length))→(deep= -2→l≠[])→0≤(DG rec p low high lev k deep st l).1→
   ∃d,(deep≠ -2→d=d0)∧KidsOK ps p d lev k low high l st (DG rec p low high lev k deep st l)
 | [],k,d0,deep,st,hr,hn,hd,he,h=>by
   rcases hd with hd |⟨hd,hl⟩
   ·exact absurd rfl (he hd)
   ·exact⟨d0,fun _=>rfl,hd,fun j kid hj=>by simp at hj,by simp[DG],by simpa using hn,by simp only[DG];omega,fun m=>by simp[DG,Da]⟩
 |kid::r,k,d0,deep,st,hr,hn,hd,he,h=>by
  rw[DG] at h ⊢
  by_cases hc:(rec kid (Eg p k low) (Db p k high) lev st).1<0∨(deep≠ -2∧(rec kid (Eg p k low) (Db p k high) lev st).1≠deep)
  ·rw[if_pos hc] at h;simp at h
  ·rw[if_neg hc] at h ⊢
   obtain⟨d,w⟩:=hrec kid (Eg p k low) (Db p k high) st hr hn (by omega)
   have hdd:deep≠ -2→d=d0:=fun h1=>by
    have:=w.deep
    rcases hd with hd |⟨hd,_⟩
    ·exact absurd hd h1
    ·omega
   generalize rec kid (Eg p k low) (Db p k high) lev st=x at h w ⊢;obtain⟨d',h2,K⟩:=KN hrec r (k+1) d x.1 x.2 (by rw[w.len];omega) (by rw[w.met];exact w.nodup) (.inr ⟨w.deep,by rw[w.len];omega⟩) (fun h1=>by have:=w.deep;omega) h;obtain rfl:d'=d:=h2 (by have:=w.deep;omega);refine⟨d',hdd,K.deep,fun j kid' hj=>?_,?_,?_,?_,fun m=>?_⟩
   ·cases j with
    |zero=>simp at hj;subst hj;exact w.good
    |succ j=>
     have:=K.good j kid' (by simpa using hj)
     rwa [show k+1+j=k+(j+1) by omega] at this
   ·rw[K.met,w.met,List.flatMap_cons,List.append_assoc]
   ·have:=K.nodup
    rw[w.met] at this;rw[List.flatMap_cons,←List.append_assoc];exact this
   ·rw[K.len,w.len];omega
   ·rw[K.rows,w.rows]
    by_cases hm:lev≤m
    ·rw[if_pos hm,if_pos hm,if_pos hm,List.append_assoc,show kid::r=[kid]++r from rfl,Bh]
    ·rw[if_neg hm,if_neg hm,if_neg hm,List.append_assoc];rfl
theorem Ln {d:Nat}(hrec: ∀i low high st,lev≤st.rows.length→CU ps d i low high→(st.met++pre ps d i).Nodup→0≤(rec i low high lev st).1)
  (hs: ∀i low high st,lev≤st.rows.length→st.met.Nodup→0≤(rec i low high lev st).1→ ∃d,WalkOK ps d i lev low high st (rec i low high lev st))
  (hu: ∀i low high low' high' d',CU ps d i low high→CU ps d' i low' high'→d'=d):
  ∀(l:List Nat)(k:Nat)(deep:Int)(st:WS),lev≤st.rows.length→(deep= -2∨deep=((lev+d:Nat):Int))→(deep= -2→l≠[])→(st.met++l.flatMap (pre ps d)).Nodup→
   (∀(j kid:Nat),l[j]?=some kid→CU ps d kid (Eg p (k+j) low) (Db p (k+j) high))→0≤(DG rec p low high lev k deep st l).1
 | [],k,deep,st,hr,hd,he,hn,hg=>by
   rcases hd with hd |hd
   ·exact absurd rfl (he hd)
   ·simp only[DG,hd];omega
 |kid::r,k,deep,st,hr,hd,he,hn,hg=>by
  rw[DG];rw[List.flatMap_cons,←List.append_assoc] at hn;have hn1:=(List.nodup_append.1 hn).1;have h1:=hrec kid (Eg p k low) (Db p k high) st hr (hg 0 kid rfl) hn1;obtain⟨d',w⟩:=hs kid (Eg p k low) (Db p k high) st hr (List.nodup_append.1 hn1).1 h1;obtain rfl:d'=d:=hu _ _ _ _ _ _ (hg 0 kid rfl) w.good;generalize rec kid (Eg p k low) (Db p k high) lev st=x at h1 w ⊢;have hx:=w.deep;rw[if_neg (by omega)];refine Ln hrec hs hu r (k+1) x.1 x.2 (by rw[w.len];omega) (.inr hx) (fun h=>by omega) (by rw[w.met];exact hn) fun j kid' hj=>?_;have:=hg (j+1) kid' (by simpa using hj)
  rwa [show k+(j+1)=k+1+j by omega] at this
end
theorem Bo {ps:List PG}(hk: ∀i,(pg ps i).leaf=false→AI ps i≠[]): ∀(d i:Nat)(low high low' high':Ky)(d':Nat),CU ps d i low high→CU ps d' i low' high'→d'=d
 |0,i,low,high,low',high',0,_,_=>rfl
 |0,i,low,high,low',high',d'+1,h,h'=>by have:=h.1;rw[h'.1] at this;cases this
 |d+1,i,low,high,low',high',0,h,h'=>by have:=h.1;rw[h'.1] at this;cases this
 |d+1,i,low,high,low',high',d'+1,h,h'=>by
  obtain⟨x,r,hx⟩: ∃x r,AI ps i=x::r:=by
   have:=hk i h.1
   cases hc:AI ps i with
   |nil=>exact absurd hc this
   |cons x r=>exact⟨x,r,rfl⟩
  have h0:(AI ps i)[0]?=some x:=by rw[hx];rfl
  rw[Bo hk d x _ _ _ _ d' (h.2.2.2 0 x h0) (h'.2.2.2 0 x h0)]
theorem Dl {ps:List PG}(hk: ∀i,(pg ps i).leaf=false→AI ps i≠[]): ∀(f i:Nat)(low high:Ky)(level:Nat)(st:WS),level≤st.rows.length→st.met.Nodup→0≤(CC ps f i low high level st).1→ ∃d,WalkOK ps d i level low high st (CC ps f i low high level st)
 |0,i,low,high,level,st,hr,hn,h=>by simp[CC] at h
 |f+1,i,low,high,level,st,hr,hn,h=>by
  rw[CC] at h ⊢
  by_cases h1:i ∈ st.met
  ·rw[if_pos h1] at h;simp at h
  rw[if_neg h1] at h ⊢
  by_cases h2:(pg ps i).high≠high∨B5 (pg ps i) low=false
  ·rw[if_pos h2] at h;simp at h
  rw[if_neg h2] at h ⊢
  have h2a:(pg ps i).high=high:=by
   by_cases hx:(pg ps i).high=high
   ·exact hx
   ·exact absurd (.inl hx) h2
  have h2b:B5 (pg ps i) low=true:=by
   cases hx:B5 (pg ps i) low
   ·exact absurd (.inr hx) h2
   ·rfl
  have hn1:(st.met++[i]).Nodup:=List.nodup_append.2 ⟨hn,by simp,fun a ha b hb=>by simp at hb;subst hb;rintro rfl;exact h1 ha⟩
  by_cases h3:(pg ps i).leaf=true
  ·rw[if_pos h3]
   refine⟨0,rfl,⟨h3,h2a,h2b⟩,rfl,hn1,?_,fun m=>?_⟩
   ·exact Gt _ _ _ hr
   ·show(BE st.rows level i).getD m []=_
    rw[L8 _ _ _ hr]
    congr 1
    by_cases hm:m=level
    ·subst hm;simp[CB]
    ·rw[if_neg hm]
     by_cases hle:level≤m
     ·obtain⟨j,hj⟩: ∃j,m - level=j+1:=⟨m - level - 1,by omega⟩
      rw[if_pos hle,hj,D_,Dj h3,Da]
     ·rw[if_neg hle]
  ·rw[if_neg h3] at h ⊢
   have h3':(pg ps i).leaf=false:=by simpa using h3
   have hlen:=Gt st.rows level i hr;obtain⟨d,_,K⟩:=KN (ps:=ps) (rec:=CC ps f) (p:=pg ps i) (low:=low) (high:=high) (lev:=level+1) (fun i low high st hr hn h=>Dl hk f i low high (level+1) st hr hn h) (AI ps i) 0 0 (-2) ⟨st.met++[i],BE st.rows level i⟩ (by simp only[hlen];omega) hn1 (.inl rfl) (fun _=>hk i h3') h;refine⟨d+1,?_,⟨h3',h2a,h2b,fun k kid hkk=>?_⟩,?_,?_,?_,fun m=>?_⟩
   ·rw[K.deep];omega
   ·have:=K.good k kid hkk
    rwa [Nat.zero_add] at this
   ·rw[K.met,pre,List.append_assoc];rfl
   ·have:=K.nodup
    rw[pre];simpa using this
   ·rw[K.len,hlen];omega
   ·rw[K.rows,L8 _ _ _ hr,List.append_assoc]
    congr 1
    by_cases hm:m=level
    ·subst hm;rw[if_pos rfl,if_neg (by omega),if_pos (Nat.le_refl _),Nat.sub_self];rfl
    ·rw[if_neg hm]
     by_cases hle:level≤m
     ·obtain⟨j,hj⟩: ∃j,m - level=j+1:=⟨m - level - 1,by omega⟩
      rw[if_pos hle,if_pos (by omega),hj,D_,show m - (level+1)=j by omega];rfl
     ·rw[if_neg hle,if_neg (by omega)];rfl
theorem LS {ps:List PG}(hk: ∀i,(pg ps i).leaf=false→AI ps i≠[]): ∀(f d i:Nat)(low high:Ky)(level:Nat)(st:WS),level≤st.rows.length→d<f→CU ps d i low high→(st.met++pre ps d i).Nodup→0≤(CC ps f i low high level st).1
 |0,d,i,low,high,level,st,hr,hf,hg,hn=>by omega
 |f+1,0,i,low,high,level,st,hr,hf,hg,hn=>by
  rw[CC];have h1:i ∉ st.met:=fun h=>(List.nodup_append.1 hn).2.2 i h i (by simp[pre]) rfl;rw[if_neg h1,if_neg (by rw[hg.2.1,hg.2.2];simp),if_pos hg.1];exact Int.natCast_nonneg _
 |f+1,d+1,i,low,high,level,st,hr,hf,hg,hn=>by
  rw[CC];have h1:i ∉ st.met:=fun h=>(List.nodup_append.1 hn).2.2 i h i (by simp[pre]) rfl;rw[if_neg h1,if_neg (by rw[hg.2.1,hg.2.2.1];simp),if_neg (by rw[hg.1];simp)];have hlen:=Gt st.rows level i hr;refine Ln (d:=d) (fun i low high st hr hg hn=>LS hk f d i low high (level+1) st hr (by omega) hg hn) (fun i low high st hr hn h=>Dl hk f i low high (level+1) st hr hn h) (fun i a b a' b' d' h h'=>Bo hk d i a b a' b' d' h h') (AI ps i) 0 (-2) _ (by simp only[hlen];omega) (.inl rfl) (fun _=>hk i hg.1) ?_ fun j kid hj=>?_
  ·simpa[pre] using hn
  ·rw[Nat.zero_add];exact hg.2.2.2 j kid hj
theorem H8 {ps:List PG}(hk: ∀i,(pg ps i).leaf=false→AI ps i≠[]): ∀(d i:Nat)(low high:Ky),CU ps d i low high→d<(pre ps d i).length
 |0,i,low,high,h=>by simp[pre]
 |d+1,i,low,high,h=>by
  obtain⟨x,r,hx⟩: ∃x r,AI ps i=x::r:=by
   have:=hk i h.1
   cases hc:AI ps i with
   |nil=>exact absurd hc this
   |cons x r=>exact⟨x,r,rfl⟩
  have h0:(AI ps i)[0]?=some x:=by rw[hx];rfl
  have:=H8 hk d x _ _ (h.2.2.2 0 x h0);simp only[pre,hx,List.flatMap_cons,List.length_cons,List.length_append];omega
end Go.AM
namespace Go.AM
def DA (l:List Nat)(k:Nat):Int:=match l[k+1]? with
 |some j=>(j:Int)
 |none=> -1
def Hh (ps:List PG)(l:List Nat):Prop:= ∀(k i:Nat),l[k]?=some i→(pg ps i).next=DA l k
abbrev Pg:=Nat×Ky×Ky
def B0 (ps:List PG)(x:Pg):List Pg:=(AI ps x.1).mapIdx fun k kid=>(kid,Eg (pg ps x.1) k x.2.1,Db (pg ps x.1) k x.2.2)
def BW (L:List Pg):List Nat:=L.map (·.1)
theorem D3 (ps:List PG): ∀(L:List Pg),BW (L.flatMap (B0 ps))=(BW L).flatMap (AI ps)
 | []=>rfl
 |x::r=>by
  have ih:=D3 ps r;simp only[BW,List.flatMap_cons,List.map_append,List.map_cons] at ih ⊢;rw[ih]
  congr 1
  apply List.ext_getElem?;intro k;simp only[B0,List.getElem?_map,List.getElem?_mapIdx]
  cases (AI ps x.1)[k]?<;>rfl
def NN (ps:List PG)(L:List Pg)(k:Nat)(x:Pg):Prop:=(pg ps x.1).next=DA (BW L) k∧(pg ps x.1).high=x.2.2∧(pg ps x.1).leaf=(pg ps ((BW L).getD 0 0)).leaf∧B5 (pg ps x.1) x.2.1=true
def QM (ps:List PG)(L:List Pg):Prop:= ∀(k:Nat)(x:Pg),L[k]?=some x→NN ps L k x
open Classical in
noncomputable def Hk (ps:List PG)(n:Nat):Nat→List Pg→Nat→Bool
 |0,_,_=>false
 |f+1,L,met=>if L=[] then decide (met=n) else if met+L.length>n then false else if QM ps L then Hk ps n f (L.flatMap (B0 ps)) (met+L.length) else false
def Gq (ps:List PG):Nat→List Nat→List Nat
 |0,l=>l
 |d+1,l=>l++Gq ps d (l.flatMap (AI ps))
theorem Ku (ps:List PG): ∀(d:Nat)(l:List Nat),(Gq ps d l).flatMap (AI ps)=Gq ps d (l.flatMap (AI ps))
 |0,_=>rfl
 |d+1,l=>by rw[Gq,List.flatMap_append,Ku ps d,Gq]
theorem OE (ps:List PG): ∀(d:Nat)(l:List Nat),Gq ps (d+1) l=Gq ps d l++CB ps (d+1) l
 |0,_=>rfl
 |d+1,l=>by
  rw[Gq,OE ps d,←List.append_assoc];rfl
theorem QI (ps:List PG): ∀(d:Nat)(l:List Nat),(l.flatMap (pre ps d)).Perm (Gq ps d l)
 |0,l=>by
  have:l.flatMap (pre ps 0)=l:=by
   induction l with
   |nil=>rfl
   |cons x r ih=>rw[List.flatMap_cons,ih];rfl
  rw[this];exact .refl _
 |d+1,l=>by
  have h1:(l.flatMap (pre ps (d+1))).Perm (l++(l.flatMap (AI ps)).flatMap (pre ps d)):=by
   induction l with
   |nil=>exact .refl _
   |cons x r ih=>
    rw[List.perm_iff_count] at ih ⊢;intro a;have:=ih a;simp only[List.flatMap_cons,pre,List.count_append,List.count_cons,List.flatMap_append,List.cons_append] at this ⊢;omega
  exact h1.trans ((List.Perm.refl l).append (QI ps d _))
theorem Mt {ps:List PG}{n:Nat}(hin: ∀i x,x ∈ AI ps i→x<n): ∀(d:Nat)(l:List Nat),(∀x ∈ l,x<n)→ ∀x ∈ Gq ps d l,x<n
 |0,l,hl,x,hx=>hl x hx
 |d+1,l,hl,x,hx=>by
  rcases List.mem_append.1 hx with h |h
  ·exact hl x h
  ·refine Mt hin d _ (fun y hy=>?_) x h
   obtain⟨z,_,hz⟩:=List.mem_flatMap.1 hy;exact hin z y hz
theorem M4 {ps:List PG}{n:Nat}(hk: ∀i,(pg ps i).leaf=false→AI ps i≠[]): ∀(f:Nat)(L:List Pg)(met:Nat),L≠[]→Hk ps n f L met=true→
  ∃d,(∀x ∈ L,CU ps d x.1 x.2.1 x.2.2)∧(∀j,j≤d→Hh ps (CB ps j (BW L)))∧met+(Gq ps d (BW L)).length=n
 |0,L,met,hL,h=>by simp[Hk] at h
 |f+1,L,met,hL,h=>by
  rw[Hk,if_neg hL] at h
  by_cases h1:met+L.length>n
  ·rw[if_pos h1] at h;cases h
  rw[if_neg h1] at h
  by_cases h2:QM ps L
  rotate_left
  ·rw[if_neg h2] at h;cases h
  rw[if_pos h2] at h
  have hch:Hh ps (BW L):=fun k i hi=>by
   rw[BW,List.getElem?_map,Option.map_eq_some_iff] at hi;obtain⟨x,hx,rfl⟩:=hi;exact(h2 k x hx).1
  have hrow: ∀x ∈ L,(pg ps x.1).high=x.2.2∧(pg ps x.1).leaf=(pg ps ((BW L).getD 0 0)).leaf∧B5 (pg ps x.1) x.2.1=true:=fun x hx=>by
   obtain⟨k,hk⟩:=List.mem_iff_getElem?.1 hx;exact(h2 k x hk).2
  have hln:(BW L).length=L.length:=by simp[BW]
  cases hl:(pg ps ((BW L).getD 0 0)).leaf
  ·have hne:L.flatMap (B0 ps)≠[]:=fun he=>by
    cases L with
    |nil=>exact hL rfl
    |cons x r=>
     have h3:=D3 ps (x::r);rw[he] at h3
     have h4:AI ps x.1=[]:=by
      simp only[BW,List.map_cons,List.flatMap_cons,List.map_nil] at h3;exact(List.append_eq_nil_iff.1 h3.symm).1
     exact hk x.1 (by rw[(hrow x (by simp)).2.1,hl]) h4
   obtain⟨d,g,c,s⟩:=M4 hk f _ _ hne h;refine⟨d+1,fun x hx=>⟨by rw[(hrow x hx).2.1,hl],(hrow x hx).1,(hrow x hx).2.2,fun k kid hkk=>?_⟩,fun j hj=>?_,?_⟩
   ·refine g (kid,Eg (pg ps x.1) k x.2.1,Db (pg ps x.1) k x.2.2) (List.mem_flatMap.2 ⟨x,hx,List.mem_iff_getElem?.2 ⟨k,?_⟩⟩)
    rw[B0,List.getElem?_mapIdx,hkk];rfl
   ·cases j with
    |zero=>exact hch
    |succ j=>
     have:=c j (by omega);rw[D3] at this;exact this
   ·rw[D3] at s
    rw[Gq,List.length_append,hln];omega
  ·have he:L.flatMap (B0 ps)=[]:=by
    refine List.flatMap_eq_nil_iff.2 fun x hx=>?_;rw[B0,Dj (by rw[(hrow x hx).2.1,hl])];rfl
   refine⟨0,fun x hx=>⟨by rw[(hrow x hx).2.1,hl],(hrow x hx).1,(hrow x hx).2.2⟩,fun j hj=>?_,?_⟩
   ·obtain rfl:j=0:=by omega
    exact hch
   ·rw[he] at h
    cases f with
    |zero=>simp[Hk] at h
    |succ f=>
     rw[Hk,if_pos rfl] at h;rw[Gq,hln];exact of_decide_eq_true h
theorem Nj {ps:List PG}{d i:Nat}{low high:Ky}(h:CU ps d i low high):(pg ps i).high=high∧B5 (pg ps i) low=true∧(pg ps i).leaf=decide (d=0):=by
 cases d with
 |zero=>exact⟨h.2.1,h.2.2,by simp[h.1]⟩
 |succ d=>exact⟨h.2.1,h.2.2.1,by simp[h.1]⟩
theorem OH {ps:List PG}{n:Nat}(hk: ∀i,(pg ps i).leaf=false→AI ps i≠[]): ∀(f d:Nat)(L:List Pg)(met:Nat),L≠[]→d+1<f→(∀x ∈ L,CU ps d x.1 x.2.1 x.2.2)→(∀j,j≤d→Hh ps (CB ps j (BW L)))→met+(Gq ps d (BW L)).length=n→Hk ps n f L met=true
 |0,d,L,met,hL,hf,g,c,s=>by omega
 |f+1,d,L,met,hL,hf,g,c,s=>by
  have hln:(BW L).length=L.length:=by simp[BW]
  have hall:QM ps L:=fun k x hx=>by
   have hg:=Nj (g x (List.mem_of_getElem? hx));refine⟨c 0 (Nat.zero_le _) k x.1 (by rw[CB,BW,List.getElem?_map,hx];rfl),hg.1,?_,hg.2.1⟩
   cases L with
   |nil=>exact absurd rfl hL
   |cons y r=>rw[hg.2.2,show(BW (y::r)).getD 0 0=y.1 from rfl,(Nj (g y (by simp))).2.2]
  rw[Hk,if_neg hL]
  cases d with
  |zero=>
   rw[Gq,hln] at s
   have he:L.flatMap (B0 ps)=[]:=by
    refine List.flatMap_eq_nil_iff.2 fun x hx=>?_;rw[B0,Dj (g x hx).1];rfl
   rw[if_neg (by omega),if_pos hall,he]
   cases f with
   |zero=>omega
   |succ f=>rw[Hk,if_pos rfl];exact decide_eq_true s
  |succ d=>
   rw[Gq,List.length_append,hln,←D3] at s;rw[if_neg (by omega),if_pos hall]
   have hne:L.flatMap (B0 ps)≠[]:=fun he=>by
    cases L with
    |nil=>exact hL rfl
    |cons x r=>
     have h3:=D3 ps (x::r);rw[he] at h3
     have h4:AI ps x.1=[]:=by
      simp only[BW,List.map_cons,List.flatMap_cons,List.map_nil] at h3;exact(List.append_eq_nil_iff.1 h3.symm).1
     exact hk x.1 (g x (by simp)).1 h4
   refine OH hk f d _ _ hne (by omega) (fun y hy=>?_) (fun j hj=>?_) (by omega)
   ·obtain⟨x,hx,hy⟩:=List.mem_flatMap.1 hy
    obtain⟨k,hkk⟩:=List.mem_iff_getElem?.1 hy;rw[B0,List.getElem?_mapIdx,Option.map_eq_some_iff] at hkk;obtain⟨kid,hkid,rfl⟩:=hkk;exact(g x hx).2.2.2 k kid hkid
   ·rw[D3]
    exact c (j+1) (by omega)
def JF (ps:List PG)(n:Nat):List Nat:=(List.range n).flatMap (AI ps)
theorem ME {g:Nat→Nat}: ∀ {l m:List Nat},l.Nodup→(∀x ∈ l,x ∈ m)→(l.map g).sum≤(m.map g).sum
 | [],m,_,_=>by simp
 |x::r,m,hn,hs=>by
  rw[List.nodup_cons] at hn;have hx:=hs x (by simp);have ih:=ME (g:=g) (l:=r) (m:=m.erase x) hn.2 (fun y hy=>(List.mem_erase_of_ne (by rintro rfl;exact hn.1 hy)).2 (hs y (by simp[hy])));have hp:(m.map g).sum=((x::m.erase x).map g).sum:=(List.Perm.map g (List.perm_cons_erase hx)).sum_nat;rw[hp];simp only[List.map_cons,List.sum_cons];omega
theorem F5 (a:Nat)(f:Nat→List Nat)(l:List Nat):List.count a (l.flatMap f)=(l.map fun y=>List.count a (f y)).sum:=by
 rw[List.count_flatMap];rfl
theorem HA {ps:List PG}{n root:Nat}(hin: ∀i x,x ∈ AI ps i→x<n)(hr:root<n)(h:(root::JF ps n).Nodup): ∀d,(Gq ps d [root]).Nodup
 |0=>by simp[Gq]
 |d+1=>by
  have ih:=HA hin hr h d;rw[List.nodup_iff_count] at h ⊢;intro a;have h1:=h a;rw[Gq,←Ku,List.cons_append,List.nil_append];rw[JF,List.count_cons,F5] at h1;rw[List.count_cons,F5];have:=ME (g:=fun y=>List.count a (AI ps y)) ih (m:=List.range n) (fun x hx=>List.mem_range.2 (Mt hin d [root] (by simp[hr]) x hx));omega
theorem Lh: ∀ {l m:List Nat},l.Nodup→(∀x ∈ l,x ∈ m)→l.length≤m.length:=by
 intro l
 induction l with
 |nil=>intro m _ _;exact Nat.zero_le _
 |cons x r ih=>
  intro m hn hs;rw[List.nodup_cons] at hn;have hx:=hs x (by simp);have:=ih (m:=m.erase x) hn.2 (fun y hy=>(List.mem_erase_of_ne (by rintro rfl;exact hn.1 hy)).2 (hs y (by simp[hy])));rw[List.length_erase_of_mem hx] at this;have:0<m.length:=List.length_pos_of_mem hx;simp only[List.length_cons];omega
theorem Oq {l:List Nat}{n:Nat}(hn:l.Nodup)(hl:l.length=n)(hm: ∀x ∈ l,x<n): ∀x,x<n→x ∈ l:=by
 intro x hx
 by_cases h:x ∈ l
 ·exact h
 have h1:=Lh (l:=x::l) (m:=List.range n) (List.nodup_cons.2 ⟨h,hn⟩) (fun y hy=>by
  rcases List.mem_cons.1 hy with rfl |hy
  ·exact List.mem_range.2 hx
  ·exact List.mem_range.2 (hm y hy))
 simp at h1;omega
theorem ML {ps:List PG}{n root d:Nat}(hin: ∀i x,x ∈ AI ps i→x<n)(hr:root<n)(he:CB ps (d+1) [root]=[])(h:(Gq ps d [root]).Nodup)(hl:(Gq ps d [root]).length=n):(root::JF ps n).Nodup:=by
 have hf:=Oq h hl (Mt hin d [root] (by simp[hr]))
 have hc:Gq ps d [root]=root::(Gq ps d [root]).flatMap (AI ps):=by
  have h1:=OE ps d [root];rw[he,List.append_nil] at h1;rw[Ku];rw[←h1];rfl
 rw[List.nodup_iff_count] at h ⊢;intro a;have h1:=h a;rw[hc,List.count_cons,F5] at h1;rw[JF,List.count_cons,F5];have:=ME (g:=fun y=>List.count a (AI ps y)) (l:=List.range n) (m:=Gq ps d [root]) List.nodup_range (fun x hx=>hf x (List.mem_range.1 hx));omega
structure TreeOK (ps:List PG)(root d:Nat):Prop where
 good:CU ps d root [] []
 chains: ∀j,j≤d→Hh ps (CB ps j [root])
 once:(Gq ps d [root]).Nodup
 all:(Gq ps d [root]).length=ps.length
end Go.AM
namespace Go.AM
open Go Go.RowKit
attribute [local irreducible] AWP Aw
def Aj (k:Ky):List AV:=[.ro true 1 (k.map AC)]
@[simp] theorem Tf (a:Ky):(∀x,x ∈ Aj a→PT x)=True:=eq_true (by intro x hx;simp[Aj] at hx;subst hx;simp)
instance:PTf Aj:=⟨fun a=>of_eq_true (Tf a)⟩
def eP (p:PG):List AV:=[.r (.bool p.leaf),.ro true 1 (p.keys.map Aj),.ro true 1 (p.kids.map eI),.ro true 1 (p.high.map AC),.r (.int .i64 p.next)]
@[simp] theorem VQ (a:PG):(∀x,x ∈ eP a→PT x)=True:=eq_true (by intro x hx;simp[eP] at hx;rcases hx with rfl |rfl |rfl |rfl |rfl<;>simp)
instance:PTf eP:=⟨fun a=>of_eq_true (VQ a)⟩
def DM (k:Ky):Bool:=decide (0<(k.length:Int))&&decide ((k.length:Int)≤100)
theorem Hl (G:List (Nat×List Value))(t u:Bool)(l m:Ky):Con prog G 149 [.ro t 1 (l.map AC),.ro u 1 (m.map AC)] [] 0 (Is (.r (.bool (l==m))) [] 0) No:=by
 refine AA func149 rfl (by kernel_rfl) (of_decide_eq_true (by kernel_rfl)) ?_;intro E hG hE;subst hG;simp only[B9];(repeat' (first |refine A0 ?_ |((refine rR (fun K kp hK hkp=>?_));simp(implicitDefEqProofs:=false) (maxSteps:=2000000) (disch:=omega) only[go_sem,Gz];(repeat' (refine hK _ ?_;clear hK hkp kp K))) |refine A8 ?_));(refine A7 (by(simp(implicitDefEqProofs:=false) (maxSteps:=2000000) (disch:=omega) only[go_sem,results149]);rfl) ?_;refine eN hE ?_;simp[AG,ren,renL])
theorem ED (G:List (Nat×List Value))(t u:Bool)(l m:Ky):Con prog G 93 [.ro t 1 (l.map AC),.ro u 1 (m.map AC)] [] 0 (Is (.r (.bool (l==m))) [] 0) No:=by
 refine AA func93 rfl (by kernel_rfl) (of_decide_eq_true (by kernel_rfl)) ?_;intro E hG hE;subst hG;simp only[B9];(repeat' (first |refine A0 ?_ |((refine rR (fun K kp hK hkp=>?_));simp(implicitDefEqProofs:=false) (maxSteps:=2000000) (disch:=omega) only[go_sem,Gz];(repeat' (refine hK _ ?_;clear hK hkp kp K))) |refine A8 ?_));(refine A7 (by(simp(implicitDefEqProofs:=false) (maxSteps:=2000000) (disch:=omega) only[go_sem,results93]);rfl) ?_;refine eN hE ?_;simp[AG,ren,renL])
theorem Fw (G:List (Nat×List Value))(n a b:Int):Con prog G 49 [.r (.int .i64 n),.r (.int .i64 a),.r (.int .i64 b)] [] 0 (Is (.r (.bool (decide (a≤n)&&decide (n≤b)))) [] 0) No:=by
 refine AA func49 rfl (by kernel_rfl) (of_decide_eq_true (by kernel_rfl)) ?_;intro E hG hE;subst hG;simp only[B9]
 by_cases h1:a≤n
 ·have h1':(n≥a)=True:=eq_true h1
  (repeat' (first |refine A0 ?_ |((refine rR (fun K kp hK hkp=>?_));simp(implicitDefEqProofs:=false) (maxSteps:=2000000) (disch:=omega) only[go_sem,h1'];(repeat' (refine hK _ ?_;clear hK hkp kp K))) |refine A8 ?_));(refine A7 (by(simp(implicitDefEqProofs:=false) (maxSteps:=2000000) (disch:=omega) only[go_sem,results49,h1]);rfl) ?_;refine eN hE ?_;simp[AG,ren,renL,h1])
 ·have h1':(n≥a)=False:=eq_false h1
  (repeat' (first |refine A0 ?_ |((refine rR (fun K kp hK hkp=>?_));simp(implicitDefEqProofs:=false) (maxSteps:=2000000) (disch:=omega) only[go_sem,h1'];(repeat' (refine hK _ ?_;clear hK hkp kp K))) |refine A8 ?_));(refine A7 (by(simp(implicitDefEqProofs:=false) (maxSteps:=2000000) (disch:=omega) only[go_sem,results49,h1]);rfl) ?_;refine eN hE ?_;simp[AG,ren,renL,h1])
theorem JW (G:List (Nat×List Value))(t:Bool)(l:Ky):Con prog G 148 [.ro t 1 (l.map AC)] [] 0 (Is (.r (.bool (DM l))) [] 0) No:=by
 refine AA func148 rfl (by kernel_rfl) (of_decide_eq_true (by kernel_rfl)) ?_;intro E hG hE;subst hG;simp only[B9]
 by_cases h1:0<(l.length:Int)
 ·have h1':((l.length:Int)>0)=True:=eq_true h1
  (repeat' (first |refine A0 ?_ |((refine rR (fun K kp hK hkp=>?_));simp(implicitDefEqProofs:=false) (maxSteps:=2000000) (disch:=omega) only[go_sem,h1'];(repeat' (refine hK _ ?_;clear hK hkp kp K))) |refine A8 ?_));(refine A7 (by(simp(implicitDefEqProofs:=false) (maxSteps:=2000000) (disch:=omega) only[go_sem,results148,DM,h1]);rfl) ?_;refine eN hE ?_;simp[AG,ren,renL,DM,h1]);intro;omega
 ·have h1':((l.length:Int)>0)=False:=eq_false h1
  (repeat' (first |refine A0 ?_ |((refine rR (fun K kp hK hkp=>?_));simp(implicitDefEqProofs:=false) (maxSteps:=2000000) (disch:=omega) only[go_sem,h1'];(repeat' (refine hK _ ?_;clear hK hkp kp K))) |refine A8 ?_));(refine A7 (by(simp(implicitDefEqProofs:=false) (maxSteps:=2000000) (disch:=omega) only[go_sem,results148,DM,h1]);rfl) ?_;refine eN hE ?_;simp[AG,ren,renL,DM,h1]);intro;omega
theorem Ey (G:List (Nat×List Value))(t:Bool)(l:Ky):Con prog G 158 [.ro t 1 (l.map AC)] [] 0 (Is (.r (.bool (DM l))) [] 0) No:=by
 have ic:=Fw G l.length 1 100;simp only[show(1≤(l.length:Int))=(0<(l.length:Int)) from propext (by omega)] at ic;refine AA func158 rfl (by kernel_rfl) (of_decide_eq_true (by kernel_rfl)) ?_;intro E hG hE;subst hG;simp only[B9];(repeat' (first |refine A0 ?_ |((first |refine rR (fun K kp hK hkp=>?_) |refine cR ic ?_);simp(implicitDefEqProofs:=false) (maxSteps:=2000000) (disch:=omega) only[go_sem,DM];(repeat' (refine hK _ ?_;clear hK hkp kp K))) |refine A8 ?_));(refine A7 (by(simp(implicitDefEqProofs:=false) (maxSteps:=2000000) (disch:=omega) only[go_sem,results158,DM]);rfl) ?_;refine eN hE ?_;simp[AG,ren,renL,DM])
structure HeadOK (p:PG)(many:Nat):Prop where
 nk:p.keys.length≤4
 nh:p.high.length≤100
 n0: -1≤p.next
 n1:p.next<many
 nb:p.next<0↔p.high.length=0
 kl:p.leaf=true→p.kids.length=p.keys.length
 ki:p.leaf=false→p.kids.length=p.keys.length+1
 ne:p.leaf=false→p.keys.length≠0
def FU (p:PG)(i:Nat):Prop:=DM (p.keys.getD i [])=true∧(0<i→B4 (p.keys.getD (i - 1) []) (p.keys.getD i [])=true)∧(0<p.high.length→B4 (p.keys.getD i []) p.high=true)
def NQ (p:PG)(many:Nat)(n:Int):Prop:=0≤n∧(p.leaf=false→n<many)
structure PageOK (p:PG)(many:Nat):Prop extends HeadOK p many where
 ks: ∀i,i<p.keys.length→FU p i
 kd: ∀i,i<p.kids.length→NQ p many (p.kids.getD i 0)
noncomputable def TO (p:PG)(many:Nat):Bool:= @decide (PageOK p many) (Classical.propDecidable _)
theorem Ld {p:PG}{many:Nat}(h:PageOK p many):TO p many=true:=by unfold TO;exact @decide_eq_true _ (Classical.propDecidable _) h
theorem GF {p:PG}{many:Nat}(h: ¬PageOK p many):TO p many=false:=by unfold TO;exact @decide_eq_false _ (Classical.propDecidable _) h
theorem Uf {n:Int}{l:Nat}(h:(!(decide (n<0)==((l:Int)==0)))=false):n<0↔l=0:=by
 simp at h
 constructor
 ·intro h1
  have:=h.trans rfl;simp[h1] at h;omega
 ·intro h1
  subst h1;simpa using h
set_option maxHeartbeats 4000000 in
theorem Qm (G:List (Nat×List Value))(p:PG)(many:Nat)(H: ¬HeadOK p many)(hb:p.keys.length≤1048576):Con prog G 140 [.agg (eP p),.r (.int .i64 many)] [] 0 (Is (.r (.bool (TO p many))) [] 0) No:=by
 rw[GF fun x=>H x.1];refine AA func140 rfl (by kernel_rfl) (of_decide_eq_true (by kernel_rfl)) ?_;intro E hG hE;subst hG;simp only[B9];cases hl:p.leaf
 ·(repeat' (first |refine A0 ?_ |refine A5 ?_ |refine A6 ?_ |((first |refine rR (fun K kp hK hkp=>?_) |refine iG ?_);simp(implicitDefEqProofs:=false) (maxSteps:=2000000) (disch:=omega) only[go_sem,eP,hl];(repeat' (refine hK _ ?_;clear hK hkp kp K))) |((refine aG (fun h=>?_) (fun h=>?_))<;>simp only[h]) |refine A3 rfl ?_ |((refine AD rfl (fun h=>?_) (fun h=>?_)<;>try simp only[BQ] at h)<;>(try (exfalso;omega))) |refine A8 ?_))
  all_goals first
   |(refine A7 (by(simp(implicitDefEqProofs:=false) (maxSteps:=2000000) (disch:=omega) only[go_sem,results140]);rfl) ?_;refine eN hE ?_;simp[AG,ren,renL])
   |skip
  all_goals (exfalso;rename_i h1 h2 h3 h4 h5 h6;apply H;simp only[decide_eq_false_iff_not,bne_eq_false_iff_eq] at *)
  all_goals exact⟨by omega,by omega,by omega,by omega,Uf (by assumption),fun h=>(by rw[hl] at h;cases h),fun _=>by omega,fun _=>by omega⟩
 ·(repeat' (first |refine A0 ?_ |refine A5 ?_ |refine A6 ?_ |((first |refine rR (fun K kp hK hkp=>?_) |refine iG ?_);simp(implicitDefEqProofs:=false) (maxSteps:=2000000) (disch:=omega) only[go_sem,eP,hl];(repeat' (refine hK _ ?_;clear hK hkp kp K))) |((refine aG (fun h=>?_) (fun h=>?_))<;>simp only[h]) |refine A3 rfl ?_ |refine A4 rfl ?_ |((refine AD rfl (fun h=>?_) (fun h=>?_)<;>try simp only[BQ] at h)<;>(try (exfalso;omega))) |refine A8 ?_))
  all_goals first
   |(refine A7 (by(simp(implicitDefEqProofs:=false) (maxSteps:=2000000) (disch:=omega) only[go_sem,results140]);rfl) ?_;refine eN hE ?_;simp[AG,ren,renL])
   |skip
  all_goals (exfalso;rename_i h1 h2 h3 h4 h5;apply H;simp only[decide_eq_false_iff_not,bne_eq_false_iff_eq] at *)
  all_goals exact⟨by omega,by omega,by omega,by omega,Uf (by assumption),fun _=>by omega,fun h=>(by rw[hl] at h;cases h),fun h=>(by rw[hl] at h;cases h)⟩
end Go.AM
namespace Go.AM
open Go
theorem Gp: ∀(a b:List UInt8),Lib.compareBytes a b=if Op.bytesLess a b=true then -1 else if Op.bytesLess b a=true then 1 else 0
 | [],[]=>by simp[Lib.compareBytes,Op.bytesLess]
 | [],_::_=>by simp[Lib.compareBytes,Op.bytesLess]
 |_::_,[]=>by simp[Lib.compareBytes,Op.bytesLess]
 |a::x,b::y=>by
  have ih:=Gp x y;simp only[Lib.compareBytes,Op.bytesLess,ih]
  by_cases h1:a<b
  ·simp[h1]
  ·by_cases h2:b<a
   ·have: ¬(a==b)=true:=by intro h;simp at h;subst h;exact h1 h2
    simp[h1,h2,this]
   ·have e:a=b:=by
     have:a.toNat=b.toNat:=by simp[UInt8.lt_iff_toNat_lt] at h1 h2;omega
     exact UInt8.toNat.inj this
    subst e;simp[h1]
theorem Ew: ∀(a:List UInt8),Op.bytesLess a a=false
 | []=>rfl
 |a::x=>by simp[Op.bytesLess,Ew x]
theorem Ir: ∀(a b:List UInt8),Op.bytesLess a b=true→Op.bytesLess b a=false
 | [],[]=>by simp[Op.bytesLess]
 | [],_::_=>by simp[Op.bytesLess]
 |_::_,[]=>by simp[Op.bytesLess]
 |a::x,b::y=>by
  have ih:=Ir x y;simp only[Op.bytesLess,Bool.or_eq_true,Bool.and_eq_true,decide_eq_true_eq,beq_iff_eq,Bool.or_eq_false_iff,Bool.and_eq_false_iff,decide_eq_false_iff_not];rintro(h |⟨rfl,h⟩)
  ·refine⟨?_,?_⟩
   ·simp[UInt8.lt_iff_toNat_lt] at h ⊢;omega
   ·left;rw[beq_eq_false_iff_ne];intro e;subst e;simp[UInt8.lt_iff_toNat_lt] at h
  ·refine⟨by simp[UInt8.lt_iff_toNat_lt],.inr (ih h)⟩
theorem FZ: ∀(a b:List UInt8),Op.bytesLess a b=false→Op.bytesLess b a=false→a=b
 | [],[]=>by simp
 | [],_::_=>by simp[Op.bytesLess]
 |_::_,[]=>by simp[Op.bytesLess]
 |a::x,b::y=>by
  have ih:=FZ x y;simp only[Op.bytesLess,Bool.or_eq_false_iff,Bool.and_eq_false_iff,decide_eq_false_iff_not,beq_eq_false_iff_ne];rintro⟨h1,h2⟩ ⟨h3,h4⟩
  have e:a=b:=by
   have:a.toNat=b.toNat:=by simp[UInt8.lt_iff_toNat_lt] at h1 h3;omega
   exact UInt8.toNat.inj this
  subst e;rw[ih (by simpa using h2) (by simpa using h4)]
theorem RJ (a b:List UInt8):Lib.compareBytes a b=0↔a=b:=by
 rw[Gp]
 constructor
 ·intro h
  split at h
  ·simp at h
  ·split at h
   ·simp at h
   ·exact FZ a b (by simpa using ‹¬ Op.bytesLess a b=true›) (by simpa using ‹¬ Op.bytesLess b a=true›)
 ·rintro rfl
  simp[Ew]
theorem Iq: ∀(a b c:List UInt8),Op.bytesLess a b=true→Op.bytesLess b c=true→Op.bytesLess a c=true
 |_,[],[],_,h=>by simp[Op.bytesLess] at h
 | [],[],_::_,h,_=>by simp[Op.bytesLess] at h
 |_::_,[],_::_,h,_=>by simp[Op.bytesLess] at h
 |_,_::_,[],_,h=>by simp[Op.bytesLess] at h
 | [],_::_,_::_,_,_=>by simp[Op.bytesLess]
 |a::x,b::y,c::z,h1,h2=>by
  have ih:=Iq x y z;simp only[Op.bytesLess,Bool.or_eq_true,Bool.and_eq_true,decide_eq_true_eq,beq_iff_eq] at h1 h2 ⊢
  rcases h1 with h1 |⟨rfl,h1⟩
  ·rcases h2 with h2 |⟨rfl,_⟩
   ·left;simp[UInt8.lt_iff_toNat_lt] at h1 h2 ⊢;omega
   ·exact .inl h1
  ·rcases h2 with h2 |⟨rfl,h2⟩
   ·exact .inl h2
   ·exact .inr ⟨rfl,ih h1 h2⟩
theorem Dz (a:Ky):B4 a a=false:=Ew a
theorem EW {a b:Ky}(h:B4 a b=true):B4 b a=false:=Ir a b h
theorem ID {a b:Ky}(h:B4 a b=false)(h2:B4 b a=false):a=b:=FZ a b h h2
theorem BU {a b c:Ky}(h:B4 a b=true)(h2:B4 b c=true):B4 a c=true:=Iq a b c h h2
theorem Cm {a b c:Ky}(h:B4 a b=true)(h2:B4 c b=false):B4 a c=true:=by
 cases h3:B4 b c
 ·rw[←ID h3 h2];exact h
 ·exact BU h h3
theorem IR (a b:Ky):Lib.compareBytes a b=if B4 a b=true then -1 else if B4 b a=true then 1 else 0:=Gp a b
theorem Mq (a b:Ky):decide (Lib.compareBytes a b≥0)= !B4 a b:=by
 rw[IR];cases B4 a b
 ·simp only[Bool.false_eq_true,↓reduceIte]
  split<;>rfl
 ·rfl
theorem QB (a b:Ky):decide (Lib.compareBytes a b>0)=B4 b a:=by
 rw[IR];cases h:B4 a b
 ·simp only[Bool.false_eq_true,↓reduceIte]
  cases B4 b a<;>rfl
 ·rw[EW h];rfl
theorem Mp (a b:Ky):decide (Lib.compareBytes a b<0)=B4 a b:=by
 rw[IR];cases B4 a b
 ·simp only[Bool.false_eq_true,↓reduceIte]
  split<;>rfl
 ·rfl
end Go.AM
namespace Go.AM
open Go Go.RowKit
attribute [local irreducible] AWP Aw
set_option maxHeartbeats 4000000 in
theorem Qn (G:List (Nat×List Value))(p:PG)(many:Nat)(H:HeadOK p many)(hb:p.kids.length≤1048576):Con prog G 140 [.agg (eP p),.r (.int .i64 many)] [] 0 (Is (.r (.bool (TO p many))) [] 0) No:=by
 have f1:((p.keys.length:Int)>4)=False:=eq_false (by have:=H.nk;omega);have f2:((p.high.length:Int)>100)=False:=eq_false (by have:=H.nh;omega);have f3:(p.next< -1)=False:=eq_false (by have:=H.n0;omega);have f4:(p.next≥(many:Int))=False:=eq_false (by have:=H.n1;omega)
 have f5:(!(decide (p.next<0)==((p.high.length:Int)==0)))=false:=by
  have:=H.nb
  by_cases h:p.next<0
  ·simp[h,this.1 h]
  ·have h2: ¬p.high.length=0:=fun x=>h (this.2 x)
   simp[h,h2]
 have hk4:=H.nk;refine AA func140 rfl (by kernel_rfl) (of_decide_eq_true (by kernel_rfl)) ?_;intro E hG hE;subst hG;simp only[B9];cases hl:p.leaf
 case' false=>
  have f6:=H.ki hl
  have f7:((p.keys.length:Int)==0)=false:=by have:=H.ne hl;simp;exact List.ne_nil_of_length_pos (by omega)
  have f8:((p.kids.length:Int) !=(p.keys.length:Int)+1)=false:=by rw[f6];simp
  (repeat' (first |refine A0 ?_ |refine A5 ?_ |refine A6 ?_ |((refine rR (fun K kp hK hkp=>?_));simp(implicitDefEqProofs:=false) (maxSteps:=2000000) (disch:=omega) only[go_sem,eP,hl,f1,f2,f3,f4,f5,f7,f8];(repeat' (refine hK _ ?_;clear hK hkp kp K))) |refine A4 rfl ?_))
 case' true=>
  have f6:=H.kl hl
  have f8:((p.kids.length:Int) !=(p.keys.length:Int))=false:=by rw[f6];simp
  (repeat' (first |refine A0 ?_ |refine A5 ?_ |refine A6 ?_ |((refine rR (fun K kp hK hkp=>?_));simp(implicitDefEqProofs:=false) (maxSteps:=2000000) (disch:=omega) only[go_sem,eP,hl,f1,f2,f3,f4,f5,f8];(repeat' (refine hK _ ?_;clear hK hkp kp K))) |refine A4 rfl ?_))
 all_goals
  refine AH (fun i:Nat=>⟨[(75,.r (.int .i64 i)),(74,.r (.int .i64 p.keys.length)),(73,.ro true 1 (p.keys.map Aj)),(2,.p 0 0 0),(1,.r (.int .i64 many))],[(0,.box 131 [.r (.bool p.leaf),.ro true 1 (p.keys.map Aj),.ro true 1 (p.kids.map eI),.ro true 1 (p.high.map AC),.r (.int .i64 p.next)])],1⟩) (fun i=>i≤p.keys.length∧ ∀j,j<i→FU p j) (fun i=>p.keys.length - i) 0 ?_ ?_ ?_
  ·exact⟨Nat.zero_le _,fun j hj=>by omega⟩
  ·(refine AE hE [0] rfl ?_ ?_<;>simp[AU,AO,lk,ren,renL,A9,AL,hl]<;>(try omega))
  intro i hi;obtain⟨hi,hdone⟩:=hi
  by_cases hlt:i<p.keys.length
  ·have zi:((i:Int)<(p.keys.length:Int))=True:=eq_true (by omega)
   obtain⟨x,hx⟩: ∃x,p.keys[i]?=some x:=⟨p.keys[i],by simp[hlt]⟩
   have hxD:p.keys.getD i []=x:=by rw[List.getD_eq_getElem?_getD,hx];rfl
   cases i with
   |zero=>
    have hok:FU p 0↔DM x=true∧(0<p.high.length→B4 x p.high=true):=by unfold FU;rw[hxD];simp
    (repeat' (first |refine A0 ?_ |refine A5 ?_ |refine A6 ?_ |((first |refine rR (fun K kp hK hkp=>?_) |refine cR (JW _ _ _) ?_ |refine cR (Ct _ _ _ _ _) ?_ |refine iG ?_);simp(implicitDefEqProofs:=false) (maxSteps:=2000000) (disch:=omega) only[go_sem,zi,hx,Aj,Mq];(repeat' (refine hK _ ?_;clear hK hkp kp K))) |((refine aG (fun h=>?_) (fun h=>?_))<;>simp only[h]) |refine A3 rfl ?_ |refine A4 rfl ?_ |((refine AD rfl (fun h=>?_) (fun h=>?_)<;>try simp only[BQ] at h)<;>(try (exfalso;omega))) |refine A8 ?_))
    all_goals first
     |(rw[GF (fun X=>absurd (hok.1 (X.ks _ hlt)) (by clear hE hdone;simp_all))];(refine A7 (by(simp(implicitDefEqProofs:=false) (maxSteps:=2000000) (disch:=omega) only[go_sem,results140]);rfl) ?_;refine eN hE ?_;simp[AG,ren,renL]))
     |(have hok':=hok.2 (by clear hE hdone;simp_all);((refine AJ (0+1) ?_ ?_ ?_);rotate_left;(·(try dsimp only);(omega));(·(refine AE hE [0] rfl ?_ ?_<;>simp[AU,AO,lk,ren,renL,A9,AL]<;>(try omega))));exact⟨by omega,fun j' hj'=>(by by_cases he:j'=0;(·rw[he];exact hok');(·exact hdone j' (by omega)))⟩)
   |succ j=>
    obtain⟨y,hy⟩: ∃y,p.keys[j]?=some y:=⟨p.keys[j],by simp[show j<p.keys.length by omega]⟩
    have hyD:p.keys.getD j []=y:=by rw[List.getD_eq_getElem?_getD,hy];rfl
    have hj1:((j+1:Nat):Int) - 1=(j:Int):=by omega
    have hok:FU p (j+1)↔DM x=true∧B4 y x=true∧(0<p.high.length→B4 x p.high=true):=by unfold FU;rw[hxD,Nat.add_sub_cancel,hyD];simp
    (repeat' (first |refine A0 ?_ |refine A5 ?_ |refine A6 ?_ |((first |refine rR (fun K kp hK hkp=>?_) |refine cR (JW _ _ _) ?_ |refine cR (Ct _ _ _ _ _) ?_ |refine iG ?_);simp(implicitDefEqProofs:=false) (maxSteps:=2000000) (disch:=omega) only[go_sem,zi,hx,hy,hj1,Aj,Mq];(repeat' (refine hK _ ?_;clear hK hkp kp K))) |((refine aG (fun h=>?_) (fun h=>?_))<;>simp only[h]) |refine A3 rfl ?_ |refine A4 rfl ?_ |((refine AD rfl (fun h=>?_) (fun h=>?_)<;>try simp only[BQ] at h)<;>(try (exfalso;omega))) |refine A8 ?_))
    all_goals first
     |(rw[GF (fun X=>absurd (hok.1 (X.ks _ hlt)) (by clear hE hdone;simp_all))];(refine A7 (by(simp(implicitDefEqProofs:=false) (maxSteps:=2000000) (disch:=omega) only[go_sem,results140]);rfl) ?_;refine eN hE ?_;simp[AG,ren,renL]))
     |(have hok':=hok.2 (by clear hE hdone;simp_all);((refine AJ (j+1+1) ?_ ?_ ?_);rotate_left;(·(try dsimp only);(omega));(·(refine AE hE [0] rfl ?_ ?_<;>simp[AU,AO,lk,ren,renL,A9,AL]<;>(try omega))));exact⟨by omega,fun j' hj'=>(by by_cases he:j'=j+1;(·rw[he];exact hok');(·exact hdone j' (by omega)))⟩)
  ·obtain rfl:i=p.keys.length:=by omega
   (repeat' (first |refine A0 ?_ |refine A5 ?_ |refine AB ?_ |((refine rR (fun K kp hK hkp=>?_));simp(implicitDefEqProofs:=false) (maxSteps:=2000000) (disch:=omega) only[go_sem];(repeat' (refine hK _ ?_;clear hK hkp kp K))) |((refine AD rfl (fun h=>?_) (fun h=>?_)<;>try simp only[BQ] at h)<;>(try (exfalso;omega)))));refine AH (fun i:Nat=>⟨[(115,.r (.int .i64 i)),(114,.r (.int .i64 p.kids.length)),(113,.ro true 1 (p.kids.map eI)),(2,.p 0 0 0),(1,.r (.int .i64 many))],[(0,.box 131 [.r (.bool p.leaf),.ro true 1 (p.keys.map Aj),.ro true 1 (p.kids.map eI),.ro true 1 (p.high.map AC),.r (.int .i64 p.next)])],1⟩) (fun i=>i≤p.kids.length∧ ∀j,j<i→NQ p many (p.kids.getD j 0)) (fun i=>p.kids.length - i) 0 ?_ ?_ ?_
   ·exact⟨Nat.zero_le _,fun j hj=>by omega⟩
   ·(refine AE hE [0] rfl ?_ ?_<;>simp[AU,AO,lk,ren,renL,A9,AL,hl]<;>(try omega))
   intro i hi;obtain⟨hi,hd2⟩:=hi
   by_cases hlt:i<p.kids.length
   ·have zi:((i:Int)<(p.kids.length:Int))=True:=eq_true (by omega)
    obtain⟨x,hx⟩: ∃x,p.kids[i]?=some x:=⟨p.kids[i],by simp[hlt]⟩
    have hok:NQ p many (p.kids.getD i 0)↔0≤x∧(p.leaf=false→x<many):=by rw[List.getD_eq_getElem?_getD,hx];rfl
    rw[hl] at hok;(repeat' (first |refine A0 ?_ |refine A5 ?_ |refine A6 ?_ |((first |refine rR (fun K kp hK hkp=>?_) |refine iG ?_);simp(implicitDefEqProofs:=false) (maxSteps:=2000000) (disch:=omega) only[go_sem,zi,hx,eI,hl];(repeat' (refine hK _ ?_;clear hK hkp kp K))) |((refine aG (fun h=>?_) (fun h=>?_))<;>simp only[h]) |refine A3 rfl ?_ |refine A4 rfl ?_ |((refine AD rfl (fun h=>?_) (fun h=>?_)<;>try simp only[BQ] at h)<;>(try (exfalso;omega))) |refine A8 ?_))
    all_goals first
     |(rw[GF (fun X=>by have Y:=hok.1 (X.kd _ hlt);clear hE hdone hd2;simp_all;try omega)];(refine A7 (by(simp(implicitDefEqProofs:=false) (maxSteps:=2000000) (disch:=omega) only[go_sem,results140]);rfl) ?_;refine eN hE ?_;simp[AG,ren,renL]))
     |(have hok':=hok.2 (by clear hE hdone hd2;constructor<;>simp_all<;>omega);((refine AJ (i+1) ?_ ?_ ?_);rotate_left;(·(try dsimp only);(omega));(·(refine AE hE [0] rfl ?_ ?_<;>simp[AU,AO,lk,ren,renL,A9,AL]<;>(try omega))));exact⟨by omega,fun j' hj'=>(by by_cases he:j'=i;(·rw[he];exact hok');(·exact hd2 j' (by omega)))⟩)
   ·obtain rfl:i=p.kids.length:=by omega
    rw[Ld ⟨H,hdone,hd2⟩];(repeat' (first |refine A0 ?_ |refine AB ?_ |((refine rR (fun K kp hK hkp=>?_));simp(implicitDefEqProofs:=false) (maxSteps:=2000000) (disch:=omega) only[go_sem];(repeat' (refine hK _ ?_;clear hK hkp kp K))) |((refine AD rfl (fun h=>?_) (fun h=>?_)<;>try simp only[BQ] at h)<;>(try (exfalso;omega))) |refine A8 ?_));(refine A7 (by(simp(implicitDefEqProofs:=false) (maxSteps:=2000000) (disch:=omega) only[go_sem,results140]);rfl) ?_;refine eN hE ?_;simp[AG,ren,renL])
end Go.AM
namespace Go.AM
open Go Go.RowKit
attribute [local irreducible] AWP Aw
structure WI (n:Nat)(st:WS):Prop where
 nd:st.met.Nodup
 lt: ∀x ∈ st.met,x<n
 rl:st.rows.length≤st.met.length
 rs: ∀r ∈ st.rows,r.length≤st.met.length
structure WL (st st':WS):Prop where
 m:st.met.length≤st'.met.length
 r:st.rows.length≤st'.rows.length
theorem WI.len {n:Nat}{st:WS}(h:WI n st):st.met.length≤n:=by
 have:=Lh h.nd (m:=List.range n) (fun x hx=>List.mem_range.2 (h.lt x hx));simpa using this
section
variable {ps:List PG} {n:Nat}
theorem Cc (rows:List (List Nat))(level i:Nat):(BE rows level i).length=if level<rows.length then rows.length else rows.length+1:=by
 unfold BE;split<;>simp
theorem WI.met1 {st:WS}{i:Nat}(h:WI n st)(hi:i<n)(hm:i ∉ st.met):WI n ⟨st.met++[i],st.rows⟩:=by
 refine⟨List.nodup_append.2 ⟨h.nd,by simp,fun a ha b hb=>by simp at hb;subst hb;rintro rfl;exact hm ha⟩,fun x hx=>?_,?_,fun r hr=>?_⟩
 ·rcases List.mem_append.1 hx with hx |hx
  ·exact h.lt x hx
  ·simp at hx;omega
 ·have:=h.rl;simp;omega
 ·have:=h.rs r hr;simp;omega
theorem WI.row1 {st:WS}{i level:Nat}(h:WI n st)(hi:i<n)(hm:i ∉ st.met):WI n ⟨st.met++[i],BE st.rows level i⟩:=by
 have h1:=h.met1 hi hm;refine⟨h1.nd,h1.lt,?_,fun r hr=>?_⟩
 ·have:=h.rl
  show(BE st.rows level i).length≤(st.met++[i]).length
  rw[Cc];simp;split<;>omega
 ·have h2:=h.rs
  show r.length≤(st.met++[i]).length;have hr':r ∈ BE st.rows level i:=hr;unfold BE at hr';simp only[List.length_append,List.length_singleton];split at hr'
  ·rename_i hl
   rcases List.mem_or_eq_of_mem_set hr' with hr' |rfl
   ·have:=h2 r hr';omega
   ·have:=h2 (st.rows.getD level []) (by rw[List.getD_eq_getElem?_getD,List.getElem?_eq_getElem hl];exact List.getElem_mem hl)
    rw[List.length_append,List.length_singleton];omega
  ·rcases List.mem_append.1 hr' with hr' |hr'
   ·have:=h2 r hr';omega
   ·simp at hr';subst hr';simp
theorem M7 (rows:List (List Nat))(level i:Nat):rows.length≤(BE rows level i).length:=by rw[Cc];split<;>omega
theorem NY {rec:Nat→Ky→Ky→Nat→WS→Int×WS}{p:PG}{low high:Ky}{lev:Nat}(hrec: ∀i low high st,i<n→WI n st→lev≤st.rows.length→WI n (rec i low high lev st).2∧WL st (rec i low high lev st).2):
  ∀(l:List Nat)(k:Nat)(deep:Int)(st:WS),(∀x ∈ l,x<n)→WI n st→lev≤st.rows.length→WI n (DG rec p low high lev k deep st l).2∧WL st (DG rec p low high lev k deep st l).2
 | [],k,deep,st,_,h,_=>⟨h,Nat.le_refl _,Nat.le_refl _⟩
 |kid::r,k,deep,st,hl,h,hr=>by
  obtain⟨h1,h2⟩:=hrec kid (Eg p k low) (Db p k high) st (hl kid (by simp)) h hr;rw[DG];split
  ·exact⟨h1,h2⟩
  ·obtain⟨h3,h4⟩:=NY hrec r (k+1) (rec kid (Eg p k low) (Db p k high) lev st).1 _ (fun x hx=>hl x (by simp[hx])) h1 (Nat.le_trans hr h2.r)
   exact⟨h3,Nat.le_trans h2.m h4.m,Nat.le_trans h2.r h4.r⟩
theorem Jh (hin: ∀i x,x ∈ AI ps i→x<n): ∀(f i:Nat)(low high:Ky)(level:Nat)(st:WS),i<n→WI n st→level≤st.rows.length→WI n (CC ps f i low high level st).2∧WL st (CC ps f i low high level st).2
 |0,i,low,high,level,st,hi,h,hr=>⟨h,Nat.le_refl _,Nat.le_refl _⟩
 |f+1,i,low,high,level,st,hi,h,hr=>by
  rw[CC];split
  ·exact⟨h,Nat.le_refl _,Nat.le_refl _⟩
  ·rename_i hm
   split
   ·exact⟨h.met1 hi hm,by simp,Nat.le_refl _⟩
   ·split
    ·exact⟨h.row1 hi hm,by simp,M7 _ _ _⟩
    ·obtain⟨h3,h4⟩:=NY (p:=pg ps i) (low:=low) (high:=high) (fun i low high st hi h hr=>Jh hin f i low high (level+1) st hi h hr) (AI ps i) 0 (-2) ⟨st.met++[i],BE st.rows level i⟩ (hin i) (h.row1 hi hm) (by show level+1≤(BE st.rows level i).length;rw[Cc];split<;>omega)
     exact⟨h3,Nat.le_trans (by simp) h4.m,Nat.le_trans (M7 _ _ _) h4.r⟩
end
end Go.AM
namespace Go.AM
open Go Go.RowKit
attribute [local irreducible] AWP Aw
def Cd (i:Nat):List AV:=[.r (.int .i64 (i:Int))]
@[simp] theorem Te (a:Nat):(∀x,x ∈ Cd a→PT x)=True:=eq_true (by intro x hx;simp[Cd] at hx;subst hx;exact .r _)
instance:PTf Cd:=⟨fun a=>of_eq_true (Te a)⟩
def Df (r:List Nat):List AV:=[.u 3 1 (r.map Cd)]
@[simp] theorem C1 (a:List Nat):(∀x,x ∈ Df a→PT x)=True:=eq_true (by intro x hx;simp[Df] at hx;subst hx;exact .u _ _ _ (Dv _ _))
theorem RV (n:Nat):PT (.q n)=True:=eq_true (.q n)
def BP (l:List Nat):List Int:=l.map Int.ofNat
theorem IU (l:List Nat)(i:Nat):(BP l).contains (i:Int)=decide (i ∈ l):=by
 rw[Bool.eq_iff_iff,List.contains_iff_mem,decide_eq_true_iff,BP,List.mem_map]
 constructor
 ·rintro⟨a,h1,h2⟩
  have:a=i:=Int.ofNat.inj h2;subst this;exact h1
 ·exact fun h=>⟨i,h,rfl⟩
theorem RM {l:List Nat}{i:Nat}(h:i ∉ l):Ok (BP l) (i:Int)=BP (l++[i]):=by
 unfold Ok;rw[IU,decide_eq_false h];simp[BP]
section
variable {P:Program} {E:Env} {N:Nat} {st:AS} {AQ:AExit→AS→Prop}
theorem Bg {p q:AS→Prop}(h: ∀s,p s→q s): ∀e s,CR p AQ e s→CR q AQ e s:=fun e s hh=>by
 cases e with
 |normal=>exact h s hh
 |_=>exact hh
theorem Mx {x y:Code}(fx:AS)(h:AWP P E N y fx AQ)(h2: ∀K:AS→Prop,(∀st',Emb E N st' fx→K st')→AWP P E N x st (CR K AQ)):AWP P E N (.seq x y) st AQ:=A0 (h2 _ fun st' he=>AWP.emb he h)
theorem Hm {x y v:Code}(fx:AS)(h:AWP P E N v fx AQ)(h2: ∀K:AS→Prop,(∀st',Emb E N st' fx→K st')→AWP P E N x st (CR (fun s=>AWP P E N y s (CR K AQ)) AQ)):AWP P E N (.seq x (.seq y v)) st AQ:=
 A0 ((h2 _ fun st' he=>AWP.emb he h).mono (Bg fun _ hh=>A0 hh))
theorem OK {x y z u v:Code}(fx:AS)(h:AWP P E N v fx AQ)(h2: ∀K:AS→Prop,(∀st',Emb E N st' fx→K st')→AWP P E N x st (CR (fun s=>AWP P E N y s (CR (fun s=>AWP P E N z s (CR (fun s=>AWP P E N u s (CR K AQ)) AQ)) AQ)) AQ)):
  AWP P E N (.seq x (.seq y (.seq z (.seq u v)))) st AQ:=
 A0 ((h2 _ fun st' he=>AWP.emb he h).mono (Bg fun _ hh=>A0 (hh.mono (Bg fun _ hh=>A0 (hh.mono (Bg fun _ hh=>A0 hh))))))
theorem TA {x y z u t v:Code}(fx:AS)(h:AWP P E N v fx AQ)(h2: ∀K:AS→Prop,(∀st',Emb E N st' fx→K st')→AWP P E N x st (CR (fun s=>AWP P E N y s (CR (fun s=>AWP P E N z s (CR (fun s=>AWP P E N u s (CR (fun s=>AWP P E N t s (CR K AQ)) AQ)) AQ)) AQ)) AQ)):
  AWP P E N (.seq x (.seq y (.seq z (.seq u (.seq t v))))) st AQ:=
 A0 ((h2 _ fun st' he=>AWP.emb he h).mono (Bg fun _ hh=>A0 (hh.mono (Bg fun _ hh=>A0 (hh.mono (Bg fun _ hh=>A0 (hh.mono (Bg fun _ hh=>A0 hh))))))))
end
theorem HV {p:PG}{low:Ky}(h:p.keys.length=0):B5 p low=true:=by
 have:p.keys=[]:=List.length_eq_zero_iff.1 h;unfold B5;rw[this]
theorem DC {p:PG}{low k:Ky}(h:p.keys[0]?=some k):B5 p low= !B4 k low:=by
 unfold B5
 cases hk:p.keys with
 |nil=>rw[hk] at h;simp at h
 |cons x r=>rw[hk] at h;simp at h;subst h;rfl
def B8 (ps:List PG)(root:Int)(n:Nat)(rows:List (List Nat)):Nd:= .box 187 [.ro true 5 (ps.map eP),.r (.int .i64 root),.q 1,.s n 0 rows.length]
def CM (ps:List PG)(root:Int)(n:Nat)(st:WS):List (Nat×Nd):=[(0,B8 ps root n st.rows),(1,.mp (BP st.met)),(n,.ul 36 1 (st.rows.map Df) [])]
set_option maxHeartbeats 8000000 in
theorem N3 (G:List (Nat×List Value))(ps:List PG)(root:Int)(hn:ps.length≤4000)(hall: ∀p ∈ ps,PageOK p ps.length)(hin: ∀i x,x ∈ AI ps i→x<ps.length): ∀(f i level:Nat)(low high:Ky)(tl th:Bool)(st:WS),i<ps.length→WI ps.length st→level≤st.rows.length→ps.length<st.met.length+f→
  Con prog G 141 [.p 0 0 0,.r (.int .i64 i),.ro tl 1 (low.map AC),.ro th 1 (high.map AC),.r (.int .i64 level)] (CM ps root 2 st) 3 (Is (.r (.int .i64 (CC ps f i low high level st).1)) (CM ps root 3 (CC ps f i low high level st).2) 4) No
 |0,i,level,low,high,tl,th,st,hi,hw,hr,hf=>absurd hw.len (by omega)
 |f+1,i,level,low,high,tl,th,st,hi,hw,hr,hf=>by
  obtain⟨R,hR⟩: ∃R,CC ps (f+1) i low high level st=R:=⟨_,rfl⟩;rw[hR];rw[CC] at hR;have zi:((i:Int)<(ps.length:Int))=True:=eq_true (by omega);obtain⟨p,hp⟩: ∃p,ps[i]?=some p:=⟨ps[i],by simp[hi]⟩
  have hpg:pg ps i=p:=by rw[pg,List.getD_eq_getElem?_getD,hp];rfl
  rw[hpg] at hR;have hpo:=hall p (List.mem_of_getElem? hp);have hml:=hw.len;have hrl2:=hw.rl;refine AA func141 rfl (by kernel_rfl) (of_decide_eq_true (by kernel_rfl)) ?_;intro E hG hE;subst hG;simp only[B9]
  by_cases hm:i ∈ st.met
  ·rw[if_pos hm] at hR
   subst hR
   have hc:(BP st.met).contains (i:Int)=true:=by rw[IU];exact decide_eq_true hm
   (repeat' (first |refine A0 ?_ |((refine rR (fun K kp hK hkp=>?_));simp(implicitDefEqProofs:=false) (maxSteps:=2000000) (disch:=omega) only[go_sem,hc,CM,B8];(repeat' (refine hK _ ?_;clear hK hkp kp K))) |refine A3 rfl ?_ |refine A8 ?_));(refine A7 (by(simp(implicitDefEqProofs:=false) (maxSteps:=2000000) (disch:=omega) only[go_sem,results141,CM,B8,AK]);rfl) ?_;refine(Q9 [0,1,2,2] ?_ ?_ ?_ ?_ ?_ ?_).s<;>simp[JI,AG,AO,lk,ren,renL,A9,AL,hE,CM,B8,AK]<;>(try (intro i hi;first |(rcases i with _ |_ |i;rfl;rfl;(exfalso;omega)) |(rcases i with _ |_ |_ |i;rfl;rfl;rfl;(exfalso;omega)) |(rcases i with _ |_ |_ |_ |i;rfl;rfl;rfl;rfl;(exfalso;omega)) |(rcases i with _ |_ |_ |_ |_ |i;rfl;rfl;rfl;rfl;rfl;(exfalso;omega)) |(rcases i with _ |_ |_ |_ |_ |_ |i;rfl;rfl;rfl;rfl;rfl;rfl;(exfalso;omega)))))
  rw[if_neg hm] at hR
  have hc:(BP st.met).contains (i:Int)=false:=by rw[IU];exact decide_eq_false hm
  have hput:=RM hm
  by_cases hx:p.high=high
  rotate_left
  ·rw[if_pos (.inl hx)] at hR
   subst hR
   have h1':(p.high==high)=false:=by simpa using hx
   (repeat' (first |refine A0 ?_ |refine A6 ?_ |((first |refine rR (fun K kp hK hkp=>?_) |refine cR (Hl _ _ _ _ _) ?_);simp(implicitDefEqProofs:=false) (maxSteps:=2000000) (disch:=omega) only[go_sem,hc,hput,zi,hp,eP,CM,B8,h1'];(repeat' (refine hK _ ?_;clear hK hkp kp K))) |refine A3 rfl ?_ |refine A4 rfl ?_ |refine A8 ?_));(refine A7 (by(simp(implicitDefEqProofs:=false) (maxSteps:=2000000) (disch:=omega) only[go_sem,results141,CM,B8,AK]);rfl) ?_;refine(Q9 [0,1,2,2] ?_ ?_ ?_ ?_ ?_ ?_).s<;>simp[JI,AG,AO,lk,ren,renL,A9,AL,hE,CM,B8,AK]<;>(try (intro i hi;first |(rcases i with _ |_ |i;rfl;rfl;(exfalso;omega)) |(rcases i with _ |_ |_ |i;rfl;rfl;rfl;(exfalso;omega)) |(rcases i with _ |_ |_ |_ |i;rfl;rfl;rfl;rfl;(exfalso;omega)) |(rcases i with _ |_ |_ |_ |_ |i;rfl;rfl;rfl;rfl;rfl;(exfalso;omega)) |(rcases i with _ |_ |_ |_ |_ |_ |i;rfl;rfl;rfl;rfl;rfl;rfl;(exfalso;omega)))))
  have h1':(p.high==high)=true:=by rw[hx];exact beq_self_eq_true _
  cases hfl:B5 p low
  ·rw[if_pos (.inr hfl)] at hR
   subst hR
   have hk0: ¬p.keys.length=0:=fun h=>by rw[HV h] at hfl;cases hfl
   have hk1:((p.keys.length:Int)>0)=True:=eq_true (by omega);obtain⟨k,hk⟩: ∃k,p.keys[0]?=some k:=⟨p.keys[0]'(by omega),by simp⟩
   have h2:B4 k low=true:=by rw[DC hk] at hfl;simpa using hfl
   (repeat' (first |refine A0 ?_ |refine A6 ?_ |((first |refine rR (fun K kp hK hkp=>?_) |refine cR (Hl _ _ _ _ _) ?_ |refine cR (Ct _ _ _ _ _) ?_);simp(implicitDefEqProofs:=false) (maxSteps:=2000000) (disch:=omega) only[go_sem,hc,hput,zi,hp,eP,CM,B8,h1',hk1,hk,Aj,Mp,h2];(repeat' (refine hK _ ?_;clear hK hkp kp K))) |refine A3 rfl ?_ |refine A4 rfl ?_ |refine A8 ?_));(refine A7 (by(simp(implicitDefEqProofs:=false) (maxSteps:=2000000) (disch:=omega) only[go_sem,results141,CM,B8,AK]);rfl) ?_;refine(Q9 [0,1,2,2] ?_ ?_ ?_ ?_ ?_ ?_).s<;>simp[JI,AG,AO,lk,ren,renL,A9,AL,hE,CM,B8,AK]<;>(try (intro i hi;first |(rcases i with _ |_ |i;rfl;rfl;(exfalso;omega)) |(rcases i with _ |_ |_ |i;rfl;rfl;rfl;(exfalso;omega)) |(rcases i with _ |_ |_ |_ |i;rfl;rfl;rfl;rfl;(exfalso;omega)) |(rcases i with _ |_ |_ |_ |_ |i;rfl;rfl;rfl;rfl;rfl;(exfalso;omega)) |(rcases i with _ |_ |_ |_ |_ |_ |i;rfl;rfl;rfl;rfl;rfl;rfl;(exfalso;omega)))))
  rw[if_neg (by rw[hx,hfl];simp)] at hR;refine TA (fx:=⟨[(13,.p 4 0 0),(4,.r (.int .i64 level)),(3,.ro th 1 (high.map AC)),(2,.ro tl 1 (low.map AC)),(1,.r (.int .i64 i)),(0,.p 0 0 0)],[(0,B8 ps root 3 st.rows),(1,.mp (BP (st.met++[i]))),(3,.ul 36 1 (st.rows.map Df) []),(4,.box 131 [.r (.bool p.leaf),.ro true 1 (p.keys.map Aj),.ro true 1 (p.kids.map eI),.ro true 1 (p.high.map AC),.r (.int .i64 p.next)])],5⟩) ?_ fun K hcut=>?_;rotate_left
  ·by_cases hk0:p.keys.length=0
   ·have hk1:((p.keys.length:Int)>0)=False:=eq_false (by omega)
    (repeat' (first |refine A0 ?_ |refine A6 ?_ |((first |refine rR (fun K kp hK hkp=>?_) |refine cR (Hl _ _ _ _ _) ?_);simp(implicitDefEqProofs:=false) (maxSteps:=2000000) (disch:=omega) only[go_sem,hc,hput,zi,hp,eP,CM,B8,h1',hk1];(repeat' (refine hK _ ?_;clear hK hkp kp K))) |refine A4 rfl ?_));refine hcut _ ?_;(refine Vq [0,1,2,2,4] ?_ ?_ rfl ?_ ?_ ?_ ?_<;>simp[JI,AU,AO,lk,ren,renL,A9,AL,hE,B8,AK]<;>(try omega)<;>(try (intro i hi;first |(rcases i with _ |_ |i;rfl;rfl;(exfalso;omega)) |(rcases i with _ |_ |_ |i;rfl;rfl;rfl;(exfalso;omega)) |(rcases i with _ |_ |_ |_ |i;rfl;rfl;rfl;rfl;(exfalso;omega)) |(rcases i with _ |_ |_ |_ |_ |i;rfl;rfl;rfl;rfl;rfl;(exfalso;omega)) |(rcases i with _ |_ |_ |_ |_ |_ |i;rfl;rfl;rfl;rfl;rfl;rfl;(exfalso;omega)))))
   ·have hk1:((p.keys.length:Int)>0)=True:=eq_true (by omega)
    obtain⟨k,hk⟩: ∃k,p.keys[0]?=some k:=⟨p.keys[0]'(by omega),by simp⟩
    have h2:B4 k low=false:=by rw[DC hk] at hfl;simpa using hfl
    (repeat' (first |refine A0 ?_ |refine A6 ?_ |((first |refine rR (fun K kp hK hkp=>?_) |refine cR (Hl _ _ _ _ _) ?_ |refine cR (Ct _ _ _ _ _) ?_);simp(implicitDefEqProofs:=false) (maxSteps:=2000000) (disch:=omega) only[go_sem,hc,hput,zi,hp,eP,CM,B8,h1',hk1,hk,Aj,Mp,h2];(repeat' (refine hK _ ?_;clear hK hkp kp K))) |refine A4 rfl ?_));refine hcut _ ?_;(refine Vq [0,1,2,2,4] ?_ ?_ rfl ?_ ?_ ?_ ?_<;>simp[JI,AU,AO,lk,ren,renL,A9,AL,hE,B8,AK]<;>(try omega)<;>(try (intro i hi;first |(rcases i with _ |_ |i;rfl;rfl;(exfalso;omega)) |(rcases i with _ |_ |_ |i;rfl;rfl;rfl;(exfalso;omega)) |(rcases i with _ |_ |_ |_ |i;rfl;rfl;rfl;rfl;(exfalso;omega)) |(rcases i with _ |_ |_ |_ |_ |i;rfl;rfl;rfl;rfl;rfl;(exfalso;omega)) |(rcases i with _ |_ |_ |_ |_ |_ |i;rfl;rfl;rfl;rfl;rfl;rfl;(exfalso;omega)))))
  refine Hm (fx:=⟨[(13,.p 4 0 0),(4,.r (.int .i64 level)),(3,.ro th 1 (high.map AC)),(2,.ro tl 1 (low.map AC)),(1,.r (.int .i64 i)),(0,.p 0 0 0)],[(0,B8 ps root 3 (BE st.rows level i)),(1,.mp (BP (st.met++[i]))),(3,.ul 36 1 ((BE st.rows level i).map Df) []),(4,.box 131 [.r (.bool p.leaf),.ro true 1 (p.keys.map Aj),.ro true 1 (p.kids.map eI),.ro true 1 (p.high.map AC),.r (.int .i64 p.next)])],5⟩) ?_ fun K hcut=>?_;rotate_left
  ·refine A5 ?_
   refine AH (fun k:Nat=>⟨[(13,.p 4 0 0),(4,.r (.int .i64 level)),(3,.ro th 1 (high.map AC)),(2,.ro tl 1 (low.map AC)),(1,.r (.int .i64 i)),(0,.p 0 0 0)],[(0,.box 187 [.ro true 5 (ps.map eP),.r (.int .i64 root),.q 1,.s 3 0 (st.rows.length+k)]),(1,.mp (BP (st.met++[i]))),(3,.ul 36 1 (st.rows.map Df++List.replicate k [.r (.slice none 0 0)]) []),(4,.box 131 [.r (.bool p.leaf),.ro true 1 (p.keys.map Aj),.ro true 1 (p.kids.map eI),.ro true 1 (p.high.map AC),.r (.int .i64 p.next)])],5⟩) (fun k=>k≤level+1 - st.rows.length) (fun k=>level+1 - st.rows.length - k) 0 ?_ ?_ ?_
   ·exact Nat.zero_le _
   ·(refine AE hE [0,1,2,3,4] rfl ?_ ?_<;>simp[AU,AO,lk,ren,renL,A9,AL,B8,AK]<;>(try omega))
   intro k hk
   by_cases hlv:level<st.rows.length
   ·obtain rfl:k=0:=by omega
    have hg:((st.rows.length:Int)≤(level:Int))=False:=eq_false (by omega);have zl:((level:Int)<(st.rows.length:Int))=True:=eq_true (by omega);obtain⟨r,hr0⟩: ∃r,st.rows[level]?=some r:=⟨st.rows[level],by simp[hlv]⟩;have hrl:=hw.rs r (List.mem_of_getElem? hr0)
    have hrow:(st.rows.map Df)[level]?=some [.u 3 1 (r.map Cd)]:=by rw[List.getElem?_map,hr0];rfl
    simp only[Nat.add_zero,List.replicate_zero,List.append_nil];(refine AWP.emb (Fg (T:=?z1T) (k:=?z1k) (els:=?z1e) (T':=?z1T1) (k':=?z1k1) (els':=?z1e1) (op:=?z1op) (e:=?z1ee) 3 level 0 ?z1h ?z1he ?z1hj ?z1ho) ?z1g;(case z1h=>rfl);(case z1he=>exact hrow);(case z1hj=>rfl);(case z1ho=>simp[CN]);simp only[List.length_map]);(repeat' (first |refine A0 ?_ |refine AB ?_ |((first |refine rR (fun K kp hK hkp=>?_) |refine rX (id:=10) mixed [5] 15 [0,1,2,3,4,5,6,7,8,9,10,11,12,13,14] (fun K kp hK hkp=>?_));simp(implicitDefEqProofs:=false) (maxSteps:=2000000) (disch:=omega) only[go_sem,hg,zl,hrow,List.length_map,ne_eq,reduceCtorEq,not_false_eq_true,Value.oneCell'];(repeat' (first |(refine hK _ ?_;clear hK hkp kp K) |(with_reducible refine And.intro ?_ ?_) |omega))) |refine A4 rfl ?_))
    have hset:(st.rows.map Df).set level [.u 3 1 (r.map Cd++[[.r (.int .i64 (i:Int))]])]=(BE st.rows level i).map Df:=by
     rw[BE,if_pos hlv,List.map_set,List.getD_eq_getElem?_getD,hr0];simp[Df,Cd]
    refine hcut _ ?_
    have hany:((st.rows.map Df).set level [AV.any])[level]?=some [AV.any]:=by simp[hlv]
    have htk:(r.map Cd++[[AV.r (.int .i64 (i:Int))]]).take (r.length+1)=r.map Cd++[[AV.r (.int .i64 (i:Int))]]:=List.take_of_length_le (by simp);(refine Emb.trans (Ay (T:=?z2T) (k:=?z2k) (els:=?z2e) (T':=?z2T1) (k':=?z2k1) (els':=?z2e1) (op:=?z2op) (e:=?z2ee) (m:=?z2m) (lo:=?z2lo) (len:=?z2len) 3 level 0 ?z2h ?z2ho ?z2hm ?z2hn ?z2hl ?z2he ?z2hj) ?z2g;(case z2h=>rfl);(case z2he=>exact hany);(case z2ho=>(simp only[CN,and_self,if_true,↓reduceIte,List.length_map,htk,hset];rfl));(case z2hm=>rfl);(case z2hn=>simp);(case z2hl=>simp[List.length_map,htk,hset]);(case z2hj=>simp[List.length_map,htk,hset]);simp only[rm,Gu,and_self,Nat.le_refl,Nat.zero_add,Nat.lt_add_one,Nat.reduceLT,Nat.reduceEqDiff,↓reduceIte,if_true,List.drop_zero,List.set_cons_zero,List.set_cons_succ,List.length_map,htk,hset]);(refine AE hE [0,1,2,3,4] rfl ?_ ?_<;>simp[AU,AO,lk,ren,renL,A9,AL,B8,AK,Cc,hlv]<;>(try omega))
   ·obtain rfl:level=st.rows.length:=by omega
    by_cases hk0:k=0
    ·subst hk0
     have hg:((st.rows.length:Int)≤(st.rows.length:Int))=True:=eq_true (Int.le_refl _);simp only[Nat.add_zero,List.replicate_zero,List.append_nil];(repeat' (first |refine A0 ?_ |refine A5 ?_ |refine A6 ?_ |((refine rR (fun K kp hK hkp=>?_));simp(implicitDefEqProofs:=false) (maxSteps:=2000000) (disch:=omega) only[go_sem,hg,ne_eq,reduceCtorEq,not_false_eq_true];(repeat' (first |(refine hK _ ?_;clear hK hkp kp K) |(with_reducible refine And.intro ?_ ?_) |omega))) |refine A3 rfl ?_))
     ((refine Im (1) ?_ ?_ ?_);rotate_left;(·(try dsimp only);(omega));(·(refine AE hE [0,1,2,6,4] rfl ?_ ?_<;>simp[AU,AO,lk,ren,renL,A9,AL,AK,List.replicate]<;>(try omega))))
     omega
    ·obtain rfl:k=1:=by omega
     have hg:((st.rows.length:Int)+1≤(st.rows.length:Int))=False:=eq_false (by omega)
     have hrow:(st.rows.map Df++List.replicate 1 [AV.r (.slice none 0 0)])[st.rows.length]?=some [AV.r (.slice none 0 0)]:=by simp
     have zl:((st.rows.length:Int)<(st.rows.length:Int)+1)=True:=eq_true (by omega)
     have zc:((st.rows.length+1:Nat):Int)=(st.rows.length:Int)+1:=by omega
     (repeat' (first |refine A0 ?_ |refine AB ?_ |((first |refine rR (fun K kp hK hkp=>?_) |refine rX (id:=10) mixed [] 15 [0,1,2,3,4,5,6,7,8,9,10,11,12,13,14] (fun K kp hK hkp=>?_));simp(implicitDefEqProofs:=false) (maxSteps:=2000000) (disch:=omega) only[go_sem,hg,hrow,zl,zc,ne_eq,reduceCtorEq,not_false_eq_true,Value.oneCell'];(repeat' (refine hK _ ?_;clear hK hkp kp K))) |refine A4 rfl ?_))
     have hset:(st.rows.map Df++List.replicate 1 [AV.r (.slice none 0 0)]).set st.rows.length [.u 3 1 [[.r (.int .i64 (i:Int))]]]=(BE st.rows st.rows.length i).map Df:=by
      rw[BE,if_neg hlv];simp[Df,Cd]
     have hset':st.rows.map Df++[[.u 3 1 [[.r (.int .i64 (i:Int))]]]]=(BE st.rows st.rows.length i).map Df:=by
      rw[BE,if_neg hlv];simp[Df,Cd]
     have hany:((st.rows.map Df++List.replicate 1 [AV.r (.slice none 0 0)]).set st.rows.length [AV.any])[st.rows.length]?=some [AV.any]:=by simp
     refine hcut _ ?_;refine Emb.trans (BY (T:=3) (k:=1) (els:=[[.r (.int .i64 (i:Int))]]) 6 rfl) ?_;simp only[Ad];(refine Emb.trans (Ay (T:=?z3T) (k:=?z3k) (els:=?z3e) (T':=?z3T1) (k':=?z3k1) (els':=?z3e1) (op:=?z3op) (e:=?z3ee) (m:=?z3m) (lo:=?z3lo) (len:=?z3len) 3 st.rows.length 0 ?z3h ?z3ho ?z3hm ?z3hn ?z3hl ?z3he ?z3hj) ?z3g;(case z3h=>rfl);(case z3he=>exact hany);(case z3ho=>(simp only[CN,and_self,if_true,↓reduceIte,hset,hset',List.length_singleton,List.take_succ_cons,List.take_zero];rfl));(case z3hm=>rfl);(case z3hn=>simp);(case z3hl=>simp[hset,hset',List.length_singleton,List.take_succ_cons,List.take_zero]);(case z3hj=>simp[hset,hset',List.length_singleton,List.take_succ_cons,List.take_zero]);simp only[rm,Gu,and_self,Nat.le_refl,Nat.zero_add,Nat.lt_add_one,Nat.reduceLT,Nat.reduceEqDiff,↓reduceIte,if_true,List.drop_zero,List.set_cons_zero,List.set_cons_succ,hset,hset',List.length_singleton,List.take_succ_cons,List.take_zero]);(refine AE hE [0,1,2,3,4] rfl ?_ ?_<;>simp[AU,AO,lk,ren,renL,A9,AL,B8,AK,Cc,hlv]<;>(try omega))
  have hwi:=hw.row1 (level:=level) hi hm
  by_cases hl:p.leaf=true
  ·rw[if_pos hl] at hR
   subst hR;(repeat' (first |refine A0 ?_ |((refine rR (fun K kp hK hkp=>?_));simp(implicitDefEqProofs:=false) (maxSteps:=2000000) (disch:=omega) only[go_sem,hl,B8];(repeat' (refine hK _ ?_;clear hK hkp kp K))) |refine A3 rfl ?_ |refine A8 ?_));(refine A7 (by(simp(implicitDefEqProofs:=false) (maxSteps:=2000000) (disch:=omega) only[go_sem,results141,CM,B8,AK]);rfl) ?_;refine(Cx hE [0,1,2,3] rfl ?_ ?_).s<;>simp[AG,AO,lk,ren,renL,A9,AL,CM,B8,AK])
  rw[if_neg hl] at hR
  replace hl:p.leaf=false:=by simpa using hl
  obtain⟨ks,hks⟩: ∃ks,AI ps i=ks:=⟨_,rfl⟩;rw[hks] at hR
  have hpk:p.kids=BP ks:=by
   rw[←hks,AI,hpg,hl];simp only[Bool.false_eq_true,if_false,BP,List.map_map];refine(List.map_id _).symm.trans (List.map_congr_left fun x hx=>?_);obtain⟨j,hj⟩:=List.mem_iff_getElem?.1 hx;have:=(hpo.kd j (List.getElem?_eq_some_iff.1 hj).1).1;rw[List.getD_eq_getElem?_getD,hj] at this;show x=((x.toNat:Nat):Int);have h0:0≤x:=this;omega
  have hkl:ks.length=p.keys.length+1:=by
   have:=hpo.ki hl;rw[hpk] at this;simpa[BP] using this
  have hkn: ∀x ∈ ks,x<ps.length:=fun x hx=>by
   obtain⟨j,hj⟩:=List.mem_iff_getElem?.1 hx
   have hj2:p.kids[j]?=some (x:Int):=by rw[hpk,BP,List.getElem?_map,hj];rfl
   have:=(hpo.kd j (List.getElem?_eq_some_iff.1 hj2).1).2 hl;rw[List.getD_eq_getElem?_getD,hj2] at this;have h0:(x:Int)<ps.length:=this;omega
  have hk4:=hpo.nk;have hne0:=hpo.ne hl
  have hcl:p.kids.length=ks.length:=by rw[hpk,BP,List.length_map]
  have har:=Cc st.rows level i;(repeat' (first |refine A0 ?_ |refine A5 ?_ |refine A6 ?_ |((refine rR (fun K kp hK hkp=>?_));simp(implicitDefEqProofs:=false) (maxSteps:=2000000) (disch:=omega) only[go_sem,hl,B8];(repeat' (refine hK _ ?_;clear hK hkp kp K))) |refine A4 rfl ?_));refine AH (fun d:Nat×Int×WS=>⟨[(102,.r (.int .i64 d.1)),(101,.r (.int .i64 p.kids.length)),(100,.ro true 1 (p.kids.map eI)),(14,.r (.int .i64 d.2.1)),(13,.p 4 0 0),(4,.r (.int .i64 level)),(3,.ro th 1 (high.map AC)),(2,.ro tl 1 (low.map AC)),(0,.p 0 0 0)],[(0,B8 ps root 3 d.2.2.rows),(1,.mp (BP d.2.2.met)),(3,.ul 36 1 (d.2.2.rows.map Df) []),(4,.box 131 [.r (.bool p.leaf),.ro true 1 (p.keys.map Aj),.ro true 1 (p.kids.map eI),.ro true 1 (p.high.map AC),.r (.int .i64 p.next)])],5⟩)
   (fun d=>d.1≤ks.length∧WI ps.length d.2.2∧level+1≤d.2.2.rows.length∧st.met.length+1≤d.2.2.met.length∧DG (CC ps f) p low high (level+1) d.1 d.2.1 d.2.2 (ks.drop d.1)=R) (fun d=>ks.length - d.1) (0,-2,⟨st.met++[i],BE st.rows level i⟩) ?_ ?_ ?_
  ·refine⟨Nat.zero_le _,hwi,?_,by simp,hR⟩
   show level+1≤(BE st.rows level i).length
   rw[har];split<;>omega
  ·(refine AE hE [0,1,2,3,4] rfl ?_ ?_<;>simp[AU,AO,lk,ren,renL,A9,AL,hl,B8,AK]<;>(try omega))
  rintro⟨k,deep,s⟩ ⟨hk,hws,hrs,hms,hRk⟩;have hmls:=hws.len;have hrls:=hws.rl
  by_cases hlt:k<ks.length
  ·have zk:((k:Int)<(p.kids.length:Int))=True:=eq_true (by rw[hcl];omega)
   dsimp only at hk hws hrs hms hRk hmls hrls ⊢;obtain⟨kid,hkid⟩: ∃x,ks[k]?=some x:=⟨ks[k],by simp[hlt]⟩
   have hkd:p.kids[k]?=some (kid:Int):=by rw[hpk,BP,List.getElem?_map,hkid];rfl
   have hkidn:=hkn kid (List.mem_of_getElem? hkid)
   have hdrop:ks.drop k=kid::ks.drop (k+1):=by
    obtain⟨h1,rfl⟩:=List.getElem?_eq_some_iff.1 hkid;exact List.drop_eq_getElem_cons h1
   rw[hdrop,DG] at hRk;have IH:=N3 E.G ps root hn hall hin f kid (level+1) (Eg p k low) (Db p k high) (if k=0 then tl else true) (if k<p.keys.length then true else th) s hkidn hws hrs (by omega);obtain⟨hwi2,hwl2⟩:=Jh (n:=ps.length) hin f kid (Eg p k low) (Db p k high) (level+1) s hkidn hws hrs;obtain⟨X,hX⟩: ∃X,CC ps f kid (Eg p k low) (Db p k high) (level+1) s=X:=⟨_,rfl⟩;rw[hX] at IH hRk hwi2 hwl2;obtain⟨lo,hlo⟩: ∃x,Eg p k low=x:=⟨_,rfl⟩;obtain⟨hi2,hhi⟩: ∃x,Db p k high=x:=⟨_,rfl⟩;obtain⟨fl,hfl2⟩: ∃x,(if k=0 then tl else true)=x:=⟨_,rfl⟩;obtain⟨fh,hfh⟩: ∃x,(if k<p.keys.length then true else th)=x:=⟨_,rfl⟩;rw[hlo,hhi,hfl2,hfh] at IH;refine A0 ?_;(refine rR (fun K kp hK hkp=>?_);simp(implicitDefEqProofs:=false) (maxSteps:=2000000) (disch:=omega) only[go_sem,zk];(repeat' (refine hK _ ?_;clear hK hkp kp K)));refine A0 ?_;refine A3 rfl ?_;refine A6 ?_;refine A0 ?_;refine A5 ?_;refine OK (fx:=⟨[(102,.r (.int .i64 k)),(101,.r (.int .i64 p.kids.length)),(100,.ro true 1 (p.kids.map eI)),(18,.ro fh 1 (hi2.map AC)),(17,.ro fl 1 (lo.map AC)),(16,.r (.int .i64 kid)),(14,.r (.int .i64 deep)),(13,.p 4 0 0),(4,.r (.int .i64 level)),(3,.ro th 1 (high.map AC)),(2,.ro tl 1 (low.map AC)),(0,.p 0 0 0)],[(0,B8 ps root 3 s.rows),(1,.mp (BP s.met)),(3,.ul 36 1 (s.rows.map Df) []),(4,.box 131 [.r (.bool p.leaf),.ro true 1 (p.keys.map Aj),.ro true 1 (p.kids.map eI),.ro true 1 (p.high.map AC),.r (.int .i64 p.next)])],5⟩) ?_ fun K hcut=>?_;rotate_left
   ·cases k with
    |zero=>
     obtain⟨y,hy⟩: ∃y,p.keys[0]?=some y:=⟨p.keys[0]'(by omega),by simp⟩
     have hyD:hi2=y:=by rw[←hhi,Db,if_pos (by omega),List.getD_eq_getElem?_getD,hy];rfl
     have e1:lo=low:=by rw[←hlo];rfl
     have e2:fl=tl:=by rw[←hfl2];rfl
     have e3:fh=true:=by rw[←hfh,if_pos (by omega)]
     subst hyD e1 e2 e3;have hg:((0:Int)<(p.keys.length:Int))=True:=eq_true (by omega);have hg2:((0:Int)<(p.kids.length:Int))=True:=eq_true (by omega);(repeat' (first |refine A0 ?_ |refine A6 ?_ |((refine rR (fun K kp hK hkp=>?_));simp(implicitDefEqProofs:=false) (maxSteps:=2000000) (disch:=omega) only[go_sem,zk,hkd,hy,hg,hg2,eI,Aj,B8];(repeat' (refine hK _ ?_;clear hK hkp kp K))) |refine A3 rfl ?_ |refine A4 rfl ?_));refine hcut _ ?_;(refine AE hE [0,1,2,3,4] rfl ?_ ?_<;>simp[AU,AO,lk,ren,renL,A9,AL,B8,AK]<;>(try omega))
    |succ j=>
     obtain⟨y,hy⟩: ∃y,p.keys[j]?=some y:=⟨p.keys[j]'(by omega),by simp⟩
     have hyD:lo=y:=by rw[←hlo,Eg,if_neg (by omega),List.getD_eq_getElem?_getD,Nat.add_sub_cancel,hy];rfl
     have e2:fl=true:=by rw[←hfl2];rfl
     subst hyD e2
     have hj1:((j+1:Nat):Int) - 1=(j:Int):=by omega
     by_cases hjl:j+1<p.keys.length
     ·obtain⟨z,hz⟩: ∃z,p.keys[j+1]?=some z:=⟨p.keys[j+1]'(by omega),by simp⟩
      have hzD:hi2=z:=by rw[←hhi,Db,if_pos hjl,List.getD_eq_getElem?_getD,hz];rfl
      have e3:fh=true:=by rw[←hfh,if_pos hjl]
      subst hzD e3;have hg:(((j+1:Nat):Int)<(p.keys.length:Int))=True:=eq_true (by omega);(repeat' (first |refine A0 ?_ |((refine rR (fun K kp hK hkp=>?_));simp(implicitDefEqProofs:=false) (maxSteps:=2000000) (disch:=omega) only[go_sem,zk,hkd,hy,hz,hg,hj1,eI,Aj,B8];(repeat' (refine hK _ ?_;clear hK hkp kp K))) |refine A3 rfl ?_ |((refine AD rfl (fun h=>?_) (fun h=>?_)<;>try simp only[BQ] at h)<;>(try (exfalso;omega)))));refine hcut _ ?_;(refine AE hE [0,1,2,3,4] rfl ?_ ?_<;>simp[AU,AO,lk,ren,renL,A9,AL,B8,AK]<;>(try omega))
     ·have e3:fh=th:=by rw[←hfh,if_neg hjl]
      have e4:hi2=high:=by rw[←hhi,Db,if_neg hjl]
      subst e3 e4;have hg:(((j+1:Nat):Int)<(p.keys.length:Int))=False:=eq_false (by omega);(repeat' (first |refine A0 ?_ |refine A6 ?_ |((refine rR (fun K kp hK hkp=>?_));simp(implicitDefEqProofs:=false) (maxSteps:=2000000) (disch:=omega) only[go_sem,zk,hkd,hy,hg,hj1,eI,Aj,B8];(repeat' (refine hK _ ?_;clear hK hkp kp K))) |refine A4 rfl ?_ |((refine AD rfl (fun h=>?_) (fun h=>?_)<;>try simp only[BQ] at h)<;>(try (exfalso;omega)))));refine hcut _ ?_;(refine AE hE [0,1,2,3,4] rfl ?_ ?_<;>simp[AU,AO,lk,ren,renL,A9,AL,B8,AK]<;>(try omega))
   ·(repeat' (first |refine A0 ?_ |((refine rR (fun K kp hK hkp=>?_));simp(implicitDefEqProofs:=false) (maxSteps:=2000000) (disch:=omega) only[go_sem,B8];(repeat' (omega)))))
    (refine C6 [0,1,3] (IH) ?_ ?_ ?_ ?_ ?_ ?_ ?_ ?_ rfl rfl ?_;(·simp[Em,JG,Mg,Ee,CA,FK,lk,CM,B8,AK,RV,C1]);(·simp[AO,lk,A9,renL,ren,AL,CM,B8,AK,RV,C1]);(·(intro i hi;simp only[List.length_cons,List.length_nil] at hi;repeat' (first |omega |exact⟨_,rfl⟩ |(rcases i with _ |i))));(·simp);(·simp);(·simp);(·simp[CM,B8,AK,RV,C1]);(·simp[CM,B8,AK,RV,C1]);simp only[CJ,fw,LC,rm,List.map_cons,List.map_nil,List.foldl_cons,List.foldl_nil,List.getElem?_cons_zero,List.getElem?_cons_succ,List.getElem?_nil,List.length_cons,List.length_nil,Nat.zero_add,Nat.sub_self,Nat.add_zero,↓reduceIte,Nat.reduceEqDiff,reduceCtorEq,Nat.reduceAdd,Nat.reduceSub,List.cons_append,List.nil_append,ren,renL,A9,CM,B8,AK,RV,C1];simp(implicitDefEqProofs:=false) (maxSteps:=2000000) (disch:=omega) only[go_sem,CM,B8,AK,RV,C1];(repeat' (refine hK _ ?_;clear hK hkp kp K)))
    by_cases c1:X.1<0
    ·rw[if_pos (.inl c1)] at hRk
     subst hRk;have g1:(X.1<0)=True:=eq_true c1;(repeat' (first |refine A0 ?_ |((refine rR (fun K kp hK hkp=>?_));simp(implicitDefEqProofs:=false) (maxSteps:=2000000) (disch:=omega) only[go_sem,g1,B8];(repeat' (refine hK _ ?_;clear hK hkp kp K))) |refine A3 rfl ?_ |refine A8 ?_));(refine A7 (by(simp(implicitDefEqProofs:=false) (maxSteps:=2000000) (disch:=omega) only[go_sem,results141,CM,B8,AK]);rfl) ?_;refine(Cx hE [0,1,2,5] rfl ?_ ?_).s<;>simp[AG,AO,lk,ren,renL,A9,AL,CM,B8,AK])
    have g1:(X.1<0)=False:=eq_false c1
    by_cases c2:deep= -2
    ·rw[if_neg (by intro h;rcases h with h |⟨h,_⟩;(·exact c1 h);(·exact h c2))] at hRk
     have g2:(deep != -2)=false:=by rw[c2];rfl
     (repeat' (first |refine A0 ?_ |refine A6 ?_ |((refine rR (fun K kp hK hkp=>?_));simp(implicitDefEqProofs:=false) (maxSteps:=2000000) (disch:=omega) only[go_sem,g1,g2,B8];(repeat' (refine hK _ ?_;clear hK hkp kp K))) |refine A4 rfl ?_))
     ((refine AJ ((k+1,X.1,X.2)) ?_ ?_ ?_);rotate_left;(·(try dsimp only);(omega));(·(refine AE hE [0,1,2,5,4] rfl ?_ ?_<;>simp[AU,AO,lk,ren,renL,A9,AL,B8,AK]<;>(try omega))))
     exact⟨by omega,hwi2,Nat.le_trans hrs hwl2.r,Nat.le_trans hms hwl2.m,hRk⟩
    have g2:(deep != -2)=true:=by simpa using c2
    by_cases c3:X.1=deep
    ·rw[if_neg (by intro h;rcases h with h |⟨_,h⟩;(·exact c1 h);(·exact h c3))] at hRk
     have g3:(X.1 !=deep)=false:=by rw[c3];simp
     (repeat' (first |refine A0 ?_ |refine A6 ?_ |((refine rR (fun K kp hK hkp=>?_));simp(implicitDefEqProofs:=false) (maxSteps:=2000000) (disch:=omega) only[go_sem,g1,g2,g3,B8];(repeat' (refine hK _ ?_;clear hK hkp kp K))) |refine A4 rfl ?_))
     ((refine AJ ((k+1,X.1,X.2)) ?_ ?_ ?_);rotate_left;(·(try dsimp only);(omega));(·(refine AE hE [0,1,2,5,4] rfl ?_ ?_<;>simp[AU,AO,lk,ren,renL,A9,AL,B8,AK]<;>(try omega))))
     exact⟨by omega,hwi2,Nat.le_trans hrs hwl2.r,Nat.le_trans hms hwl2.m,hRk⟩
    ·rw[if_pos (.inr ⟨c2,c3⟩)] at hRk
     subst hRk
     have g3:(X.1 !=deep)=true:=by simpa using c3
     (repeat' (first |refine A0 ?_ |((refine rR (fun K kp hK hkp=>?_));simp(implicitDefEqProofs:=false) (maxSteps:=2000000) (disch:=omega) only[go_sem,g1,g2,g3,B8];(repeat' (refine hK _ ?_;clear hK hkp kp K))) |refine A3 rfl ?_ |refine A8 ?_));(refine A7 (by(simp(implicitDefEqProofs:=false) (maxSteps:=2000000) (disch:=omega) only[go_sem,results141,CM,B8,AK]);rfl) ?_;refine(Cx hE [0,1,2,5] rfl ?_ ?_).s<;>simp[AG,AO,lk,ren,renL,A9,AL,CM,B8,AK])
  ·obtain rfl:k=ks.length:=by simp only at hk;omega
   rw[List.drop_length,DG] at hRk;subst hRk;(repeat' (first |refine A0 ?_ |refine AB ?_ |((refine rR (fun K kp hK hkp=>?_));simp(implicitDefEqProofs:=false) (maxSteps:=2000000) (disch:=omega) only[go_sem,hcl,B8];(repeat' (refine hK _ ?_;clear hK hkp kp K))) |((refine AD rfl (fun h=>?_) (fun h=>?_)<;>try simp only[BQ] at h)<;>(try (exfalso;omega))) |refine A8 ?_));(refine A7 (by(simp(implicitDefEqProofs:=false) (maxSteps:=2000000) (disch:=omega) only[go_sem,results141,CM,B8,AK]);rfl) ?_;refine(Cx hE [0,1,2,3] rfl ?_ ?_).s<;>simp[AG,AO,lk,ren,renL,A9,AL,CM,B8,AK])
end Go.AM
