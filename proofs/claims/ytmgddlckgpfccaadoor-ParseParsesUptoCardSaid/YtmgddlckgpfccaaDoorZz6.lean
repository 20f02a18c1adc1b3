/- Texts of the law ParseParses, part 6: lemmas; what is proved stands in the last text. -/
import Derived.Test.YtmgddlckgpfccaaDoorZz5
import Derived.Defers
import Derived.Recover
open Go.Proofs.Tryd
set_option linter.unusedSimpArgs false
set_option linter.unusedVariables false
set_option maxRecDepth 100000
namespace Go.AM
open Go Go.RowKit
open Go.Proofs.YtmgddlckgpfccaaDoor (OP Ac AY AR str)
attribute [local irreducible] AWP BS
theorem N0 {E:Env}{N:Nat}{st:AS}{th:List NLoc}{z:Ag}{a:Act}{w:World}(n j:Nat){T:TypeId}{c:List AV}(h:lk st.o n=some (.box T c))(hs:Sim E N st th z a w):Sim E N (BO st n (.box T (c.set j .any))) th z a w:=by
 obtain⟨L,h1,h2,h3⟩:=hs.mem.nds n _ h;refine hs.say h fun L' hL' hA=>?_;obtain⟨hp',cells',fr',k1,k2,k3,k4⟩:=hA;exact⟨hp',_,_,k1,k2,k3,k4.set_at fun u hu=> .any _ _⟩
theorem P9 {E:Env}{N:Nat}{st:AS}(n j:Nat){T:TypeId}{c:List AV}{x y:AV}{o:List (Nat×Nd)}{m:Nat}(h:lk st.o n=some (.box T c))(h2:Io E N (BO st n (.box T (c.set j .any))) x o m y):Io E N st x o m y:=
 fun th z a w v hs hr=>h2 th z a w v (N0 n j h hs) hr
theorem QI {E:Env}{N:Nat}{st:AS}(n j:Nat){T:TypeId}{c:List AV}(h:lk st.o n=some (.box T c)):Emb E N st (BO st n (.box T (c.set j .any))):=fun th z _ _ hs=>⟨th,z,N0 n j h hs⟩
theorem FO {E:Env}{N:Nat}{st:AS}(T:TypeId)(k:Nat){y:AV}{o:List (Nat×Nd)}{m:Nat}(h:Io E N {st with o:=(st.n,.lst T k [])::st.o,n:=st.n+1} (.s st.n 0 0) o m y):Io E N st (.r (.slice none 0 0)) o m y:=by
 intro th z a w v hs hr;have hk:=hs.know ⟨0,0,0,0,true⟩ (.lst T k []) (fun hp=>by cases hp) (fun _ _ _ _ _ _ hp=>by cases hp) (.inl ⟨rfl,rfl⟩) (.inl rfl);obtain rfl:=hr.r_inv;exact h _ z a w _ hk (.sn _ _ 0 _ (hs.get_new _) rfl)
@[reducible] def G7 (l:List TK0) (q:List OP) (p:Nat):List (Nat×Nd):=[(0,.box 43 [.ro true 3 (l.map eT),.r (.int .i64 p),.any]),(1,B4 q)]
set_option maxHeartbeats 8000000 in
theorem LJ {G:List (Nat×List Value)}(T:TabsP G){l:List TK0}(hk: ∀t ∈ l,TokOk t)(hl:l.length≤100)(p:Nat)(hp:p≤l.length):
  Con prog G 31 [.p 0 0 0] (A_ l p) 1 (PQ (DW l p) (fun q _=> .s 1 0 q.length) (fun q p=>G7 l q p) 2) (PP (DW l p) 1):=by
 obtain⟨h1,h2⟩:=DH hp hl;have oc:=(RI T hk hl _ _ (Nat.le_refl _)).1 p [] (DW l p) h1 hp (Nat.zero_le _)
 cases hx:DW l p with
 |bad e p1=>
  have oc:=oc.bad hx;refine Con.of_bad rfl ?_;unfold BR Bq B4 at oc;unfold A_;refine A8 func31 rfl (by kernel_rfl) (of_decide_eq_true (by kernel_rfl)) ?_;intro E hG hE;subst hG;simp only[Ai];refine A6 ?_;(refine rR (fun K kp hK hkp=>?_);simp(implicitDefEqProofs:=false) (maxSteps:=2000000) (disch:=omega) only[go_sem];(repeat' (first |(refine hK _ ?_;clear hK hkp kp K) |(with_reducible refine And.intro ?_ ?_) |omega)));refine A6 ?_;(refine rR (fun K kp hK hkp=>?_);simp(implicitDefEqProofs:=false) (maxSteps:=2000000) (disch:=omega) only[go_sem];(repeat' (first |(refine hK _ ?_;clear hK hkp kp K) |(with_reducible refine And.intro ?_ ?_) |omega)));(refine AWP.emb (GC 0 2 73 5 rfl rfl (by simp)) ?_;simp only[List.set_cons_zero,List.set_cons_succ,lk,↓reduceIte,Nat.reduceAdd]);(repeat' (first |refine A6 ?_ |refine A2 ?_ |refine A3 ?_ |refine A5 ?_ |((first |refine rR (fun K kp hK hkp=>?_) |refine iG ?_);simp(implicitDefEqProofs:=false) (maxSteps:=2000000) (disch:=omega) only[go_sem];(repeat' (first |(refine hK _ ?_;clear hK hkp kp K) |(with_reducible refine And.intro ?_ ?_) |omega))) |refine oP [0,1] oc ?_ |((first |refine aG (fun h=>?_) (fun h=>?_) |refine aD (fun h=>?_) (fun h=>?_) |refine aX (fun h=>?_) (fun h=>?_))<;>simp only[h]) |refine A0 rfl ?_ |refine A1 rfl ?_ |((refine A4 rfl (fun h=>?_) (fun h=>?_)<;>try simp only[AK] at h)<;>(try (exfalso;omega))) |refine A7 ?_));(refine hkp _ _ ?_;clear hkp hK kp K;refine AD ?_;refine AC hE [0] rfl ?_ ?_<;>simp[AH,lk,ren,renL,A9,AG,Aa])
 |ok q p1=>
  have oc:=oc.ok hx;(try dsimp only at oc);rw[List.nil_append] at oc;refine Con.of_ok rfl ?_;(try dsimp only);unfold BR Bq B4 at oc;unfold G7 A_ B4;refine A8 func31 rfl (by kernel_rfl) (of_decide_eq_true (by kernel_rfl)) ?_;intro E hG hE;subst hG;simp only[Ai];refine A6 ?_;(refine rR (fun K kp hK hkp=>?_);simp(implicitDefEqProofs:=false) (maxSteps:=2000000) (disch:=omega) only[go_sem];(repeat' (first |(refine hK _ ?_;clear hK hkp kp K) |(with_reducible refine And.intro ?_ ?_) |omega)));refine A6 ?_;(refine rR (fun K kp hK hkp=>?_);simp(implicitDefEqProofs:=false) (maxSteps:=2000000) (disch:=omega) only[go_sem];(repeat' (first |(refine hK _ ?_;clear hK hkp kp K) |(with_reducible refine And.intro ?_ ?_) |omega)));(refine AWP.emb (GC 0 2 73 5 rfl rfl (by simp)) ?_;simp only[List.set_cons_zero,List.set_cons_succ,lk,↓reduceIte,Nat.reduceAdd]);(repeat' (first |refine A6 ?_ |refine A2 ?_ |refine A3 ?_ |refine A5 ?_ |((first |refine rR (fun K kp hK hkp=>?_) |refine oR [0,1] oc ?_ |refine iG ?_);simp(implicitDefEqProofs:=false) (maxSteps:=2000000) (disch:=omega) only[go_sem];(repeat' (first |(refine hK _ ?_;clear hK hkp kp K) |(with_reducible refine And.intro ?_ ?_) |omega))) |((first |refine aG (fun h=>?_) (fun h=>?_) |refine aD (fun h=>?_) (fun h=>?_) |refine aX (fun h=>?_) (fun h=>?_))<;>simp only[h]) |refine A0 rfl ?_ |refine A1 rfl ?_ |((refine A4 rfl (fun h=>?_) (fun h=>?_)<;>try simp only[AK] at h)<;>(try (exfalso;omega))) |refine A7 ?_));(refine AB (by(simp(implicitDefEqProofs:=false) (maxSteps:=2000000) (disch:=omega) only[go_sem,results31]);rfl) ?_;refine P9 0 2 rfl ?_;simp only[BO,List.set_cons_zero,List.set_cons_succ];refine(AC hE [0,2] rfl ?_ ?_).s<;>simp[AI,AH,lk,ren,renL,A9,AG])
set_option maxHeartbeats 8000000 in
theorem GP {G:List (Nat×List Value)}(T:TabsP G){l:List TK0}(hk: ∀t ∈ l,TokOk t)(hl:l.length≤100)(p:Nat)(hp:p≤l.length):
  Con prog G 32 [.p 0 0 0] (A_ l p) 1 (PQ (CY l p) (fun q _=> .s 1 0 q.length) (fun q p=>G7 l q p) 2) (PP (CY l p) 1):=by
 cases ho:AP l p 1 DQ
 ·have ec:=AU G l p 1 DQ hl (by omega) ho
  simp only[DQ,str] at ec;refine Con.of_ok (a:=[]) (p:=p) (by rw[CY,ho];rfl) ?_;(try dsimp only);unfold A_ at ec;unfold G7 A_ B4;refine A8 func32 rfl (by kernel_rfl) (of_decide_eq_true (by kernel_rfl)) ?_;intro E hG hE;subst hG;simp only[Ai];refine A6 ?_;(refine rR (fun K kp hK hkp=>?_);simp(implicitDefEqProofs:=false) (maxSteps:=2000000) (disch:=omega) only[go_sem];(repeat' (first |(refine hK _ ?_;clear hK hkp kp K) |(with_reducible refine And.intro ?_ ?_) |omega)));refine A6 ?_;(repeat' (first |refine A6 ?_ |refine A2 ?_ |refine A3 ?_ |refine A5 ?_ |((first |refine rR (fun K kp hK hkp=>?_) |refine oR [0] ec ?_ |refine iG ?_);simp(implicitDefEqProofs:=false) (maxSteps:=2000000) (disch:=omega) only[go_sem];(repeat' (first |(refine hK _ ?_;clear hK hkp kp K) |(with_reducible refine And.intro ?_ ?_) |omega))) |((first |refine aG (fun h=>?_) (fun h=>?_) |refine aD (fun h=>?_) (fun h=>?_) |refine aX (fun h=>?_) (fun h=>?_))<;>simp only[h]) |refine A0 rfl ?_ |refine A1 rfl ?_ |((refine A4 rfl (fun h=>?_) (fun h=>?_)<;>try simp only[AK] at h)<;>(try (exfalso;omega))) |refine A7 ?_));(refine AB (by(simp(implicitDefEqProofs:=false) (maxSteps:=2000000) (disch:=omega) only[go_sem,results32]);rfl) ?_;refine FO 73 5 ?_;refine(AC hE [0,1] rfl ?_ ?_).s<;>simp[AH,lk,ren,renL,A9,AG])
 ·have ec:=C0 G l p 1 DQ hl (by omega) ho
  simp only[DQ,str] at ec;have hlt:=Aq ho;have xc:=LJ T hk hl (p+1) hlt
  have hw:CY l p=DW l (p+1):=by rw[CY,if_pos ho]
  rw[hw]
  cases hx:DW l (p+1) with
  |bad e p1=>
   have xc:=xc.bad hx;refine Con.of_bad rfl ?_;unfold A_ at ec xc ⊢;refine A8 func32 rfl (by kernel_rfl) (of_decide_eq_true (by kernel_rfl)) ?_;intro E hG hE;subst hG;simp only[Ai];(repeat' (first |refine A6 ?_ |refine A2 ?_ |refine A3 ?_ |refine A5 ?_ |((first |refine rR (fun K kp hK hkp=>?_) |refine oR [0] ec ?_ |refine iG ?_);simp(implicitDefEqProofs:=false) (maxSteps:=2000000) (disch:=omega) only[go_sem];(repeat' (first |(refine hK _ ?_;clear hK hkp kp K) |(with_reducible refine And.intro ?_ ?_) |omega))) |refine oP [0] xc ?_ |((first |refine aG (fun h=>?_) (fun h=>?_) |refine aD (fun h=>?_) (fun h=>?_) |refine aX (fun h=>?_) (fun h=>?_))<;>simp only[h]) |refine A0 rfl ?_ |refine A1 rfl ?_ |((refine A4 rfl (fun h=>?_) (fun h=>?_)<;>try simp only[AK] at h)<;>(try (exfalso;omega))) |refine A7 ?_));(refine hkp _ _ ?_;clear hkp hK kp K;refine AD ?_;refine AC hE [0] rfl ?_ ?_<;>simp[AH,lk,ren,renL,A9,AG,Aa])
  |ok q p1=>
   have xc:=xc.ok hx;(try dsimp only at xc);refine Con.of_ok rfl ?_;(try dsimp only);unfold G7 B4 at xc ⊢;unfold A_ at ec xc ⊢;refine A8 func32 rfl (by kernel_rfl) (of_decide_eq_true (by kernel_rfl)) ?_;intro E hG hE;subst hG;simp only[Ai];(repeat' (first |refine A6 ?_ |refine A2 ?_ |refine A3 ?_ |refine A5 ?_ |((first |refine rR (fun K kp hK hkp=>?_) |refine oR [0] ec ?_ |refine oR [0] xc ?_ |refine iG ?_);simp(implicitDefEqProofs:=false) (maxSteps:=2000000) (disch:=omega) only[go_sem];(repeat' (first |(refine hK _ ?_;clear hK hkp kp K) |(with_reducible refine And.intro ?_ ?_) |omega))) |((first |refine aG (fun h=>?_) (fun h=>?_) |refine aD (fun h=>?_) (fun h=>?_) |refine aX (fun h=>?_) (fun h=>?_))<;>simp only[h]) |refine A0 rfl ?_ |refine A1 rfl ?_ |((refine A4 rfl (fun h=>?_) (fun h=>?_)<;>try simp only[AK] at h)<;>(try (exfalso;omega))) |refine A7 ?_));(refine AB (by(simp(implicitDefEqProofs:=false) (maxSteps:=2000000) (disch:=omega) only[go_sem,results32]);rfl) ?_;refine(AC hE [0,1] rfl ?_ ?_).s<;>simp[AI,AH,lk,ren,renL,A9,AG])
end Go.AM
namespace Go.AM
open Go Go.RowKit
open Go.Proofs.YtmgddlckgpfccaaDoor (OP Ac AY AR str)
attribute [local irreducible] AWP BS
theorem GY {l:List TK0}{f p:Nat}{out:List V}:Jq l (f+1) p out=if out.length=6 then BP l p 10
 else (Bj l p).bind fun o p=>match o with
  |none=>BP l p 6
  |some v=>if AP l p 4 Au=true then Jq l f (p+1) (out++[v]) else (Ar l p AW).bind fun _ p'=> .ok (out++[v]) p':=by rw[Jq];rfl
set_option maxHeartbeats 16000000 in
theorem Pg (G:List (Nat×List Value)){l:List TK0}(hk: ∀t ∈ l,TokOk t)(hl:l.length≤100)(p:Nat)(hp:p≤l.length):
  Con prog G 28 [.p 0 0 0] (A_ l p) 1 (PQ (Ix l p) (fun q _=> .ro true 3 (q.map eV)) (fun _ p=>A_ l p) 1) (PP (Ix l p) 1):=by
 have mc:=H1 G l p Ax hl (by omega);cases ho:AP l p 4 Ax
 ·have hm:Ar l p Ax= .bad (if l.length≤p then 7 else 6) p:=by rw[Ar,ho];rfl
  have mc:=mc.bad hm;refine Con.of_bad (e:=if l.length≤p then 7 else 6) (p:=p) (by rw[Ix,hm];rfl) ?_;generalize (if l.length≤p then (7:Int) else 6)=e at mc ⊢;simp only[Ax,str] at mc;unfold A_ at mc ⊢;refine A8 func28 rfl (by kernel_rfl) (of_decide_eq_true (by kernel_rfl)) ?_;intro E hG hE;subst hG;simp only[Ai];(repeat' (first |refine A6 ?_ |refine A2 ?_ |refine A3 ?_ |refine A5 ?_ |((first |refine rR (fun K kp hK hkp=>?_) |refine iG ?_);simp(implicitDefEqProofs:=false) (maxSteps:=2000000) (disch:=omega) only[go_sem];(repeat' (first |(refine hK _ ?_;clear hK hkp kp K) |(with_reducible refine And.intro ?_ ?_) |omega))) |refine oP [0] mc ?_ |((first |refine aG (fun h=>?_) (fun h=>?_) |refine aD (fun h=>?_) (fun h=>?_) |refine aX (fun h=>?_) (fun h=>?_))<;>simp only[h]) |refine A0 rfl ?_ |refine A1 rfl ?_ |((refine A4 rfl (fun h=>?_) (fun h=>?_)<;>try simp only[AK] at h)<;>(try (exfalso;omega))) |refine A7 ?_));(refine hkp _ _ ?_;clear hkp hK kp K;refine AD ?_;refine AC hE [0] rfl ?_ ?_<;>simp[AH,lk,ren,renL,A9,AG,Aa])
 have hlt:=Aq ho
 have hm:Ar l p Ax= .ok () (p+1):=by rw[Ar,if_pos ho]
 have mc:=mc.ok hm;(try dsimp only at mc);simp only[Ax,str] at mc
 have hx:Jq l 7 (p+1) []=Ix l p:=by rw[Ix,hm];rfl
 generalize Ix l p=x at hx ⊢;unfold A_ at mc;refine A8 func28 rfl (by kernel_rfl) (of_decide_eq_true (by kernel_rfl)) ?_;intro E hG hE;subst hG;simp only[Ai];(repeat' (first |refine A6 ?_ |refine A2 ?_ |refine A3 ?_ |refine A5 ?_ |((first |refine rR (fun K kp hK hkp=>?_) |refine oR [0] mc ?_ |refine iG ?_);simp(implicitDefEqProofs:=false) (maxSteps:=2000000) (disch:=omega) only[go_sem];(repeat' (first |(refine hK _ ?_;clear hK hkp kp K) |(with_reducible refine And.intro ?_ ?_) |omega))) |((first |refine aG (fun h=>?_) (fun h=>?_) |refine aD (fun h=>?_) (fun h=>?_) |refine aX (fun h=>?_) (fun h=>?_))<;>simp only[h]) |refine A0 rfl ?_ |refine A1 rfl ?_ |((refine A4 rfl (fun h=>?_) (fun h=>?_)<;>try simp only[AK] at h)<;>(try (exfalso;omega))) |refine A7 ?_));(refine AWP.emb (GD 3 71 3 ?_) ?_;(·rfl);dsimp only);refine Ap (fun z:Nat×Nat×List V=>⟨[(3,.s 1 0 z.2.2.length),(0,.p 0 0 0)],[(0,.box 43 [.ro true 3 (l.map eT),.r (.int .i64 z.2.1),.any]),(1,.lst 71 3 (z.2.2.map eV))],2⟩) (fun z=>1≤z.1∧z.1+z.2.2.length=7∧Jq l z.1 z.2.1 z.2.2=x∧z.2.1≤l.length) (fun z=>z.1) (7,p+1,[]) ?_ ?_ ?_
 ·exact⟨by omega,rfl,hx,hlt⟩
 ·(refine Am hE [0,1] rfl ?_ ?_<;>simp[Bi,AH,lk,ren,renL,A9,AG]<;>(try omega))
 clear mc hx hm;rintro⟨g,p1,vs⟩ ⟨h0,h1,h2,h3⟩;dsimp only at h0 h1 h2 h3 ⊢
 cases g with
 |zero=>omega
 |succ g=>
 rw[GY] at h2
 by_cases h6:vs.length=6
 ·rw[if_pos h6] at h2;subst h2
  have d1:((vs.length:Int)==6)=true:=by simp only[beq_iff_eq];omega
  have gc:=DV E.G l p1 10 hl (by omega);unfold BP;generalize (if l.length≤p1 then (7:Int) else 10)=e at gc ⊢;unfold A_ at gc ⊢;(repeat' (first |refine A6 ?_ |refine A2 ?_ |refine A3 ?_ |refine A5 ?_ |((first |refine rR (fun K kp hK hkp=>?_) |refine iG ?_);simp(implicitDefEqProofs:=false) (maxSteps:=2000000) (disch:=omega) only[go_sem,d1];(repeat' (first |(refine hK _ ?_;clear hK hkp kp K) |(with_reducible refine And.intro ?_ ?_) |omega))) |refine oP [0] gc ?_ |((first |refine aG (fun h=>?_) (fun h=>?_) |refine aD (fun h=>?_) (fun h=>?_) |refine aX (fun h=>?_) (fun h=>?_))<;>simp only[h]) |refine A0 rfl ?_ |refine A1 rfl ?_ |((refine A4 rfl (fun h=>?_) (fun h=>?_)<;>try simp only[AK] at h)<;>(try (exfalso;omega))) |refine A7 ?_));(refine hkp _ _ ?_;clear hkp hK kp K;refine AO (AD ?_);refine AC hE [0] rfl ?_ ?_<;>simp[AH,lk,ren,renL,A9,AG,Aa])
 rw[if_neg h6] at h2
 have d1:((vs.length:Int)==6)=false:=by simp only[beq_eq_false_iff_ne,ne_eq];omega
 have lc:=Uf E.G l p1 hk hl (by omega)
 cases hlit:Bj l p1 with
 |bad e p2=>
  rw[hlit] at h2 lc;cases h2;have lc:=lc.bad rfl;unfold A_ at lc ⊢;(repeat' (first |refine A6 ?_ |refine A2 ?_ |refine A3 ?_ |refine A5 ?_ |((first |refine rR (fun K kp hK hkp=>?_) |refine iG ?_);simp(implicitDefEqProofs:=false) (maxSteps:=2000000) (disch:=omega) only[go_sem,d1];(repeat' (first |(refine hK _ ?_;clear hK hkp kp K) |(with_reducible refine And.intro ?_ ?_) |omega))) |refine oP [0] lc ?_ |((first |refine aG (fun h=>?_) (fun h=>?_) |refine aD (fun h=>?_) (fun h=>?_) |refine aX (fun h=>?_) (fun h=>?_))<;>simp only[h]) |refine A0 rfl ?_ |refine A1 rfl ?_ |((refine A4 rfl (fun h=>?_) (fun h=>?_)<;>try simp only[AK] at h)<;>(try (exfalso;omega))) |refine A7 ?_));(refine hkp _ _ ?_;clear hkp hK kp K;refine AO (AD ?_);refine AC hE [0] rfl ?_ ?_<;>simp[AH,lk,ren,renL,A9,AG,Aa])
 |ok o p2=>
  have hok:=HU hlit;rw[hlit] at h2 lc;have lc:=lc.ok rfl;(try dsimp only at lc);dsimp only[PR.bind] at h2
  cases o with
  |none=>
   rcases hok with ⟨_,rfl⟩ |⟨_,h,_⟩
   rotate_left
   ·cases h
   dsimp only at h2;subst h2;have gc:=DV E.G l p2 6 hl (by omega);unfold BP;generalize (if l.length≤p2 then (7:Int) else 6)=e at gc ⊢;simp only[Cy,eV] at lc;unfold A_ at gc lc ⊢;(repeat' (first |refine A6 ?_ |refine A2 ?_ |refine A3 ?_ |refine A5 ?_ |((first |refine rR (fun K kp hK hkp=>?_) |refine oR [0] lc ?_ |refine iG ?_);simp(implicitDefEqProofs:=false) (maxSteps:=2000000) (disch:=omega) only[go_sem,d1,eV];(repeat' (first |(refine hK _ ?_;clear hK hkp kp K) |(with_reducible refine And.intro ?_ ?_) |omega))) |refine oP [0] gc ?_ |((first |refine aG (fun h=>?_) (fun h=>?_) |refine aD (fun h=>?_) (fun h=>?_) |refine aX (fun h=>?_) (fun h=>?_))<;>simp only[h]) |refine A0 rfl ?_ |refine A1 rfl ?_ |((refine A4 rfl (fun h=>?_) (fun h=>?_)<;>try simp only[AK] at h)<;>(try (exfalso;omega))) |refine A7 ?_));(refine hkp _ _ ?_;clear hkp hK kp K;refine AO (AD ?_);refine AC hE [0] rfl ?_ ?_<;>simp[AH,lk,ren,renL,A9,AG,Aa])
  |some v=>
   rcases hok with ⟨h,_⟩ |⟨_,_,h4,h5⟩
   ·cases h
   dsimp only at h2;simp only[Cy,eV] at lc;cases hc:AP l p2 4 Au
   ·have ec:=AU E.G l p2 4 Au hl (by omega) hc
    simp only[Au,str] at ec;rw[hc] at h2;simp only[Bool.false_eq_true,if_false] at h2;have mc:=H1 E.G l p2 AW hl (by omega);cases ho2:AP l p2 4 AW
    ·have hm:Ar l p2 AW= .bad (if l.length≤p2 then 7 else 6) p2:=by rw[Ar,ho2];rfl
     have mc:=mc.bad hm;rw[hm] at h2;cases h2;generalize (if l.length≤p2 then (7:Int) else 6)=e at mc ⊢;simp only[AW,str] at mc;unfold A_ at mc lc ec ⊢;(repeat' (first |refine A6 ?_ |refine A2 ?_ |refine A3 ?_ |refine A5 ?_ |((first |refine rR (fun K kp hK hkp=>?_) |refine oR [0] lc ?_ |refine oR [0] ec ?_ |refine iG ?_);simp(implicitDefEqProofs:=false) (maxSteps:=2000000) (disch:=omega) only[go_sem,d1,eV];(repeat' (first |(refine hK _ ?_;clear hK hkp kp K) |(with_reducible refine And.intro ?_ ?_) |omega))) |refine oP [0] mc ?_ |((first |refine aG (fun h=>?_) (fun h=>?_) |refine aD (fun h=>?_) (fun h=>?_) |refine aX (fun h=>?_) (fun h=>?_))<;>simp only[h]) |refine A0 rfl ?_ |refine A1 rfl ?_ |((refine A4 rfl (fun h=>?_) (fun h=>?_)<;>try simp only[AK] at h)<;>(try (exfalso;omega))) |refine A7 ?_));(refine hkp _ _ ?_;clear hkp hK kp K;refine AO (AD ?_);refine AC hE [0] rfl ?_ ?_<;>simp[AH,lk,ren,renL,A9,AG,Aa])
    ·have hm:Ar l p2 AW= .ok () (p2+1):=by rw[Ar,if_pos ho2]
     have mc:=mc.ok hm;(try dsimp only at mc);rw[hm] at h2;cases h2;simp only[AW,str] at mc;unfold A_ at mc lc ec ⊢;(repeat' (first |refine A6 ?_ |refine A2 ?_ |refine A3 ?_ |refine A5 ?_ |((first |refine rR (fun K kp hK hkp=>?_) |refine oR [0] lc ?_ |refine oR [0] ec ?_ |refine oR [0] mc ?_ |refine iG ?_);simp(implicitDefEqProofs:=false) (maxSteps:=2000000) (disch:=omega) only[go_sem,d1,eV];(repeat' (first |(refine hK _ ?_;clear hK hkp kp K) |(with_reducible refine And.intro ?_ ?_) |omega))) |((first |refine aG (fun h=>?_) (fun h=>?_) |refine aD (fun h=>?_) (fun h=>?_) |refine aX (fun h=>?_) (fun h=>?_))<;>simp only[h]) |refine A0 rfl ?_ |refine A1 rfl ?_ |((refine A4 rfl (fun h=>?_) (fun h=>?_)<;>try simp only[AK] at h)<;>(try (exfalso;omega))) |refine A7 ?_))
     have tk:(vs.map eV++[[AV.r (.int .i64 v.k),AV.r (.int .i64 v.n),AV.r (.string v.s)]]).take (vs.length+1)=(vs++[v]).map eV:=by
      rw[List.take_of_length_le (by simp),List.map_append];rfl
     (try dsimp only);refine Bg ?_;(try dsimp only);(refine AB (by(simp(implicitDefEqProofs:=false) (maxSteps:=2000000) (disch:=omega) only[go_sem,results28,tk]);rfl) ?_;refine CJ (by simp only[AI];simp(implicitDefEqProofs:=false) (maxSteps:=2000000) (disch:=omega) only[go_sem,tk];rfl) ?_;refine(AC hE [0] rfl ?_ ?_).s<;>simp[AI,AH,lk,ren,renL,A9,AG,tk])
   ·have hlt2:=Aq hc
    have ec:=C0 E.G l p2 4 Au hl (by omega) hc;simp only[Au,str] at ec;rw[hc,if_pos rfl] at h2;unfold A_ at lc ec ⊢;(repeat' (first |refine A6 ?_ |refine A2 ?_ |refine A3 ?_ |refine A5 ?_ |((first |refine rR (fun K kp hK hkp=>?_) |refine oR [0] lc ?_ |refine oR [0] ec ?_ |refine iG ?_);simp(implicitDefEqProofs:=false) (maxSteps:=2000000) (disch:=omega) only[go_sem,d1,eV];(repeat' (first |(refine hK _ ?_;clear hK hkp kp K) |(with_reducible refine And.intro ?_ ?_) |omega))) |((first |refine aG (fun h=>?_) (fun h=>?_) |refine aD (fun h=>?_) (fun h=>?_) |refine aX (fun h=>?_) (fun h=>?_))<;>simp only[h]) |refine A0 rfl ?_ |refine A1 rfl ?_ |((refine A4 rfl (fun h=>?_) (fun h=>?_)<;>try simp only[AK] at h)<;>(try (exfalso;omega))) |refine A7 ?_));refine LT ?_
    ((first |(refine Ba ((g,p2+1,vs++[v])) ?_ ?_ ?_) |(refine BT ((g,p2+1,vs++[v])) ?_ ?_ ?_) |(refine nextE ((g,p2+1,vs++[v])) ?_ ?_ ?_));rotate_left;(·(try dsimp only);(first |omega |(simp only[List.length_drop,List.length_cons,List.length_append];omega) |(simp;done) |(simp;omega)));(·(refine Am hE [0,4] rfl ?_ ?_<;>simp[Bi,AH,lk,ren,renL,A9,AG,eV]<;>(try omega))))
    refine⟨by omega,by rw[List.length_append];simp only[List.length_cons,List.length_nil];omega,h2,hlt2⟩
end Go.AM
namespace Go.AM
open Go Go.RowKit
open Go.Proofs.YtmgddlckgpfccaaDoor (OP Ac AY AR str)
attribute [local irreducible] AWP BS
theorem Fq {l:List TK0}{f p:Nat}{out:List CO}:Fb l (f+1) p out=if out.length=6 then BP l p 10
 else (D8 l p).bind fun s p=>
  if out.any (fun x=>x.nm.toList==s.toList)=true then BP l (p - 1) 9
  else if FR l p=0 then BP l p 6
  else if AP l (p+1) 4 Au=true then Fb l f (p+2) (out++[⟨s,FR l p⟩])
  else (Ar l (p+1) AW).bind fun _ p'=> .ok (out++[⟨s,FR l p⟩]) p':=by rw[Fb]
theorem Jz {l:List TK0}{p:Nat}{k:Int}{a b:ByteArray}(h:a.toList≠b.toList)(ha:AP l p k a=true):AP l p k b=false:=by
 unfold AP at ha ⊢
 cases hx:l[p]? with
 |none=>rfl
 |some t=>
  rw[hx] at ha;dsimp only at ha ⊢;simp only[Bool.and_eq_true,beq_iff_eq] at ha;rw[show(t.s.toList==b.toList)=false by simp only[beq_eq_false_iff_ne,ne_eq];rw[ha.2];exact h];exact Bool.and_false _
theorem KN (u:Bool)(c:CO)(G:List (Nat×List Value))(x:CO):Con prog G 49 [.agg (eC x),.re u (eC c) 0] [] 0 (Is (.r (.bool (Hj c x))) [] 0) No:=by
 refine A8 func49 rfl (by kernel_rfl) (of_decide_eq_true (by kernel_rfl)) ?_;intro E hG hE;subst hG;simp only[Ai];(repeat' (first |refine A6 ?_ |refine A2 ?_ |refine A3 ?_ |refine A5 ?_ |((first |refine rR (fun K kp hK hkp=>?_) |refine iG ?_);simp(implicitDefEqProofs:=false) (maxSteps:=2000000) (disch:=omega) only[go_sem,eC];(repeat' (first |(refine hK _ ?_;clear hK hkp kp K) |(with_reducible refine And.intro ?_ ?_) |omega))) |((first |refine aG (fun h=>?_) (fun h=>?_) |refine aD (fun h=>?_) (fun h=>?_) |refine aX (fun h=>?_) (fun h=>?_))<;>simp only[h]) |refine A0 rfl ?_ |refine A1 rfl ?_ |((refine A4 rfl (fun h=>?_) (fun h=>?_)<;>try simp only[AK] at h)<;>(try (exfalso;omega))) |refine A7 ?_));(refine AB (by(simp(implicitDefEqProofs:=false) (maxSteps:=2000000) (disch:=omega) only[go_sem,results49,Hj]);rfl) ?_;refine eN hE ?_;simp[AI,ren,renL,Hj])
def Ot (l:List TK0)(p k:Nat):Int:=if k≤1 then 0 else if AP l p 1 (str [66,79,79,76])=true then 1 else if k=2 then 0 else if AP l p 1 (str [73,78,84])=true then 2 else if k=3 then 0 else if AP l p 1 (str [84,69,88,84])=true then 3 else 0
theorem T4 (l:List TK0)(p:Nat):Ot l p 4=FR l p:=by simp[Ot,FR]
theorem I9 {l:List TK0}{p k:Nat}{s:ByteArray}(hs:GR[k]?=some s)(hk:0<k):Ot l p (k+1)=if AP l p 1 s=true then (k:Int) else Ot l p k:=by
 have e: ∀a:List UInt8,(str a).toList=a:=fun a=>by rw[ByteArray.toList_eq];rfl
 rcases k with _ |_ |_ |_ |k
 ·omega
 ·cases hs;simp[Ot]
 ·cases hs
  simp only[Ot]
  by_cases h:AP l p 1 (str [73,78,84])=true
  ·have:=Jz (b:=str [66,79,79,76]) (by rw[e,e];decide) h
   simp[h,this]
  ·simp[h]
 ·cases hs
  simp only[Ot]
  by_cases h:AP l p 1 (str [84,69,88,84])=true
  ·have h1:=Jz (b:=str [66,79,79,76]) (by rw[e,e];decide) h
   have h2:=Jz (b:=str [73,78,84]) (by rw[e,e];decide) h;simp[h,h1,h2]
  ·simp[h]
 ·simp[GR] at hs
set_option maxHeartbeats 16000000 in
theorem LR {G:List (Nat×List Value)}(T:TabsP G){l:List TK0}(hk: ∀t ∈ l,TokOk t)(hl:l.length≤100)(p:Nat)(hp:p≤l.length):
  Con prog G 27 [.p 0 0 0] (A_ l p) 1 (PQ (Fa l p) (fun q _=> .ro true 2 (q.map eC)) (fun _ p=>A_ l p) 1) (PP (Fa l p) 1):=by
 have mc:=H1 G l p Ax hl (by omega);cases ho:AP l p 4 Ax
 ·have hm:Ar l p Ax= .bad (if l.length≤p then 7 else 6) p:=by rw[Ar,ho];rfl
  have mc:=mc.bad hm;refine Con.of_bad (e:=if l.length≤p then 7 else 6) (p:=p) (by rw[Fa,hm];rfl) ?_;generalize (if l.length≤p then (7:Int) else 6)=e at mc ⊢;simp only[Ax,str] at mc;unfold A_ at mc ⊢;refine A8 func27 rfl (by kernel_rfl) (of_decide_eq_true (by kernel_rfl)) ?_;intro E hG hE;subst hG;simp only[Ai];(repeat' (first |refine A6 ?_ |refine A2 ?_ |refine A3 ?_ |refine A5 ?_ |((first |refine rR (fun K kp hK hkp=>?_) |refine iG ?_);simp(implicitDefEqProofs:=false) (maxSteps:=2000000) (disch:=omega) only[go_sem];(repeat' (first |(refine hK _ ?_;clear hK hkp kp K) |(with_reducible refine And.intro ?_ ?_) |omega))) |refine oP [0] mc ?_ |((first |refine aG (fun h=>?_) (fun h=>?_) |refine aD (fun h=>?_) (fun h=>?_) |refine aX (fun h=>?_) (fun h=>?_))<;>simp only[h]) |refine A0 rfl ?_ |refine A1 rfl ?_ |((refine A4 rfl (fun h=>?_) (fun h=>?_)<;>try simp only[AK] at h)<;>(try (exfalso;omega))) |refine A7 ?_));(refine hkp _ _ ?_;clear hkp hK kp K;refine AD ?_;refine AC hE [0] rfl ?_ ?_<;>simp[AH,lk,ren,renL,A9,AG,Aa])
 have hlt:=Aq ho
 have hm:Ar l p Ax= .ok () (p+1):=by rw[Ar,if_pos ho]
 have mc:=mc.ok hm;(try dsimp only at mc);simp only[Ax,str] at mc
 have hx:Fb l 7 (p+1) []=Fa l p:=by rw[Fa,hm];rfl
 generalize Fa l p=x at hx ⊢;unfold A_ at mc;have Tt:=T.types;simp only[GR,List.map_cons,List.map_nil,str] at Tt;refine A8 func27 rfl (by kernel_rfl) (of_decide_eq_true (by kernel_rfl)) ?_;intro E hG hE;subst hG;simp only[Ai];(repeat' (first |refine A6 ?_ |refine A2 ?_ |refine A3 ?_ |refine A5 ?_ |((first |refine rR (fun K kp hK hkp=>?_) |refine oR [0] mc ?_ |refine iG ?_);simp(implicitDefEqProofs:=false) (maxSteps:=2000000) (disch:=omega) only[go_sem];(repeat' (first |(refine hK _ ?_;clear hK hkp kp K) |(with_reducible refine And.intro ?_ ?_) |omega))) |((first |refine aG (fun h=>?_) (fun h=>?_) |refine aD (fun h=>?_) (fun h=>?_) |refine aX (fun h=>?_) (fun h=>?_))<;>simp only[h]) |refine A0 rfl ?_ |refine A1 rfl ?_ |((refine A4 rfl (fun h=>?_) (fun h=>?_)<;>try simp only[AK] at h)<;>(try (exfalso;omega))) |refine A7 ?_));(refine AWP.emb (GD 3 69 2 ?_) ?_;(·rfl);dsimp only);refine Ap (fun z:Nat×Nat×List CO=>⟨[(3,.s 1 0 z.2.2.length),(0,.p 0 0 0)],[(0,.box 43 [.ro true 3 (l.map eT),.r (.int .i64 z.2.1),.any]),(1,.lst 69 2 (z.2.2.map eC))],2⟩) (fun z=>1≤z.1∧z.1+z.2.2.length=7∧Fb l z.1 z.2.1 z.2.2=x∧z.2.1≤l.length) (fun z=>z.1) (7,p+1,[]) ?_ ?_ ?_
 ·exact⟨by omega,rfl,hx,hlt⟩
 ·(refine Am hE [0,1] rfl ?_ ?_<;>simp[Bi,AH,lk,ren,renL,A9,AG]<;>(try omega))
 clear mc hx hm;rintro⟨g,p1,cs⟩ ⟨h0,h1,h2,h3⟩;dsimp only at h0 h1 h2 h3 ⊢
 cases g with
 |zero=>omega
 |succ g=>
 rw[Fq] at h2
 by_cases h6:cs.length=6
 ·rw[if_pos h6] at h2;subst h2
  have d1:((cs.length:Int)==6)=true:=by simp only[beq_iff_eq];omega
  have gc:=DV E.G l p1 10 hl (by omega);unfold BP;generalize (if l.length≤p1 then (7:Int) else 10)=e at gc ⊢;unfold A_ at gc ⊢;(repeat' (first |refine A6 ?_ |refine A2 ?_ |refine A3 ?_ |refine A5 ?_ |((first |refine rR (fun K kp hK hkp=>?_) |refine iG ?_);simp(implicitDefEqProofs:=false) (maxSteps:=2000000) (disch:=omega) only[go_sem,d1];(repeat' (first |(refine hK _ ?_;clear hK hkp kp K) |(with_reducible refine And.intro ?_ ?_) |omega))) |refine oP [0] gc ?_ |((first |refine aG (fun h=>?_) (fun h=>?_) |refine aD (fun h=>?_) (fun h=>?_) |refine aX (fun h=>?_) (fun h=>?_))<;>simp only[h]) |refine A0 rfl ?_ |refine A1 rfl ?_ |((refine A4 rfl (fun h=>?_) (fun h=>?_)<;>try simp only[AK] at h)<;>(try (exfalso;omega))) |refine A7 ?_));(refine hkp _ _ ?_;clear hkp hK kp K;refine AO (AD ?_);refine AC hE [0] rfl ?_ ?_<;>simp[AH,lk,ren,renL,A9,AG,Aa])
 rw[if_neg h6] at h2
 have d1:((cs.length:Int)==6)=false:=by simp only[beq_eq_false_iff_ne,ne_eq];omega
 have nc:=FW T.toTabs l p1 hl (by omega) (fun t ht=>(hk t ht).s)
 cases hnm:D8 l p1 with
 |bad e p2=>
  rw[hnm] at h2 nc;cases h2;have nc:=nc.bad rfl;unfold A_ at nc ⊢;(repeat' (first |refine A6 ?_ |refine A2 ?_ |refine A3 ?_ |refine A5 ?_ |((first |refine rR (fun K kp hK hkp=>?_) |refine iG ?_);simp(implicitDefEqProofs:=false) (maxSteps:=2000000) (disch:=omega) only[go_sem,d1];(repeat' (first |(refine hK _ ?_;clear hK hkp kp K) |(with_reducible refine And.intro ?_ ?_) |omega))) |refine oP [0] nc ?_ |((first |refine aG (fun h=>?_) (fun h=>?_) |refine aD (fun h=>?_) (fun h=>?_) |refine aX (fun h=>?_) (fun h=>?_))<;>simp only[h]) |refine A0 rfl ?_ |refine A1 rfl ?_ |((refine A4 rfl (fun h=>?_) (fun h=>?_)<;>try simp only[AK] at h)<;>(try (exfalso;omega))) |refine A7 ?_));(refine hkp _ _ ?_;clear hkp hK kp K;refine AO (AD ?_);refine AC hE [0] rfl ?_ ?_<;>simp[AH,lk,ren,renL,A9,AG,Aa])
 |ok s p2=>
  obtain⟨rfl,hlt1⟩:=Co hnm;rw[hnm] at h2 nc;have nc:=nc.ok rfl;(try dsimp only at nc);dsimp only[PR.bind] at h2;have fc:=GG E.G false cs 49 [.re false (eC ⟨s,0⟩) 0] (Hj ⟨s,0⟩) (by omega) (by simp[D7,Eg]) (by simp[renL,ren]) (fun G x=>KN false ⟨s,0⟩ G x);simp only[eC] at fc;cases han:cs.any (Hj ⟨s,0⟩);rotate_left
  ·rw[han] at fc
   change (if cs.any (Hj ⟨s,0⟩)=true then _ else _)=x at h2;rw[if_pos han] at h2;subst h2;have gc:=DV E.G l p1 9 hl (by omega);rw[Nat.add_sub_cancel];unfold BP;generalize (if l.length≤p1 then (7:Int) else 9)=e at gc ⊢
   have z1:((p1+1:Nat):Int) - 1=(p1:Int):=by omega
   unfold A_ at gc nc ⊢;(repeat' (first |refine A6 ?_ |refine A2 ?_ |refine A3 ?_ |refine A5 ?_ |((first |refine rR (fun K kp hK hkp=>?_) |refine oR [0] nc ?_ |refine cR fc ?_ |refine iG ?_);simp(implicitDefEqProofs:=false) (maxSteps:=2000000) (disch:=omega) only[go_sem,d1,z1,eC];(repeat' (first |(refine hK _ ?_;clear hK hkp kp K) |(with_reducible refine And.intro ?_ ?_) |omega))) |refine oP [0] gc ?_ |((first |refine aG (fun h=>?_) (fun h=>?_) |refine aD (fun h=>?_) (fun h=>?_) |refine aX (fun h=>?_) (fun h=>?_))<;>simp only[h]) |refine A0 rfl ?_ |refine A1 rfl ?_ |((refine A4 rfl (fun h=>?_) (fun h=>?_)<;>try simp only[AK] at h)<;>(try (exfalso;omega))) |refine A7 ?_));(refine hkp _ _ ?_;clear hkp hK kp K;refine AO (AD ?_);refine AC hE [0] rfl ?_ ?_<;>simp[AH,lk,ren,renL,A9,AG,Aa])
  rw[han] at fc;change (if cs.any (Hj ⟨s,0⟩)=true then _ else _)=x at h2;rw[han] at h2;simp only[Bool.false_eq_true,if_false] at h2;unfold A_ at nc ⊢;(repeat' (first |refine A6 ?_ |refine A2 ?_ |refine A3 ?_ |refine A5 ?_ |((first |refine rR (fun K kp hK hkp=>?_) |refine oR [0] nc ?_ |refine cR fc ?_ |refine iG ?_);simp(implicitDefEqProofs:=false) (maxSteps:=2000000) (disch:=omega) only[go_sem,d1,Tt,eC];(repeat' (first |(refine hK _ ?_;clear hK hkp kp K) |(with_reducible refine And.intro ?_ ?_) |omega))) |((first |refine aG (fun h=>?_) (fun h=>?_) |refine aD (fun h=>?_) (fun h=>?_) |refine aX (fun h=>?_) (fun h=>?_))<;>simp only[h]) |refine A0 rfl ?_ |refine A1 rfl ?_ |((refine A4 rfl (fun h=>?_) (fun h=>?_)<;>try simp only[AK] at h)<;>(try (exfalso;omega))) |refine A7 ?_));refine Ap (fun k:Nat=>⟨[(30,.r (.int .i64 k)),(29,.agg [.r (.string ⟨#[]⟩),.r (.string ⟨#[66,79,79,76]⟩),.r (.string ⟨#[73,78,84]⟩),.r (.string ⟨#[84,69,88,84]⟩)]),(4,.p 2 0 0),(3,.s 1 0 cs.length),(0,.p 0 0 0)],[(0,.box 43 [.ro true 3 (l.map eT),.r (.int .i64 (p1+1:Nat)),.any]),(1,.lst 69 2 (cs.map eC)),(2,.box 69 [.r (.string s),.r (.int .i64 (Ot l (p1+1) k))])],3⟩) (fun k=>k≤4) (fun k=>4 - k) 0 ?_ ?_ ?_
  ·exact Nat.zero_le _
  ·(refine Am hE [0,1,2] rfl ?_ ?_<;>simp[Bi,AH,lk,ren,renL,A9,AG,Ot]<;>(try omega))
  rintro k hk4
  by_cases hk3:k<4
  ·have c0:((0:Nat):Int)=0:=rfl
   have c1:((1:Nat):Int)=1:=rfl;have c2:((2:Nat):Int)=2:=rfl;have c3:((3:Nat):Int)=3:=rfl
   obtain rfl |rfl |rfl |rfl:k=0∨k=1∨k=2∨k=3:=by omega
   ·have k0:Ot l (p1+1) 0=0:=rfl
    have k1:Ot l (p1+1) 1=0:=rfl;(repeat' (first |refine A6 ?_ |refine A2 ?_ |refine A3 ?_ |refine A5 ?_ |((first |refine rR (fun K kp hK hkp=>?_) |refine iG ?_);simp(implicitDefEqProofs:=false) (maxSteps:=2000000) (disch:=omega) only[go_sem,c0,List.getElem?_cons_zero,Nat.zero_mul];(repeat' (first |(refine hK _ ?_;clear hK hkp kp K) |(with_reducible refine And.intro ?_ ?_) |omega))) |((first |refine aG (fun h=>?_) (fun h=>?_) |refine aD (fun h=>?_) (fun h=>?_) |refine aX (fun h=>?_) (fun h=>?_))<;>simp only[h]) |refine A0 rfl ?_ |refine A1 rfl ?_ |((refine A4 rfl (fun h=>?_) (fun h=>?_)<;>try simp only[AK] at h)<;>(try (exfalso;omega))) |refine A7 ?_))
    ((first |(refine Ba (1) ?_ ?_ ?_) |(refine BT (1) ?_ ?_ ?_) |(refine nextE (1) ?_ ?_ ?_));rotate_left;(·(try dsimp only);(first |omega |(simp only[List.length_drop,List.length_cons,List.length_append];omega) |(simp;done) |(simp;omega)));(·(refine Am hE [0,1,2] rfl ?_ ?_<;>simp[Bi,AH,lk,ren,renL,A9,AG,k0,k1]<;>(try omega))))
    omega
   ·have ks:=I9 (l:=l) (p:=p1+1) (k:=1) (s:=str [66,79,79,76]) rfl (by omega)
    have ic:=Oy E.G l (p1+1) 1 (str [66,79,79,76]) hl (by omega);cases hb:AP l (p1+1) 1 (str [66,79,79,76])
    ·rw[hb] at ks ic
     simp only[Bool.false_eq_true,if_false,Nat.reduceAdd] at ks;simp only[str] at ic;unfold A_ at ic;(repeat' (first |refine A6 ?_ |refine A2 ?_ |refine A3 ?_ |refine A5 ?_ |((first |refine rR (fun K kp hK hkp=>?_) |refine oR [0] ic ?_ |refine iG ?_);simp(implicitDefEqProofs:=false) (maxSteps:=2000000) (disch:=omega) only[go_sem,c1,List.getElem?_cons_zero,List.getElem?_cons_succ];(repeat' (first |(refine hK _ ?_;clear hK hkp kp K) |(with_reducible refine And.intro ?_ ?_) |omega))) |((first |refine aG (fun h=>?_) (fun h=>?_) |refine aD (fun h=>?_) (fun h=>?_) |refine aX (fun h=>?_) (fun h=>?_))<;>simp only[h]) |refine A0 rfl ?_ |refine A1 rfl ?_ |((refine A4 rfl (fun h=>?_) (fun h=>?_)<;>try simp only[AK] at h)<;>(try (exfalso;omega))) |refine A7 ?_))
     ((first |(refine Ba (2) ?_ ?_ ?_) |(refine BT (2) ?_ ?_ ?_) |(refine nextE (2) ?_ ?_ ?_));rotate_left;(·(try dsimp only);(first |omega |(simp only[List.length_drop,List.length_cons,List.length_append];omega) |(simp;done) |(simp;omega)));(·(refine Am hE [0,1,2] rfl ?_ ?_<;>simp[Bi,AH,lk,ren,renL,A9,AG,ks]<;>(try omega))))
     omega
    ·rw[hb] at ks ic
     simp only[if_true,Nat.reduceAdd] at ks;simp only[str] at ic;unfold A_ at ic;(repeat' (first |refine A6 ?_ |refine A2 ?_ |refine A3 ?_ |refine A5 ?_ |((first |refine rR (fun K kp hK hkp=>?_) |refine oR [0] ic ?_ |refine iG ?_);simp(implicitDefEqProofs:=false) (maxSteps:=2000000) (disch:=omega) only[go_sem,c1,List.getElem?_cons_zero,List.getElem?_cons_succ];(repeat' (first |(refine hK _ ?_;clear hK hkp kp K) |(with_reducible refine And.intro ?_ ?_) |omega))) |((first |refine aG (fun h=>?_) (fun h=>?_) |refine aD (fun h=>?_) (fun h=>?_) |refine aX (fun h=>?_) (fun h=>?_))<;>simp only[h]) |refine A0 rfl ?_ |refine A1 rfl ?_ |((refine A4 rfl (fun h=>?_) (fun h=>?_)<;>try simp only[AK] at h)<;>(try (exfalso;omega))) |refine A7 ?_))
     ((first |(refine Ba (2) ?_ ?_ ?_) |(refine BT (2) ?_ ?_ ?_) |(refine nextE (2) ?_ ?_ ?_));rotate_left;(·(try dsimp only);(first |omega |(simp only[List.length_drop,List.length_cons,List.length_append];omega) |(simp;done) |(simp;omega)));(·(refine Am hE [0,1,2] rfl ?_ ?_<;>simp[Bi,AH,lk,ren,renL,A9,AG,ks]<;>(try omega))))
     omega
   ·have ks:=I9 (l:=l) (p:=p1+1) (k:=2) (s:=str [73,78,84]) rfl (by omega)
    have ic:=Oy E.G l (p1+1) 1 (str [73,78,84]) hl (by omega);cases hb:AP l (p1+1) 1 (str [73,78,84])
    ·rw[hb] at ks ic
     simp only[Bool.false_eq_true,if_false,Nat.reduceAdd] at ks;simp only[str] at ic;unfold A_ at ic;(repeat' (first |refine A6 ?_ |refine A2 ?_ |refine A3 ?_ |refine A5 ?_ |((first |refine rR (fun K kp hK hkp=>?_) |refine oR [0] ic ?_ |refine iG ?_);simp(implicitDefEqProofs:=false) (maxSteps:=2000000) (disch:=omega) only[go_sem,c2,List.getElem?_cons_zero,List.getElem?_cons_succ];(repeat' (first |(refine hK _ ?_;clear hK hkp kp K) |(with_reducible refine And.intro ?_ ?_) |omega))) |((first |refine aG (fun h=>?_) (fun h=>?_) |refine aD (fun h=>?_) (fun h=>?_) |refine aX (fun h=>?_) (fun h=>?_))<;>simp only[h]) |refine A0 rfl ?_ |refine A1 rfl ?_ |((refine A4 rfl (fun h=>?_) (fun h=>?_)<;>try simp only[AK] at h)<;>(try (exfalso;omega))) |refine A7 ?_))
     ((first |(refine Ba (3) ?_ ?_ ?_) |(refine BT (3) ?_ ?_ ?_) |(refine nextE (3) ?_ ?_ ?_));rotate_left;(·(try dsimp only);(first |omega |(simp only[List.length_drop,List.length_cons,List.length_append];omega) |(simp;done) |(simp;omega)));(·(refine Am hE [0,1,2] rfl ?_ ?_<;>simp[Bi,AH,lk,ren,renL,A9,AG,ks]<;>(try omega))))
     omega
    ·rw[hb] at ks ic
     simp only[if_true,Nat.reduceAdd] at ks;simp only[str] at ic;unfold A_ at ic;(repeat' (first |refine A6 ?_ |refine A2 ?_ |refine A3 ?_ |refine A5 ?_ |((first |refine rR (fun K kp hK hkp=>?_) |refine oR [0] ic ?_ |refine iG ?_);simp(implicitDefEqProofs:=false) (maxSteps:=2000000) (disch:=omega) only[go_sem,c2,List.getElem?_cons_zero,List.getElem?_cons_succ];(repeat' (first |(refine hK _ ?_;clear hK hkp kp K) |(with_reducible refine And.intro ?_ ?_) |omega))) |((first |refine aG (fun h=>?_) (fun h=>?_) |refine aD (fun h=>?_) (fun h=>?_) |refine aX (fun h=>?_) (fun h=>?_))<;>simp only[h]) |refine A0 rfl ?_ |refine A1 rfl ?_ |((refine A4 rfl (fun h=>?_) (fun h=>?_)<;>try simp only[AK] at h)<;>(try (exfalso;omega))) |refine A7 ?_))
     ((first |(refine Ba (3) ?_ ?_ ?_) |(refine BT (3) ?_ ?_ ?_) |(refine nextE (3) ?_ ?_ ?_));rotate_left;(·(try dsimp only);(first |omega |(simp only[List.length_drop,List.length_cons,List.length_append];omega) |(simp;done) |(simp;omega)));(·(refine Am hE [0,1,2] rfl ?_ ?_<;>simp[Bi,AH,lk,ren,renL,A9,AG,ks]<;>(try omega))))
     omega
   ·have ks:=I9 (l:=l) (p:=p1+1) (k:=3) (s:=str [84,69,88,84]) rfl (by omega)
    have ic:=Oy E.G l (p1+1) 1 (str [84,69,88,84]) hl (by omega);cases hb:AP l (p1+1) 1 (str [84,69,88,84])
    ·rw[hb] at ks ic
     simp only[Bool.false_eq_true,if_false,Nat.reduceAdd] at ks;simp only[str] at ic;unfold A_ at ic;(repeat' (first |refine A6 ?_ |refine A2 ?_ |refine A3 ?_ |refine A5 ?_ |((first |refine rR (fun K kp hK hkp=>?_) |refine oR [0] ic ?_ |refine iG ?_);simp(implicitDefEqProofs:=false) (maxSteps:=2000000) (disch:=omega) only[go_sem,c3,List.getElem?_cons_zero,List.getElem?_cons_succ];(repeat' (first |(refine hK _ ?_;clear hK hkp kp K) |(with_reducible refine And.intro ?_ ?_) |omega))) |((first |refine aG (fun h=>?_) (fun h=>?_) |refine aD (fun h=>?_) (fun h=>?_) |refine aX (fun h=>?_) (fun h=>?_))<;>simp only[h]) |refine A0 rfl ?_ |refine A1 rfl ?_ |((refine A4 rfl (fun h=>?_) (fun h=>?_)<;>try simp only[AK] at h)<;>(try (exfalso;omega))) |refine A7 ?_))
     ((first |(refine Ba (4) ?_ ?_ ?_) |(refine BT (4) ?_ ?_ ?_) |(refine nextE (4) ?_ ?_ ?_));rotate_left;(·(try dsimp only);(first |omega |(simp only[List.length_drop,List.length_cons,List.length_append];omega) |(simp;done) |(simp;omega)));(·(refine Am hE [0,1,2] rfl ?_ ?_<;>simp[Bi,AH,lk,ren,renL,A9,AG,ks]<;>(try omega))))
     omega
    ·rw[hb] at ks ic
     simp only[if_true,Nat.reduceAdd] at ks;simp only[str] at ic;unfold A_ at ic;(repeat' (first |refine A6 ?_ |refine A2 ?_ |refine A3 ?_ |refine A5 ?_ |((first |refine rR (fun K kp hK hkp=>?_) |refine oR [0] ic ?_ |refine iG ?_);simp(implicitDefEqProofs:=false) (maxSteps:=2000000) (disch:=omega) only[go_sem,c3,List.getElem?_cons_zero,List.getElem?_cons_succ];(repeat' (first |(refine hK _ ?_;clear hK hkp kp K) |(with_reducible refine And.intro ?_ ?_) |omega))) |((first |refine aG (fun h=>?_) (fun h=>?_) |refine aD (fun h=>?_) (fun h=>?_) |refine aX (fun h=>?_) (fun h=>?_))<;>simp only[h]) |refine A0 rfl ?_ |refine A1 rfl ?_ |((refine A4 rfl (fun h=>?_) (fun h=>?_)<;>try simp only[AK] at h)<;>(try (exfalso;omega))) |refine A7 ?_))
     ((first |(refine Ba (4) ?_ ?_ ?_) |(refine BT (4) ?_ ?_ ?_) |(refine nextE (4) ?_ ?_ ?_));rotate_left;(·(try dsimp only);(first |omega |(simp only[List.length_drop,List.length_cons,List.length_append];omega) |(simp;done) |(simp;omega)));(·(refine Am hE [0,1,2] rfl ?_ ?_<;>simp[Bi,AH,lk,ren,renL,A9,AG,ks]<;>(try omega))))
     omega
  obtain rfl:k=4:=by omega
  rw[T4];have c4:((4:Nat):Int)=4:=rfl
  have htl:FR l (p1+1)≠0→p1+1<l.length:=by
   intro h;unfold FR at h
   repeat' split at h
   all_goals first |exact Aq (by assumption) |exact absurd rfl h
  generalize FR l (p1+1)=ty at h2 htl ⊢
  by_cases hty:ty=0
  ·have d2:(ty==0)=true:=by simpa using hty
   rw[if_pos hty] at h2;subst h2;have gc:=DV E.G l (p1+1) 6 hl (by omega);unfold BP;generalize (if l.length≤p1+1 then (7:Int) else 6)=e at gc ⊢;unfold A_ at gc;(repeat' (first |refine A6 ?_ |refine A2 ?_ |refine A3 ?_ |refine A5 ?_ |((first |refine rR (fun K kp hK hkp=>?_) |refine iG ?_);simp(implicitDefEqProofs:=false) (maxSteps:=2000000) (disch:=omega) only[go_sem,c4,d2];(repeat' (first |(refine hK _ ?_;clear hK hkp kp K) |(with_reducible refine And.intro ?_ ?_) |omega))) |refine oP [0] gc ?_ |((first |refine aG (fun h=>?_) (fun h=>?_) |refine aD (fun h=>?_) (fun h=>?_) |refine aX (fun h=>?_) (fun h=>?_))<;>simp only[h]) |refine A0 rfl ?_ |refine A1 rfl ?_ |((refine A4 rfl (fun h=>?_) (fun h=>?_)<;>try simp only[AK] at h)<;>(try (exfalso;omega))) |refine A7 ?_));(refine hkp _ _ ?_;clear hkp hK kp K;refine AO (AD ?_);refine AC hE [0] rfl ?_ ?_<;>simp[AH,lk,ren,renL,A9,AG,Aa])
  have d2:(ty==0)=false:=by simpa using hty
  rw[if_neg hty] at h2
  have z2:((p1+1:Nat):Int)+1=((p1+1+1:Nat):Int):=by omega
  have hlt9:=htl hty;cases hc:AP l (p1+1+1) 4 Au
  ·have ec:=AU E.G l (p1+1+1) 4 Au hl (by omega) hc
   simp only[Au,str] at ec;rw[hc] at h2;simp only[Bool.false_eq_true,if_false] at h2;have mc:=H1 E.G l (p1+1+1) AW hl (by omega);cases ho2:AP l (p1+1+1) 4 AW
   ·have hm:Ar l (p1+1+1) AW= .bad (if l.length≤p1+1+1 then 7 else 6) (p1+1+1):=by rw[Ar,ho2];rfl
    have mc:=mc.bad hm;rw[hm] at h2;cases h2;generalize (if l.length≤p1+1+1 then (7:Int) else 6)=e at mc ⊢;simp only[AW,str] at mc;unfold A_ at mc ec;(repeat' (first |refine A6 ?_ |refine A2 ?_ |refine A3 ?_ |refine A5 ?_ |((first |refine rR (fun K kp hK hkp=>?_) |refine oR [0] ec ?_ |refine iG ?_);simp(implicitDefEqProofs:=false) (maxSteps:=2000000) (disch:=omega) only[go_sem,c4,d2,z2];(repeat' (first |(refine hK _ ?_;clear hK hkp kp K) |(with_reducible refine And.intro ?_ ?_) |omega))) |refine oP [0] mc ?_ |((first |refine aG (fun h=>?_) (fun h=>?_) |refine aD (fun h=>?_) (fun h=>?_) |refine aX (fun h=>?_) (fun h=>?_))<;>simp only[h]) |refine A0 rfl ?_ |refine A1 rfl ?_ |((refine A4 rfl (fun h=>?_) (fun h=>?_)<;>try simp only[AK] at h)<;>(try (exfalso;omega))) |refine A7 ?_));(refine hkp _ _ ?_;clear hkp hK kp K;refine AO (AD ?_);refine AC hE [0] rfl ?_ ?_<;>simp[AH,lk,ren,renL,A9,AG,Aa])
   ·have hm:Ar l (p1+1+1) AW= .ok () (p1+1+1+1):=by rw[Ar,if_pos ho2]
    have mc:=mc.ok hm;(try dsimp only at mc);rw[hm] at h2;cases h2;simp only[AW,str] at mc;unfold A_ at mc ec;(repeat' (first |refine A6 ?_ |refine A2 ?_ |refine A3 ?_ |refine A5 ?_ |((first |refine rR (fun K kp hK hkp=>?_) |refine oR [0] ec ?_ |refine oR [0] mc ?_ |refine iG ?_);simp(implicitDefEqProofs:=false) (maxSteps:=2000000) (disch:=omega) only[go_sem,c4,d2,z2];(repeat' (first |(refine hK _ ?_;clear hK hkp kp K) |(with_reducible refine And.intro ?_ ?_) |omega))) |((first |refine aG (fun h=>?_) (fun h=>?_) |refine aD (fun h=>?_) (fun h=>?_) |refine aX (fun h=>?_) (fun h=>?_))<;>simp only[h]) |refine A0 rfl ?_ |refine A1 rfl ?_ |((refine A4 rfl (fun h=>?_) (fun h=>?_)<;>try simp only[AK] at h)<;>(try (exfalso;omega))) |refine A7 ?_))
    have tk:(cs.map eC++[[AV.r (.string s),AV.r (.int .i64 ty)]]).take (cs.length+1)=(cs++[(⟨s,ty⟩:CO)]).map eC:=by
     rw[List.take_of_length_le (by simp),List.map_append];rfl
    (try dsimp only);refine Bg ?_;(try dsimp only);(refine AB (by(simp(implicitDefEqProofs:=false) (maxSteps:=2000000) (disch:=omega) only[go_sem,results27,tk]);rfl) ?_;refine CJ (by simp only[AI];simp(implicitDefEqProofs:=false) (maxSteps:=2000000) (disch:=omega) only[go_sem,tk];rfl) ?_;refine(AC hE [0] rfl ?_ ?_).s<;>simp[AI,AH,lk,ren,renL,A9,AG,tk])
  ·have hlt2:=Aq hc
   have ec:=C0 E.G l (p1+1+1) 4 Au hl (by omega) hc;simp only[Au,str] at ec;rw[hc,if_pos rfl] at h2;unfold A_ at ec;(repeat' (first |refine A6 ?_ |refine A2 ?_ |refine A3 ?_ |refine A5 ?_ |((first |refine rR (fun K kp hK hkp=>?_) |refine oR [0] ec ?_ |refine iG ?_);simp(implicitDefEqProofs:=false) (maxSteps:=2000000) (disch:=omega) only[go_sem,c4,d2,z2];(repeat' (first |(refine hK _ ?_;clear hK hkp kp K) |(with_reducible refine And.intro ?_ ?_) |omega))) |((first |refine aG (fun h=>?_) (fun h=>?_) |refine aD (fun h=>?_) (fun h=>?_) |refine aX (fun h=>?_) (fun h=>?_))<;>simp only[h]) |refine A0 rfl ?_ |refine A1 rfl ?_ |((refine A4 rfl (fun h=>?_) (fun h=>?_)<;>try simp only[AK] at h)<;>(try (exfalso;omega))) |refine A7 ?_));refine LT ?_
   ((first |(refine Ba ((g,p1+1+1+1,cs++[⟨s,ty⟩])) ?_ ?_ ?_) |(refine BT ((g,p1+1+1+1,cs++[⟨s,ty⟩])) ?_ ?_ ?_) |(refine nextE ((g,p1+1+1+1,cs++[⟨s,ty⟩])) ?_ ?_ ?_));rotate_left;(·(try dsimp only);(first |omega |(simp only[List.length_drop,List.length_cons,List.length_append];omega) |(simp;done) |(simp;omega)));(·(refine Am hE [0,4] rfl ?_ ?_<;>simp[Bi,AH,lk,ren,renL,A9,AG,eC]<;>(try omega))))
   refine⟨by omega,by rw[List.length_append];simp only[List.length_cons,List.length_nil];omega,h2,hlt2⟩
end Go.AM
namespace Go.AM
open Go Go.RowKit
open Go.Proofs.YtmgddlckgpfccaaDoor (OP Ac AY AR str)
section
variable {P:Program} {E:Env} {N:Nat} {st:AS} {ws:List Nat} {ds:List (Option Nat)} {kp:AV→AS→Prop} {tail rest:List Oper} {K:AS→Prop} {d:Option Nat}
theorem Nx (σ:List Nat){f:Nat}{xs ys:List AV}{oc:List (Nat×Nd)}{res res':AV}{m:Nat}{st':AS}(hc:Con P E.G f ys oc σ.length No (Is res [] m))(hb:Dt σ st xs=some ys)(ho:AH σ st.o oc)(hall: ∀i,i<σ.length→ ∃nd,lk oc i=some nd)
  (hlt: ∀i ∈ σ,i<st.n) (hnd:σ.Nodup) (hbig:st.n≤1000000000) (hw:(∀t ∈ σ,t ∈ ws)∧NQ σ st=true) (hp:PT res) (hr:ren (fw σ st.n) res=res') (hs:{st with o:=Gw σ st.o,n:=st.n+(m - σ.length)}=st') (hk:kp res' st'):My P E N ws ds kp tail rest st K f xs d:=
 ⟨σ,hw.1,GH hc hb ho hall hlt hnd hbig (JF hw.2) (fun _ _ _ h=>h.elim) (fun y o n ⟨h1,h2,h3⟩=>by subst h1 h2 h3 hr hs;exact⟨hp,(fun p hp=>by cases hp),hk⟩)⟩
theorem GB (n j k:Nat){T:TypeId}{c:List AV}(h:lk st.o n=some (.box T c))(hj:c[j]?=some (.r (.slice none 0 0))):Emb E N st (BO st n (.box T (c.set j (.ro true k [])))):=fun th z a w hs=>by
 obtain⟨L,h1,h2,h3⟩:=hs.mem.nds n _ h;obtain⟨hp,cells,fr,g1,g2,g3,g4⟩:=h2;obtain⟨y,hy,hr⟩:=g4.get hj;obtain rfl:=hr.r_inv;refine⟨th,z,hs.say h fun L' hL' hA=>?_⟩;obtain⟨hp',cells',fr',k1,k2,k3,k4⟩:=hA;rw[h1] at hL';cases hL';rw[g1] at k1;cases k1;refine⟨hp',_,_,g1,k2,k3,k4.set_at fun u hu=>?_⟩;rw[hy] at hu;cases hu;exact .nil _ _ _ _ _
end
attribute [local irreducible] AWP BS
def Sh (k:Int)(tab:ByteArray)(names:AV)(count:Bool)(wh:AV)(ord:ByteArray)(down:Bool)(lim:Int):Nd:= .box 29 [.r (.int .i64 k),.r (.string tab),.r (.slice none 0 0),.r (.slice none 0 0),names,.r (.bool count),wh,.r (.string ord),.r (.bool down),.r (.int .i64 lim),.r (.string ⟨#[]⟩),.r (.slice none 0 0)]
theorem Dy {l:List TK0}{f p:Nat}{out:List ByteArray}:Dp l (f+1) p out=if out.length=6 then BP l p 10
 else (D8 l p).bind fun s p=>if AP l p 4 Au=true then Dp l f (p+1) (out++[s]) else .ok (out++[s]) p:=by rw[Dp]
theorem JG (l:List TK0): ∀(f p:Nat)(out r:List ByteArray)(q:Nat),Dp l f p out= .ok r q→q≤l.length
 |0,p,out,r,q,h=>by cases h
 |f+1,p,out,r,q,h=>by
  rw[Dy] at h;split at h
  ·cases h
  cases hn:D8 l p with
  |bad e p1=>rw[hn] at h;cases h
  |ok s p1=>
   obtain⟨rfl,h1⟩:=Co hn;rw[hn] at h;dsimp only[PR.bind] at h;split at h
   ·exact JG l f _ _ _ _ h
   ·cases h;omega
theorem Ew {l:List TK0}{p q:Nat}{s:ByteArray}{u:Unit}(h:Ar l p s= .ok u q):q=p+1∧p<l.length:=by
 unfold Ar at h;split at h
 ·rename_i h1;cases h;exact⟨rfl,Aq h1⟩
 ·cases h
theorem DO {l:List TK0}{p q:Nat}{s:ByteArray}{u:Unit}(h:BH l p [s]= .ok u q):q=p+1∧p<l.length:=by
 unfold BH at h;split at h
 ·rename_i h1;cases h;exact⟨rfl,Aq h1⟩
 ·cases h
theorem GQ {l:List TK0}{p q:Nat}{w:List OP}(hp:p≤l.length)(hl:l.length≤100)(h:CY l p= .ok w q):q≤l.length∧w.length≤40:=by
 unfold CY at h;split at h
 ·rename_i h1
  obtain⟨_,h2⟩:=DH (Aq h1) hl;obtain⟨a,_,_,b⟩:=h2 _ _ h;exact⟨a,by omega⟩
 ·cases h;exact⟨hp,Nat.zero_le _⟩
theorem OA {l:List TK0}{p q:Nat}{r:List ByteArray×Bool}(h:Cs l p= .ok r q):q≤l.length:=by
 unfold Cs at h;split at h
 ·rename_i h1;cases h;exact Aq h1
 split at h
 ·cases h1:Ar l (p+1) Ax with
  |bad e p1=>rw[h1] at h;cases h
  |ok u p1=>
   rw[h1] at h;dsimp only[PR.bind] at h
   cases h2:Ar l p1 BQ with
   |bad e p1=>rw[h2] at h;cases h
   |ok u p2=>
    rw[h2] at h;dsimp only at h
    cases h3:Ar l p2 AW with
    |bad e p1=>rw[h3] at h;cases h
    |ok u p3=>rw[h3] at h;cases h;obtain⟨rfl,h4⟩:=Ew h3;exact h4
 ·cases h1:Dp l 7 p [] with
  |bad e p1=>rw[h1] at h;cases h
  |ok r p1=>rw[h1] at h;cases h;exact JG l _ _ _ _ _ h1
set_option maxHeartbeats 16000000 in
theorem Lf {G:List (Nat×List Value)}(T:TabsP G){l:List TK0}(hk: ∀t ∈ l,TokOk t)(hl:l.length≤100)(p:Nat)(hp:p≤l.length){c r:Code}(hb:f29.body=some (.seq c r)){E:Env}(hG:E.G=G)(hE:E.th0.length=2){AQ:AExit→AS→Prop}
  (hok: ∀ns cnt p1,Cs l p= .ok (ns,cnt) p1→ ∀st',Emb E f29.ntmps st' ⟨[(0,.p 0 0 0),(1,.p 1 0 0)],[(0,.box 43 [.ro true 3 (l.map eT),.r (.int .i64 p1),.any]),(1,.box 29 [.r (.int .i64 4),.r (.string ⟨#[]⟩),.r (.slice none 0 0),.r (.slice none 0 0),.ro true 1 (ns.map Bc),.r (.bool cnt),.r (.slice none 0 0),.r (.string ⟨#[]⟩),.r (.bool false),.r (.int .i64 (-1)),.r (.string ⟨#[]⟩),.r (.slice none 0 0)])],2⟩→AQ .normal st') (hbad: ∀e q st,Cs l p= .bad e q→EmbV E st (Aa e q) [] 2 (Aa e q)→AQ (.pan (Aa e q)) st):
  AWP prog E f29.ntmps c ⟨[(0,.p 0 0 0),(1,.p 1 0 0)],[(0,.box 43 [.ro true 3 (l.map eT),.r (.int .i64 p),.any]),(1,.box 29 [.r (.int .i64 4),.r (.string ⟨#[]⟩),.r (.slice none 0 0),.r (.slice none 0 0),.r (.slice none 0 0),.r (.bool false),.r (.slice none 0 0),.r (.string ⟨#[]⟩),.r (.bool false),.r (.int .i64 (-1)),.r (.string ⟨#[]⟩),.r (.slice none 0 0)])],2⟩ AQ:=by
 subst hG
 injection hb with hb
 injection hb with h2 h3
 subst h2;clear h3;cases hs:AP l p 4 BQ;rotate_left
 ·have e1:=C0 E.G l p 4 BQ hl (by omega) hs
  simp only[BQ,str] at e1;unfold A_ at e1;(repeat' (first |refine A6 ?_ |refine A2 ?_ |refine A3 ?_ |refine A5 ?_ |((first |refine rR (fun K kp hK hkp=>?_) |refine rX (id:=2) AA [] 12 [0,1,2,3,4,5,6,7,8,9,10,11] (fun K kp hK hkp=>?_) |refine rD (id:=18) AA 24 [0,1,2,3,4,5,6,7,8,9,10,11,12,13,14,15,16,17,18,19,20,21,22,23] (fun K kp hK hkp=>?_) |refine rD (id:=20) AA 14 [0,1,2,3,4,5,6,7,8,9,10,11,12,13] (fun K kp hK hkp=>?_) |refine oR [0] e1 ?_ |refine iG ?_ |refine iD ?_ |refine iX ?_);simp(implicitDefEqProofs:=false) (maxSteps:=2000000) (disch:=omega) only[go_sem];(repeat' (first |(refine hK _ ?_;clear hK hkp kp K) |(with_reducible refine And.intro ?_ ?_) |omega))) |((first |refine aG (fun h=>?_) (fun h=>?_) |refine aD (fun h=>?_) (fun h=>?_) |refine aX (fun h=>?_) (fun h=>?_))<;>simp only[h]) |refine A0 rfl ?_ |refine A1 rfl ?_ |((refine A4 rfl (fun h=>?_) (fun h=>?_)<;>try simp only[AK] at h)<;>(try (exfalso;omega))) |refine A7 ?_));refine hok [] false (p+1) (by rw[Cs,if_pos hs]) _ ?_;refine Emb.trans (GB 1 4 1 rfl rfl) ?_;simp only[BO,List.set_cons_zero,List.set_cons_succ];(refine Am hE [0,1] rfl ?_ ?_<;>simp[Bi,AH,lk,ren,renL,A9,AG]<;>(try omega))
 have e1:=AU E.G l p 4 BQ hl (by omega) hs;simp only[BQ,str] at e1;unfold A_ at e1;cases hc:AP l p 1 D6;rotate_left
 ·have hlt:=Aq hc
  have e2:=C0 E.G l p 1 D6 hl (by omega) hc;simp only[D6,str] at e2;unfold A_ at e2
  have hw0:Cs l p=(Ar l (p+1) Ax).bind fun _ p=>(Ar l p BQ).bind fun _ p=>(Ar l p AW).bind fun _ p=> .ok ([],true) p:=by rw[Cs,if_neg (by rw[hs];decide),if_pos hc]
  have m1:=H1 E.G l (p+1) Ax hl (by omega)
  cases h1:Ar l (p+1) Ax with
  |bad e p1=>
   rw[h1] at m1;have m1:=m1.bad rfl;simp only[Ax,str] at m1;unfold A_ at m1
   have hw:Cs l p= .bad e p1:=by rw[hw0,h1];rfl
   (repeat' (first |refine A6 ?_ |refine A2 ?_ |refine A3 ?_ |refine A5 ?_ |((first |refine rR (fun K kp hK hkp=>?_) |refine rX (id:=2) AA [] 12 [0,1,2,3,4,5,6,7,8,9,10,11] (fun K kp hK hkp=>?_) |refine rD (id:=18) AA 24 [0,1,2,3,4,5,6,7,8,9,10,11,12,13,14,15,16,17,18,19,20,21,22,23] (fun K kp hK hkp=>?_) |refine rD (id:=20) AA 14 [0,1,2,3,4,5,6,7,8,9,10,11,12,13] (fun K kp hK hkp=>?_) |refine oR [0] e1 ?_ |refine oR [0] e2 ?_ |refine iG ?_ |refine iD ?_ |refine iX ?_);simp(implicitDefEqProofs:=false) (maxSteps:=2000000) (disch:=omega) only[go_sem];(repeat' (first |(refine hK _ ?_;clear hK hkp kp K) |(with_reducible refine And.intro ?_ ?_) |omega))) |refine oP [0] m1 ?_ |((first |refine aG (fun h=>?_) (fun h=>?_) |refine aD (fun h=>?_) (fun h=>?_) |refine aX (fun h=>?_) (fun h=>?_))<;>simp only[h]) |refine A0 rfl ?_ |refine A1 rfl ?_ |((refine A4 rfl (fun h=>?_) (fun h=>?_)<;>try simp only[AK] at h)<;>(try (exfalso;omega))) |refine A7 ?_));refine hkp _ _ ?_;(refine hbad _ _ _ hw ?_;refine AC hE [0,1] rfl ?_ ?_<;>simp[AH,lk,ren,renL,A9,AG,Aa])
  |ok u p1=>
   obtain⟨rfl,hl1⟩:=Ew h1;rw[h1] at m1;have m1:=m1.ok rfl;(try dsimp only at m1);simp only[Ax,str] at m1;unfold A_ at m1;have m2:=H1 E.G l (p+1+1) BQ hl (by omega)
   cases h2:Ar l (p+1+1) BQ with
   |bad e p1=>
    rw[h2] at m2;have m2:=m2.bad rfl;simp only[BQ,str] at m2;unfold A_ at m2
    have hw:Cs l p= .bad e p1:=by rw[hw0,h1];dsimp only[PR.bind];rw[h2]
    (repeat' (first |refine A6 ?_ |refine A2 ?_ |refine A3 ?_ |refine A5 ?_ |((first |refine rR (fun K kp hK hkp=>?_) |refine rX (id:=2) AA [] 12 [0,1,2,3,4,5,6,7,8,9,10,11] (fun K kp hK hkp=>?_) |refine rD (id:=18) AA 24 [0,1,2,3,4,5,6,7,8,9,10,11,12,13,14,15,16,17,18,19,20,21,22,23] (fun K kp hK hkp=>?_) |refine rD (id:=20) AA 14 [0,1,2,3,4,5,6,7,8,9,10,11,12,13] (fun K kp hK hkp=>?_) |refine oR [0] e1 ?_ |refine oR [0] e2 ?_ |refine oR [0] m1 ?_ |refine iG ?_ |refine iD ?_ |refine iX ?_);simp(implicitDefEqProofs:=false) (maxSteps:=2000000) (disch:=omega) only[go_sem];(repeat' (first |(refine hK _ ?_;clear hK hkp kp K) |(with_reducible refine And.intro ?_ ?_) |omega))) |refine oP [0] m2 ?_ |((first |refine aG (fun h=>?_) (fun h=>?_) |refine aD (fun h=>?_) (fun h=>?_) |refine aX (fun h=>?_) (fun h=>?_))<;>simp only[h]) |refine A0 rfl ?_ |refine A1 rfl ?_ |((refine A4 rfl (fun h=>?_) (fun h=>?_)<;>try simp only[AK] at h)<;>(try (exfalso;omega))) |refine A7 ?_));refine hkp _ _ ?_;(refine hbad _ _ _ hw ?_;refine AC hE [0,1] rfl ?_ ?_<;>simp[AH,lk,ren,renL,A9,AG,Aa])
   |ok u p1=>
    obtain⟨rfl,hl2⟩:=Ew h2;rw[h2] at m2;have m2:=m2.ok rfl;(try dsimp only at m2);simp only[BQ,str] at m2;unfold A_ at m2;have m3:=H1 E.G l (p+1+1+1) AW hl (by omega)
    cases h3:Ar l (p+1+1+1) AW with
    |bad e p1=>
     rw[h3] at m3;have m3:=m3.bad rfl;simp only[AW,str] at m3;unfold A_ at m3
     have hw:Cs l p= .bad e p1:=by rw[hw0,h1];dsimp only[PR.bind];rw[h2];dsimp only;rw[h3]
     (repeat' (first |refine A6 ?_ |refine A2 ?_ |refine A3 ?_ |refine A5 ?_ |((first |refine rR (fun K kp hK hkp=>?_) |refine rX (id:=2) AA [] 12 [0,1,2,3,4,5,6,7,8,9,10,11] (fun K kp hK hkp=>?_) |refine rD (id:=18) AA 24 [0,1,2,3,4,5,6,7,8,9,10,11,12,13,14,15,16,17,18,19,20,21,22,23] (fun K kp hK hkp=>?_) |refine rD (id:=20) AA 14 [0,1,2,3,4,5,6,7,8,9,10,11,12,13] (fun K kp hK hkp=>?_) |refine oR [0] e1 ?_ |refine oR [0] e2 ?_ |refine oR [0] m1 ?_ |refine oR [0] m2 ?_ |refine iG ?_ |refine iD ?_ |refine iX ?_);simp(implicitDefEqProofs:=false) (maxSteps:=2000000) (disch:=omega) only[go_sem];(repeat' (first |(refine hK _ ?_;clear hK hkp kp K) |(with_reducible refine And.intro ?_ ?_) |omega))) |refine oP [0] m3 ?_ |((first |refine aG (fun h=>?_) (fun h=>?_) |refine aD (fun h=>?_) (fun h=>?_) |refine aX (fun h=>?_) (fun h=>?_))<;>simp only[h]) |refine A0 rfl ?_ |refine A1 rfl ?_ |((refine A4 rfl (fun h=>?_) (fun h=>?_)<;>try simp only[AK] at h)<;>(try (exfalso;omega))) |refine A7 ?_));refine hkp _ _ ?_;(refine hbad _ _ _ hw ?_;refine AC hE [0,1] rfl ?_ ?_<;>simp[AH,lk,ren,renL,A9,AG,Aa])
    |ok u p1=>
     obtain⟨rfl,hl3⟩:=Ew h3;rw[h3] at m3;have m3:=m3.ok rfl;(try dsimp only at m3);simp only[AW,str] at m3;unfold A_ at m3
     have hw:Cs l p= .ok ([],true) (p+1+1+1+1):=by rw[hw0,h1];dsimp only[PR.bind];rw[h2];dsimp only;rw[h3]
     (repeat' (first |refine A6 ?_ |refine A2 ?_ |refine A3 ?_ |refine A5 ?_ |((first |refine rR (fun K kp hK hkp=>?_) |refine rX (id:=2) AA [] 12 [0,1,2,3,4,5,6,7,8,9,10,11] (fun K kp hK hkp=>?_) |refine rD (id:=18) AA 24 [0,1,2,3,4,5,6,7,8,9,10,11,12,13,14,15,16,17,18,19,20,21,22,23] (fun K kp hK hkp=>?_) |refine rD (id:=20) AA 14 [0,1,2,3,4,5,6,7,8,9,10,11,12,13] (fun K kp hK hkp=>?_) |refine oR [0] e1 ?_ |refine oR [0] e2 ?_ |refine oR [0] m1 ?_ |refine oR [0] m2 ?_ |refine oR [0] m3 ?_ |refine iG ?_ |refine iD ?_ |refine iX ?_);simp(implicitDefEqProofs:=false) (maxSteps:=2000000) (disch:=omega) only[go_sem];(repeat' (first |(refine hK _ ?_;clear hK hkp kp K) |(with_reducible refine And.intro ?_ ?_) |omega))) |((first |refine aG (fun h=>?_) (fun h=>?_) |refine aD (fun h=>?_) (fun h=>?_) |refine aX (fun h=>?_) (fun h=>?_))<;>simp only[h]) |refine A0 rfl ?_ |refine A1 rfl ?_ |((refine A4 rfl (fun h=>?_) (fun h=>?_)<;>try simp only[AK] at h)<;>(try (exfalso;omega))) |refine A7 ?_));refine hok [] true _ hw _ ?_;refine Emb.trans (GB 1 4 1 rfl rfl) ?_;simp only[BO,List.set_cons_zero,List.set_cons_succ];(refine Am hE [0,1] rfl ?_ ?_<;>simp[Bi,AH,lk,ren,renL,A9,AG]<;>(try omega))
 have e2:=AU E.G l p 1 D6 hl (by omega) hc;simp only[D6,str] at e2;unfold A_ at e2
 have hw0:Cs l p=(Dp l 7 p []).bind fun ns p=> .ok (ns,false) p:=by rw[Cs,if_neg (by rw[hs];decide),if_neg (by rw[hc];decide)]
 (repeat' (first |refine A6 ?_ |refine A2 ?_ |refine A3 ?_ |refine A5 ?_ |((first |refine rR (fun K kp hK hkp=>?_) |refine rX (id:=2) AA [] 12 [0,1,2,3,4,5,6,7,8,9,10,11] (fun K kp hK hkp=>?_) |refine rD (id:=18) AA 24 [0,1,2,3,4,5,6,7,8,9,10,11,12,13,14,15,16,17,18,19,20,21,22,23] (fun K kp hK hkp=>?_) |refine rD (id:=20) AA 14 [0,1,2,3,4,5,6,7,8,9,10,11,12,13] (fun K kp hK hkp=>?_) |refine oR [0] e1 ?_ |refine oR [0] e2 ?_ |refine iG ?_ |refine iD ?_ |refine iX ?_);simp(implicitDefEqProofs:=false) (maxSteps:=2000000) (disch:=omega) only[go_sem];(repeat' (first |(refine hK _ ?_;clear hK hkp kp K) |(with_reducible refine And.intro ?_ ?_) |omega))) |((first |refine aG (fun h=>?_) (fun h=>?_) |refine aD (fun h=>?_) (fun h=>?_) |refine aX (fun h=>?_) (fun h=>?_))<;>simp only[h]) |refine A0 rfl ?_ |refine A1 rfl ?_ |((refine A4 rfl (fun h=>?_) (fun h=>?_)<;>try simp only[AK] at h)<;>(try (exfalso;omega))) |refine A7 ?_));(refine AWP.emb (GC 1 4 9 1 rfl rfl (by simp)) ?_;simp only[List.set_cons_zero,List.set_cons_succ,lk,↓reduceIte,Nat.reduceAdd]);obtain⟨x,hx⟩: ∃x,Dp l 7 p []=x:=⟨_,rfl⟩;rw[hx] at hw0;clear e1 e2;refine Ap (fun z:Nat×Nat×List ByteArray=>⟨[(0,.p 0 0 0),(1,.p 1 0 0)],[(0,.box 43 [.ro true 3 (l.map eT),.r (.int .i64 z.2.1),.any]),(1,.box 29 [.r (.int .i64 4),.r (.string ⟨#[]⟩),.r (.slice none 0 0),.r (.slice none 0 0),.s 2 0 z.2.2.length,.r (.bool false),.r (.slice none 0 0),.r (.string ⟨#[]⟩),.r (.bool false),.r (.int .i64 (-1)),.r (.string ⟨#[]⟩),.r (.slice none 0 0)]),(2,.lst 9 1 (z.2.2.map Bc))],3⟩) (fun z=>1≤z.1∧z.1+z.2.2.length=7∧Dp l z.1 z.2.1 z.2.2=x∧z.2.1≤l.length) (fun z=>z.1) (7,p,[]) ?_ ?_ ?_
 ·exact⟨by omega,rfl,hx,hp⟩
 ·(refine Am hE [0,1,2] rfl ?_ ?_<;>simp[Bi,AH,lk,ren,renL,A9,AG]<;>(try omega))
 clear hx;rintro⟨g,p1,ns⟩ ⟨h0,h1,h2,h3⟩;dsimp only at h0 h1 h2 h3 ⊢
 cases g with
 |zero=>omega
 |succ g=>
 rw[Dy] at h2
 by_cases h6:ns.length=6
 ·rw[if_pos h6] at h2;subst h2
  have d1:((ns.length:Int)==6)=true:=by simp only[beq_iff_eq];omega
  have gc:=DV E.G l p1 10 hl (by omega)
  have hw:Cs l p= .bad (if l.length≤p1 then 7 else 10) p1:=by rw[hw0];rfl
  generalize (if l.length≤p1 then (7:Int) else 10)=e at gc hw;unfold A_ at gc;(repeat' (first |refine A6 ?_ |refine A2 ?_ |refine A3 ?_ |refine A5 ?_ |((first |refine rR (fun K kp hK hkp=>?_) |refine rX (id:=2) AA [] 12 [0,1,2,3,4,5,6,7,8,9,10,11] (fun K kp hK hkp=>?_) |refine rD (id:=18) AA 24 [0,1,2,3,4,5,6,7,8,9,10,11,12,13,14,15,16,17,18,19,20,21,22,23] (fun K kp hK hkp=>?_) |refine rD (id:=20) AA 14 [0,1,2,3,4,5,6,7,8,9,10,11,12,13] (fun K kp hK hkp=>?_) |refine iG ?_ |refine iD ?_ |refine iX ?_);simp(implicitDefEqProofs:=false) (maxSteps:=2000000) (disch:=omega) only[go_sem,d1];(repeat' (first |(refine hK _ ?_;clear hK hkp kp K) |(with_reducible refine And.intro ?_ ?_) |omega))) |refine oP [0] gc ?_ |((first |refine aG (fun h=>?_) (fun h=>?_) |refine aD (fun h=>?_) (fun h=>?_) |refine aX (fun h=>?_) (fun h=>?_))<;>simp only[h]) |refine A0 rfl ?_ |refine A1 rfl ?_ |((refine A4 rfl (fun h=>?_) (fun h=>?_)<;>try simp only[AK] at h)<;>(try (exfalso;omega))) |refine A7 ?_));refine hkp _ _ ?_;(refine hbad _ _ _ hw ?_;refine AC hE [0,1] rfl ?_ ?_<;>simp[AH,lk,ren,renL,A9,AG,Aa])
 rw[if_neg h6] at h2
 have d1:((ns.length:Int)==6)=false:=by simp only[beq_eq_false_iff_ne,ne_eq];omega
 have nc:=FW T.toTabs l p1 hl (by omega) (fun t ht=>(hk t ht).s)
 cases hnm:D8 l p1 with
 |bad e p2=>
  rw[hnm] at h2 nc;cases h2;have nc:=nc.bad rfl
  have hw:Cs l p= .bad e p2:=by rw[hw0];rfl
  unfold A_ at nc;(repeat' (first |refine A6 ?_ |refine A2 ?_ |refine A3 ?_ |refine A5 ?_ |((first |refine rR (fun K kp hK hkp=>?_) |refine rX (id:=2) AA [0,2] 9 [0,1,2,3,4,5,6,7,8] (fun K kp hK hkp=>?_) |refine rD (id:=18) AA 24 [0,1,2,3,4,5,6,7,8,9,10,11,12,13,14,15,16,17,18,19,20,21,22,23] (fun K kp hK hkp=>?_) |refine rD (id:=20) AA 14 [0,1,2,3,4,5,6,7,8,9,10,11,12,13] (fun K kp hK hkp=>?_) |refine iG ?_ |refine iD ?_ |refine iX ?_);simp(implicitDefEqProofs:=false) (maxSteps:=2000000) (disch:=omega) only[go_sem,d1];(repeat' (first |(refine hK _ ?_;clear hK hkp kp K) |(with_reducible refine And.intro ?_ ?_) |omega))) |((first |refine aG (fun h=>?_) (fun h=>?_) |refine aD (fun h=>?_) (fun h=>?_) |refine aX (fun h=>?_) (fun h=>?_))<;>simp only[h]) |refine A0 rfl ?_ |refine A1 rfl ?_ |((refine A4 rfl (fun h=>?_) (fun h=>?_)<;>try simp only[AK] at h)<;>(try (exfalso;omega))) |refine A7 ?_));(refine Nx [0] (nc) ?_ ?_ ?_ ?_ ?_ ?_ ?_ ?_ rfl rfl ?_;(·simp[Dt,Ip,LY,Eg,D7,Fr,lk]);(·simp[AH,lk,A9,renL,ren,AG]);(·(intro i hi;simp only[List.length_cons,List.length_nil] at hi;repeat' (first |omega |exact⟨_,rfl⟩ |(rcases i with _ |i))));(·simp);(·simp);(·simp);(·simp[NQ,lk]);(·exact OW _ _);simp only[Gw,rm,List.foldl_cons,List.foldl_nil,List.length_cons,List.length_nil,Nat.sub_self,Nat.add_zero,↓reduceIte,Nat.reduceEqDiff,Nat.reduceSub,Aa,ren,renL]);refine hkp _ _ ?_;(refine hbad _ _ _ hw ?_;refine AC hE [0,1] rfl ?_ ?_<;>simp[AH,lk,ren,renL,A9,AG,Aa])
 |ok s p2=>
  obtain⟨rfl,hlt1⟩:=Co hnm;rw[hnm] at h2 nc;have nc:=nc.ok rfl;(try dsimp only at nc);dsimp only[PR.bind] at h2;unfold A_ at nc;cases hcm:AP l (p1+1) 4 Au
  ·have ec:=AU E.G l (p1+1) 4 Au hl (by omega) hcm
   simp only[Au,str] at ec;unfold A_ at ec;rw[hcm] at h2;cases h2
   have hw:Cs l p= .ok (ns++[s],false) (p1+1):=by rw[hw0];rfl
   (repeat' (first |refine A6 ?_ |refine A2 ?_ |refine A3 ?_ |refine A5 ?_ |((first |refine rR (fun K kp hK hkp=>?_) |refine rX (id:=2) AA [0,2] 9 [0,1,2,3,4,5,6,7,8] (fun K kp hK hkp=>?_) |refine rD (id:=18) AA 24 [0,1,2,3,4,5,6,7,8,9,10,11,12,13,14,15,16,17,18,19,20,21,22,23] (fun K kp hK hkp=>?_) |refine rD (id:=20) AA 14 [0,1,2,3,4,5,6,7,8,9,10,11,12,13] (fun K kp hK hkp=>?_) |refine iG ?_ |refine iD ?_ |refine iX ?_);simp(implicitDefEqProofs:=false) (maxSteps:=2000000) (disch:=omega) only[go_sem,d1];(repeat' (first |(refine hK _ ?_;clear hK hkp kp K) |(with_reducible refine And.intro ?_ ?_) |omega))) |((first |refine aG (fun h=>?_) (fun h=>?_) |refine aD (fun h=>?_) (fun h=>?_) |refine aX (fun h=>?_) (fun h=>?_))<;>simp only[h]) |refine A0 rfl ?_ |refine A1 rfl ?_ |((refine A4 rfl (fun h=>?_) (fun h=>?_)<;>try simp only[AK] at h)<;>(try (exfalso;omega))) |refine A7 ?_));(refine JW [0] (nc) ?_ ?_ ?_ ?_ ?_ ?_ ?_ ?_ ?_ rfl rfl ?_;(·simp[Dt,Ip,LY,Eg,D7,Fr,lk]);(·simp[AH,lk,A9,renL,ren,AG]);(·(intro i hi;simp only[List.length_cons,List.length_nil] at hi;repeat' (first |omega |exact⟨_,rfl⟩ |(rcases i with _ |i))));(·simp);(·simp);(·simp);(·simp[NQ,lk]);(·simp);(·simp);simp only[Cx,fw,Gw,rm,List.map_cons,List.map_nil,List.foldl_cons,List.foldl_nil,List.getElem?_cons_zero,List.getElem?_cons_succ,List.getElem?_nil,List.length_cons,List.length_nil,Nat.zero_add,Nat.sub_self,Nat.add_zero,↓reduceIte,Nat.reduceEqDiff,reduceCtorEq,Nat.reduceAdd,Nat.reduceSub,List.cons_append,List.nil_append,ren,renL,A9];simp(implicitDefEqProofs:=false) (maxSteps:=2000000) (disch:=omega) only[go_sem];(repeat' (first |(refine hK _ ?_;clear hK hkp kp K) |(with_reducible refine And.intro ?_ ?_) |omega)));(repeat' (first |refine A6 ?_ |refine A2 ?_ |refine A3 ?_ |refine A5 ?_ |((first |refine rR (fun K kp hK hkp=>?_) |refine rX (id:=2) AA [] 12 [0,1,2,3,4,5,6,7,8,9,10,11] (fun K kp hK hkp=>?_) |refine rD (id:=18) AA 24 [0,1,2,3,4,5,6,7,8,9,10,11,12,13,14,15,16,17,18,19,20,21,22,23] (fun K kp hK hkp=>?_) |refine rD (id:=20) AA 14 [0,1,2,3,4,5,6,7,8,9,10,11,12,13] (fun K kp hK hkp=>?_) |refine oR [0] ec ?_ |refine iG ?_ |refine iD ?_ |refine iX ?_);simp(implicitDefEqProofs:=false) (maxSteps:=2000000) (disch:=omega) only[go_sem,d1];(repeat' (first |(refine hK _ ?_;clear hK hkp kp K) |(with_reducible refine And.intro ?_ ?_) |omega))) |((first |refine aG (fun h=>?_) (fun h=>?_) |refine aD (fun h=>?_) (fun h=>?_) |refine aX (fun h=>?_) (fun h=>?_))<;>simp only[h]) |refine A0 rfl ?_ |refine A1 rfl ?_ |((refine A4 rfl (fun h=>?_) (fun h=>?_)<;>try simp only[AK] at h)<;>(try (exfalso;omega))) |refine A7 ?_))
   have tk:(ns.map Bc++[[AV.r (.string s)]]).take (ns.length+1)=(ns++[s]).map Bc:=by
    rw[List.take_of_length_le (by simp),List.map_append];rfl
   change AQ .normal _;refine hok _ _ _ hw _ ?_;refine Emb.trans (EI 1 4 rfl rfl (by simp only[GL,lk,rm,tk,List.drop_zero,Nat.zero_add,List.length_append,List.length_map,List.length_cons,List.length_nil,Nat.le_refl,↓reduceIte,Nat.reduceEqDiff];rfl) rfl) ?_;simp only[BO,List.set_cons_zero,List.set_cons_succ];(refine Am hE [0,1] rfl ?_ ?_<;>simp[Bi,AH,lk,ren,renL,A9,AG]<;>(try omega))
  ·have hlt2:=Aq hcm
   have ec:=C0 E.G l (p1+1) 4 Au hl (by omega) hcm;simp only[Au,str] at ec;unfold A_ at ec;rw[hcm,if_pos rfl] at h2;(repeat' (first |refine A6 ?_ |refine A2 ?_ |refine A3 ?_ |refine A5 ?_ |((first |refine rR (fun K kp hK hkp=>?_) |refine rX (id:=2) AA [0,2] 9 [0,1,2,3,4,5,6,7,8] (fun K kp hK hkp=>?_) |refine rD (id:=18) AA 24 [0,1,2,3,4,5,6,7,8,9,10,11,12,13,14,15,16,17,18,19,20,21,22,23] (fun K kp hK hkp=>?_) |refine rD (id:=20) AA 14 [0,1,2,3,4,5,6,7,8,9,10,11,12,13] (fun K kp hK hkp=>?_) |refine iG ?_ |refine iD ?_ |refine iX ?_);simp(implicitDefEqProofs:=false) (maxSteps:=2000000) (disch:=omega) only[go_sem,d1];(repeat' (first |(refine hK _ ?_;clear hK hkp kp K) |(with_reducible refine And.intro ?_ ?_) |omega))) |((first |refine aG (fun h=>?_) (fun h=>?_) |refine aD (fun h=>?_) (fun h=>?_) |refine aX (fun h=>?_) (fun h=>?_))<;>simp only[h]) |refine A0 rfl ?_ |refine A1 rfl ?_ |((refine A4 rfl (fun h=>?_) (fun h=>?_)<;>try simp only[AK] at h)<;>(try (exfalso;omega))) |refine A7 ?_));(refine JW [0] (nc) ?_ ?_ ?_ ?_ ?_ ?_ ?_ ?_ ?_ rfl rfl ?_;(·simp[Dt,Ip,LY,Eg,D7,Fr,lk]);(·simp[AH,lk,A9,renL,ren,AG]);(·(intro i hi;simp only[List.length_cons,List.length_nil] at hi;repeat' (first |omega |exact⟨_,rfl⟩ |(rcases i with _ |i))));(·simp);(·simp);(·simp);(·simp[NQ,lk]);(·simp);(·simp);simp only[Cx,fw,Gw,rm,List.map_cons,List.map_nil,List.foldl_cons,List.foldl_nil,List.getElem?_cons_zero,List.getElem?_cons_succ,List.getElem?_nil,List.length_cons,List.length_nil,Nat.zero_add,Nat.sub_self,Nat.add_zero,↓reduceIte,Nat.reduceEqDiff,reduceCtorEq,Nat.reduceAdd,Nat.reduceSub,List.cons_append,List.nil_append,ren,renL,A9];simp(implicitDefEqProofs:=false) (maxSteps:=2000000) (disch:=omega) only[go_sem];(repeat' (first |(refine hK _ ?_;clear hK hkp kp K) |(with_reducible refine And.intro ?_ ?_) |omega)));(repeat' (first |refine A6 ?_ |refine A2 ?_ |refine A3 ?_ |refine A5 ?_ |((first |refine rR (fun K kp hK hkp=>?_) |refine rX (id:=2) AA [] 12 [0,1,2,3,4,5,6,7,8,9,10,11] (fun K kp hK hkp=>?_) |refine rD (id:=18) AA 24 [0,1,2,3,4,5,6,7,8,9,10,11,12,13,14,15,16,17,18,19,20,21,22,23] (fun K kp hK hkp=>?_) |refine rD (id:=20) AA 14 [0,1,2,3,4,5,6,7,8,9,10,11,12,13] (fun K kp hK hkp=>?_) |refine oR [0] ec ?_ |refine iG ?_ |refine iD ?_ |refine iX ?_);simp(implicitDefEqProofs:=false) (maxSteps:=2000000) (disch:=omega) only[go_sem,d1];(repeat' (first |(refine hK _ ?_;clear hK hkp kp K) |(with_reducible refine And.intro ?_ ?_) |omega))) |((first |refine aG (fun h=>?_) (fun h=>?_) |refine aD (fun h=>?_) (fun h=>?_) |refine aX (fun h=>?_) (fun h=>?_))<;>simp only[h]) |refine A0 rfl ?_ |refine A1 rfl ?_ |((refine A4 rfl (fun h=>?_) (fun h=>?_)<;>try simp only[AK] at h)<;>(try (exfalso;omega))) |refine A7 ?_));refine LT ?_
   ((first |(refine Ba ((g,p1+1+1,ns++[s])) ?_ ?_ ?_) |(refine BT ((g,p1+1+1,ns++[s])) ?_ ?_ ?_) |(refine nextE ((g,p1+1+1,ns++[s])) ?_ ?_ ?_));rotate_left;(·(try dsimp only);(first |omega |(simp only[List.length_drop,List.length_cons,List.length_append];omega) |(simp;done) |(simp;omega)));(·(refine Am hE [0,1,4] rfl ?_ ?_<;>simp[Bi,AH,lk,ren,renL,A9,AG,Bc]<;>(try omega))))
   refine⟨by omega,by rw[List.length_append];simp only[List.length_cons,List.length_nil];omega,h2,hlt2⟩
end Go.AM
namespace Go.AM
open Go Go.RowKit
open Go.Proofs.YtmgddlckgpfccaaDoor (OP Ac AY AR str)
theorem Hh {AQ:AExit→AS→Prop}{p q:AS→Prop}(h: ∀s,p s→q s): ∀e s,Ek p AQ e s→Ek q AQ e s:=fun e s hh=>by
 cases e with
 |normal=>exact h s hh
 |_=>exact hh
theorem Ti {P:Program}{E:Env}{N:Nat}{st:AS}{AQ:AExit→AS→Prop}{x y z v:Code}(fx:AS)(h:AWP P E N v fx AQ)(h2: ∀K:AS→Prop,(∀st',Emb E N st' fx→K st')→AWP P E N x st (Ek (fun s=>AWP P E N y s (Ek (fun s=>AWP P E N z s (Ek K AQ)) AQ)) AQ)):
  AWP P E N (.seq x (.seq y (.seq z v))) st AQ:=
 A6 ((h2 _ fun st' he=>AWP.emb he h).mono (Hh fun _ hh=>A6 (hh.mono (Hh fun _ hh=>A6 hh))))
theorem Ad {α β:Type}{a:α}{p:Nat}{f:α→Nat→PR β}:(PR.ok a p).bind f=f a p:=rfl
theorem BU {α β:Type}{e:Int}{p:Nat}{f:α→Nat→PR β}:(PR.bad (α:=α) e p).bind f= .bad e p:=rfl
attribute [local irreducible] AWP BS
set_option maxHeartbeats 16000000 in
theorem Hv {G:List (Nat×List Value)}(T:TabsP G){l:List TK0}(hk: ∀t ∈ l,TokOk t)(hl:l.length≤100)(tab:ByteArray)(ns:List ByteArray)(cnt:Bool)(wh:List OP)(od:ByteArray)(dn:Bool)(p:Nat)(hp:p≤l.length){c1 c2 c3 c4 c5 c6:Code}(hb:f29.body=some (.seq c1 (.seq c2 (.seq c3 (.seq c4 (.seq c5 c6)))))){E:Env}(hE:E.th0.length=2)(hG:E.G=G):
  AWP prog E f29.ntmps c6 ⟨[(0,.p 0 0 0),(1,.p 1 0 0)],[(0,.box 43 [.ro true 3 (l.map eT),.r (.int .i64 p),.any]),(1,.box 29 [.r (.int .i64 4),.r (.string tab),.r (.slice none 0 0),.r (.slice none 0 0),.ro true 1 (ns.map Bc),.r (.bool cnt),.ro true 5 (wh.map eO),.r (.string od),.r (.bool dn),.r (.int .i64 (-1)),.r (.string ⟨#[]⟩),.r (.slice none 0 0)])],2⟩ (BS prog E f29.ntmps f29.results.toList
   (PQ ((G_ l p).bind fun a p=>PR.ok (⟨4,tab,[],[],ns,cnt,wh,od,dn,a,str [],[]⟩:ST) p) (fun _ _=> .tup []) (fun(s:ST) p=>[(0,.box 43 [.ro true 3 (l.map eT),.r (.int .i64 p),.any]),(1,.box 29 [.r (.int .i64 4),.r (.string s.tab),.r (.slice none 0 0),.r (.slice none 0 0),.ro true 1 (s.names.map Bc),.r (.bool s.count),.ro true 5 (s.wh.map eO),.r (.string s.ord),.r (.bool s.down),.r (.int .i64 s.lim),.r (.string ⟨#[]⟩),.r (.slice none 0 0)])]) 2)
   (PP ((G_ l p).bind fun a p=>PR.ok (⟨4,tab,[],[],ns,cnt,wh,od,dn,a,str [],[]⟩:ST) p) 2)):=by
 subst hG
 injection hb with hb
 injection hb with h2 h3
 injection h3 with h4 h5
 injection h5 with h6 h7
 injection h7 with h8 h9
 injection h9 with h10 h11
 subst h11;clear h2 h4 h6 h8 h10;cases h7:AP l p 1 DS
 ·have e7:=AU E.G l p 1 DS hl (by omega) h7
  simp only[DS,str] at e7;unfold A_ at e7
  have hx:G_ l p= .ok (-1) p:=by rw[G_,h7];rfl
  rw[hx];simp only[Ad];(repeat' (first |refine A6 ?_ |refine A2 ?_ |refine A3 ?_ |refine A5 ?_ |((first |refine rR (fun K kp hK hkp=>?_) |refine rX (id:=2) AA [] 12 [0,1,2,3,4,5,6,7,8,9,10,11] (fun K kp hK hkp=>?_) |refine rD (id:=18) AA 24 [0,1,2,3,4,5,6,7,8,9,10,11,12,13,14,15,16,17,18,19,20,21,22,23] (fun K kp hK hkp=>?_) |refine rD (id:=20) AA 14 [0,1,2,3,4,5,6,7,8,9,10,11,12,13] (fun K kp hK hkp=>?_) |refine oR [0] e7 ?_ |refine iG ?_ |refine iD ?_ |refine iX ?_);simp(implicitDefEqProofs:=false) (maxSteps:=2000000) (disch:=omega) only[go_sem];(repeat' (first |(refine hK _ ?_;clear hK hkp kp K) |(with_reducible refine And.intro ?_ ?_) |omega))) |((first |refine aG (fun h=>?_) (fun h=>?_) |refine aD (fun h=>?_) (fun h=>?_) |refine aX (fun h=>?_) (fun h=>?_))<;>simp only[h]) |refine A0 rfl ?_ |refine A1 rfl ?_ |((refine A4 rfl (fun h=>?_) (fun h=>?_)<;>try simp only[AK] at h)<;>(try (exfalso;omega))) |refine A7 ?_));refine Bg ?_;(refine BM ?_;(refine AB (by(simp(implicitDefEqProofs:=false) (maxSteps:=2000000) (disch:=omega) only[go_sem,results29]);rfl) ?_;refine(AC hE [0,1] rfl ?_ ?_).s<;>simp[AI,AH,lk,ren,renL,A9,AG]))
 have hl7:=Aq h7;have e7:=C0 E.G l p 1 DS hl (by omega) h7;simp only[DS,str] at e7;unfold A_ at e7
 cases hn:Bw l (p+1) with
 |none=>
  have hx:G_ l p= .bad (if l.length≤p+1 then 7 else 6) (p+1):=by rw[G_,if_pos h7,hn];rfl
  rw[hx];have gc:=DV E.G l (p+1) 6 hl (by omega);generalize (if l.length≤p+1 then (7:Int) else 6)=e at gc ⊢;simp only[BU];unfold A_ at gc
  cases hy:l[p+1]? with
  |none=>
   have:=List.getElem?_eq_none_iff.1 hy;have d3:decide (((p+1:Nat):Int)≥(l.length:Int))=true:=decide_eq_true (by omega);(repeat' (first |refine A6 ?_ |refine A2 ?_ |refine A3 ?_ |refine A5 ?_ |((first |refine rR (fun K kp hK hkp=>?_) |refine rX (id:=2) AA [] 12 [0,1,2,3,4,5,6,7,8,9,10,11] (fun K kp hK hkp=>?_) |refine rD (id:=18) AA 24 [0,1,2,3,4,5,6,7,8,9,10,11,12,13,14,15,16,17,18,19,20,21,22,23] (fun K kp hK hkp=>?_) |refine rU (id:=20) AA 14 [⟨0,0,[],[]⟩,⟨0,0,[],[]⟩,⟨0,0,[1],[]⟩,⟨0,0,[1,2],[]⟩,⟨0,0,[1,2,3],[]⟩,⟨0,0,[],[]⟩,⟨0,0,[5],[]⟩,⟨0,0,[5,6],[]⟩,⟨0,0,[5,6,7],[]⟩,⟨0,0,[1,2,3,4,5,6,7,8],[]⟩,⟨0,0,[1,2,3,4,5,6,7,8,9],[]⟩,⟨0,0,[1,2,3,4,5,6,7,8,9,10],[]⟩,⟨0,0,[0,1,2,3,4,5,6,7,8,9,10,11],[]⟩,⟨0,0,[0,1,2,3,4,5,6,7,8,9,10,11,12],[]⟩] 0 [97,98,99,100,101,102,103,104,105,106,107,108,109,110] [] (fun K kp hK hkp=>?_) |refine oR [0] e7 ?_ |refine iG ?_ |refine iD ?_ |refine iX ?_);simp(implicitDefEqProofs:=false) (maxSteps:=2000000) (disch:=omega) only[go_sem,d3,eT];(repeat' (first |(refine hK _ ?_;clear hK hkp kp K) |(with_reducible refine And.intro ?_ ?_) |omega))) |refine oP [0] gc ?_ |((first |refine aG (fun h=>?_) (fun h=>?_) |refine aD (fun h=>?_) (fun h=>?_) |refine aX (fun h=>?_) (fun h=>?_))<;>simp only[h]) |refine A0 rfl ?_ |refine A1 rfl ?_ |((refine A4 rfl (fun h=>?_) (fun h=>?_)<;>try simp only[AK] at h)<;>(try (exfalso;omega))) |refine A7 ?_));(refine hkp _ _ ?_;clear hkp hK kp K;refine AO (AD ?_);refine AC hE [0,1] rfl ?_ ?_<;>simp[AH,lk,ren,renL,A9,AG,Aa])
  |some y=>
   have:=(List.getElem?_eq_some_iff.1 hy).1;have d3:decide (((p+1:Nat):Int)≥(l.length:Int))=false:=decide_eq_false (by omega)
   have d4:(y.k !=2)=true:=by rw[bne,Cn hn hy];rfl
   (repeat' (first |refine A6 ?_ |refine A2 ?_ |refine A3 ?_ |refine A5 ?_ |((first |refine rR (fun K kp hK hkp=>?_) |refine rX (id:=2) AA [] 12 [0,1,2,3,4,5,6,7,8,9,10,11] (fun K kp hK hkp=>?_) |refine rD (id:=18) AA 24 [0,1,2,3,4,5,6,7,8,9,10,11,12,13,14,15,16,17,18,19,20,21,22,23] (fun K kp hK hkp=>?_) |refine rU (id:=20) AA 14 [⟨0,0,[],[]⟩,⟨0,0,[],[]⟩,⟨0,0,[1],[]⟩,⟨0,0,[1,2],[]⟩,⟨0,0,[1,2,3],[]⟩,⟨0,0,[],[]⟩,⟨0,0,[5],[]⟩,⟨0,0,[5,6],[]⟩,⟨0,0,[5,6,7],[]⟩,⟨0,0,[1,2,3,4,5,6,7,8],[]⟩,⟨0,0,[1,2,3,4,5,6,7,8,9],[]⟩,⟨0,0,[1,2,3,4,5,6,7,8,9,10],[]⟩,⟨0,0,[0,1,2,3,4,5,6,7,8,9,10,11],[]⟩,⟨0,0,[0,1,2,3,4,5,6,7,8,9,10,11,12],[]⟩] 0 [97,98,99,100,101,102,103,104,105,106,107,108,109,110] [] (fun K kp hK hkp=>?_) |refine oR [0] e7 ?_ |refine iG ?_ |refine iD ?_ |refine iX ?_);simp(implicitDefEqProofs:=false) (maxSteps:=2000000) (disch:=omega) only[go_sem,d3,hy,eT,d4];(repeat' (first |(refine hK _ ?_;clear hK hkp kp K) |(with_reducible refine And.intro ?_ ?_) |omega))) |refine oP [0] gc ?_ |((first |refine aG (fun h=>?_) (fun h=>?_) |refine aD (fun h=>?_) (fun h=>?_) |refine aX (fun h=>?_) (fun h=>?_))<;>simp only[h]) |refine A0 rfl ?_ |refine A1 rfl ?_ |((refine A4 rfl (fun h=>?_) (fun h=>?_)<;>try simp only[AK] at h)<;>(try (exfalso;omega))) |refine A7 ?_));(refine hkp _ _ ?_;clear hkp hK kp K;refine AO (AD ?_);refine AC hE [0,1] rfl ?_ ?_<;>simp[AH,lk,ren,renL,A9,AG,Aa])
 |some n=>
  obtain⟨y,hy,hyk,rfl⟩:=DD hn
  have hx:G_ l p= .ok y.n (p+2):=by rw[G_,if_pos h7,hn]
  rw[hx];simp only[Ad];have:=(List.getElem?_eq_some_iff.1 hy).1;have d3:decide (((p+1:Nat):Int)≥(l.length:Int))=false:=decide_eq_false (by omega)
  have d4:(y.k !=2)=false:=by rw[bne,show(y.k==2)=true by simpa using hyk];rfl
  have z1:((p+1:Nat):Int)+1=((p+2:Nat):Int):=by omega
  (repeat' (first |refine A6 ?_ |refine A2 ?_ |refine A3 ?_ |refine A5 ?_ |((first |refine rR (fun K kp hK hkp=>?_) |refine rX (id:=2) AA [] 12 [0,1,2,3,4,5,6,7,8,9,10,11] (fun K kp hK hkp=>?_) |refine rD (id:=18) AA 24 [0,1,2,3,4,5,6,7,8,9,10,11,12,13,14,15,16,17,18,19,20,21,22,23] (fun K kp hK hkp=>?_) |refine rU (id:=20) AA 14 [⟨0,0,[],[]⟩,⟨0,0,[],[]⟩,⟨0,0,[1],[]⟩,⟨0,0,[1,2],[]⟩,⟨0,0,[1,2,3],[]⟩,⟨0,0,[],[]⟩,⟨0,0,[5],[]⟩,⟨0,0,[5,6],[]⟩,⟨0,0,[5,6,7],[]⟩,⟨0,0,[1,2,3,4,5,6,7,8],[]⟩,⟨0,0,[1,2,3,4,5,6,7,8,9],[]⟩,⟨0,0,[1,2,3,4,5,6,7,8,9,10],[]⟩,⟨0,0,[0,1,2,3,4,5,6,7,8,9,10,11],[]⟩,⟨0,0,[0,1,2,3,4,5,6,7,8,9,10,11,12],[]⟩] 0 [97,98,99,100,101,102,103,104,105,106,107,108,109,110] [] (fun K kp hK hkp=>?_) |refine oR [0] e7 ?_ |refine iG ?_ |refine iD ?_ |refine iX ?_);simp(implicitDefEqProofs:=false) (maxSteps:=2000000) (disch:=omega) only[go_sem,d3,hy,eT,d4,z1];(repeat' (first |(refine hK _ ?_;clear hK hkp kp K) |(with_reducible refine And.intro ?_ ?_) |omega))) |((first |refine aG (fun h=>?_) (fun h=>?_) |refine aD (fun h=>?_) (fun h=>?_) |refine aX (fun h=>?_) (fun h=>?_))<;>simp only[h]) |refine A0 rfl ?_ |refine A1 rfl ?_ |((refine A4 rfl (fun h=>?_) (fun h=>?_)<;>try simp only[AK] at h)<;>(try (exfalso;omega))) |refine A7 ?_));refine Bg ?_;(refine BM ?_;(refine AB (by(simp(implicitDefEqProofs:=false) (maxSteps:=2000000) (disch:=omega) only[go_sem,results29]);rfl) ?_;refine(AC hE [0,1] rfl ?_ ?_).s<;>simp[AI,AH,lk,ren,renL,A9,AG]))
set_option maxHeartbeats 16000000 in
theorem Oa {G:List (Nat×List Value)}(T:TabsP G){l:List TK0}(hk: ∀t ∈ l,TokOk t)(hl:l.length≤100)(p:Nat)(hp:p≤l.length):
  Con prog G 29 [.p 0 0 0,.p 1 0 0] [(0,.box 43 [.ro true 3 (l.map eT),.r (.int .i64 p),.any]),(1,Sh 4 ⟨#[]⟩ (.r (.slice none 0 0)) false (.r (.slice none 0 0)) ⟨#[]⟩ false (-1))] 2
   (PQ (Ee l p) (fun _ _=> .tup []) (fun s p=>[(0,.box 43 [.ro true 3 (l.map eT),.r (.int .i64 p),.any]),(1,Sh 4 s.tab (.ro true 1 (s.names.map Bc)) s.count (.ro true 5 (s.wh.map eO)) s.ord s.down s.lim)]) 2) (PP (Ee l p) 2):=by
 unfold Sh;refine A8 func29 rfl (by kernel_rfl) (of_decide_eq_true (by kernel_rfl)) ?_;intro E hG hE;subst hG;simp only[Ai];refine A6 ?_;refine Lf T hk hl p hp rfl rfl hE (fun ns cnt p1 hw st' he=>AWP.emb he ?_) (fun e q st hw hv=>?_);rotate_left
 ·have hx:Ee l p= .bad e q:=by rw[Ee,hw];rfl
  rw[hx];exact AO (AD hv)
 have hp1:=OA hw;have hp0:Ee l p=(BH l p1 [CI]).bind fun _ p=>(D8 l p).bind fun t p=>(CY l p).bind fun wh p=>(Jy l p).bind fun o p=>(G_ l p).bind fun n p=>
  .ok ⟨4,t,[],[],ns,cnt,wh,o.1,o.2,n,str [],[]⟩ p:=by rw[Ee,hw];rfl
 clear hw he;rw[hp0];clear hp0;have m1:=H0 E.G false l p1 CI hl (by omega)
 cases h1:BH l p1 [CI] with
 |bad e q=>
  rw[h1] at m1;have m1:=m1.bad rfl;simp only[Bc,CI,str] at m1;unfold A_ at m1;(repeat' (first |refine A6 ?_ |refine A2 ?_ |refine A3 ?_ |refine A5 ?_ |((first |refine rR (fun K kp hK hkp=>?_) |refine rX (id:=2) AA [] 12 [0,1,2,3,4,5,6,7,8,9,10,11] (fun K kp hK hkp=>?_) |refine rD (id:=18) AA 24 [0,1,2,3,4,5,6,7,8,9,10,11,12,13,14,15,16,17,18,19,20,21,22,23] (fun K kp hK hkp=>?_) |refine rD (id:=20) AA 14 [0,1,2,3,4,5,6,7,8,9,10,11,12,13] (fun K kp hK hkp=>?_) |refine iG ?_ |refine iD ?_ |refine iX ?_);simp(implicitDefEqProofs:=false) (maxSteps:=2000000) (disch:=omega) only[go_sem];(repeat' (first |(refine hK _ ?_;clear hK hkp kp K) |(with_reducible refine And.intro ?_ ?_) |omega))) |refine oP [0] m1 ?_ |((first |refine aG (fun h=>?_) (fun h=>?_) |refine aD (fun h=>?_) (fun h=>?_) |refine aX (fun h=>?_) (fun h=>?_))<;>simp only[h]) |refine A0 rfl ?_ |refine A1 rfl ?_ |((refine A4 rfl (fun h=>?_) (fun h=>?_)<;>try simp only[AK] at h)<;>(try (exfalso;omega))) |refine A7 ?_));(refine hkp _ _ ?_;clear hkp hK kp K;refine AO (AD ?_);refine AC hE [0,1] rfl ?_ ?_<;>simp[AH,lk,ren,renL,A9,AG,Aa])
 |ok u q=>
  obtain⟨rfl,hl1⟩:=DO h1;rw[h1] at m1;have m1:=m1.ok rfl;(try dsimp only at m1);simp only[Bc,CI,str] at m1;unfold A_ at m1;simp only[Ad];have n2:=FW T.toTabs l (p1+1) hl (by omega) (fun t ht=>(hk t ht).s)
  cases h2:D8 l (p1+1) with
  |bad e q=>
   rw[h2] at n2;have n2:=n2.bad rfl;unfold A_ at n2;(repeat' (first |refine A6 ?_ |refine A2 ?_ |refine A3 ?_ |refine A5 ?_ |((first |refine rR (fun K kp hK hkp=>?_) |refine rX (id:=2) AA [] 12 [0,1,2,3,4,5,6,7,8,9,10,11] (fun K kp hK hkp=>?_) |refine rD (id:=18) AA 24 [0,1,2,3,4,5,6,7,8,9,10,11,12,13,14,15,16,17,18,19,20,21,22,23] (fun K kp hK hkp=>?_) |refine rD (id:=20) AA 14 [0,1,2,3,4,5,6,7,8,9,10,11,12,13] (fun K kp hK hkp=>?_) |refine oR [0] m1 ?_ |refine iG ?_ |refine iD ?_ |refine iX ?_);simp(implicitDefEqProofs:=false) (maxSteps:=2000000) (disch:=omega) only[go_sem];(repeat' (first |(refine hK _ ?_;clear hK hkp kp K) |(with_reducible refine And.intro ?_ ?_) |omega))) |refine oP [0] n2 ?_ |((first |refine aG (fun h=>?_) (fun h=>?_) |refine aD (fun h=>?_) (fun h=>?_) |refine aX (fun h=>?_) (fun h=>?_))<;>simp only[h]) |refine A0 rfl ?_ |refine A1 rfl ?_ |((refine A4 rfl (fun h=>?_) (fun h=>?_)<;>try simp only[AK] at h)<;>(try (exfalso;omega))) |refine A7 ?_));(refine hkp _ _ ?_;clear hkp hK kp K;refine AO (AD ?_);refine AC hE [0,1] rfl ?_ ?_<;>simp[AH,lk,ren,renL,A9,AG,Aa])
  |ok tab q=>
   obtain⟨rfl,hl2⟩:=Co h2;rw[h2] at n2;have n2:=n2.ok rfl;(try dsimp only at n2);unfold A_ at n2;simp only[Ad];have w3:=GP T hk hl (p1+1+1) (by omega)
   cases h3:CY l (p1+1+1) with
   |bad e q=>
    rw[h3] at w3;have w3:=w3.bad rfl;unfold A_ at w3;(repeat' (first |refine A6 ?_ |refine A2 ?_ |refine A3 ?_ |refine A5 ?_ |((first |refine rR (fun K kp hK hkp=>?_) |refine rX (id:=2) AA [] 12 [0,1,2,3,4,5,6,7,8,9,10,11] (fun K kp hK hkp=>?_) |refine rD (id:=18) AA 24 [0,1,2,3,4,5,6,7,8,9,10,11,12,13,14,15,16,17,18,19,20,21,22,23] (fun K kp hK hkp=>?_) |refine rD (id:=20) AA 14 [0,1,2,3,4,5,6,7,8,9,10,11,12,13] (fun K kp hK hkp=>?_) |refine oR [0] m1 ?_ |refine oR [0] n2 ?_ |refine iG ?_ |refine iD ?_ |refine iX ?_);simp(implicitDefEqProofs:=false) (maxSteps:=2000000) (disch:=omega) only[go_sem];(repeat' (first |(refine hK _ ?_;clear hK hkp kp K) |(with_reducible refine And.intro ?_ ?_) |omega))) |refine oP [0] w3 ?_ |((first |refine aG (fun h=>?_) (fun h=>?_) |refine aD (fun h=>?_) (fun h=>?_) |refine aX (fun h=>?_) (fun h=>?_))<;>simp only[h]) |refine A0 rfl ?_ |refine A1 rfl ?_ |((refine A4 rfl (fun h=>?_) (fun h=>?_)<;>try simp only[AK] at h)<;>(try (exfalso;omega))) |refine A7 ?_));(refine hkp _ _ ?_;clear hkp hK kp K;refine AO (AD ?_);refine AC hE [0,1] rfl ?_ ?_<;>simp[AH,lk,ren,renL,A9,AG,Aa])
   |ok wh p4=>
    obtain⟨hp4,hwl⟩:=GQ (by omega) hl h3;rw[h3] at w3;have w3:=w3.ok rfl;(try dsimp only at w3);unfold G7 B4 at w3;unfold A_ at w3;simp only[Ad];refine Ti (fx:=⟨[(0,.p 0 0 0),(1,.p 1 0 0)],[(0,.box 43 [.ro true 3 (l.map eT),.r (.int .i64 p4),.any]),(1,.box 29 [.r (.int .i64 4),.r (.string tab),.r (.slice none 0 0),.r (.slice none 0 0),.ro true 1 (ns.map Bc),.r (.bool cnt),.ro true 5 (wh.map eO),.r (.string ⟨#[]⟩),.r (.bool false),.r (.int .i64 (-1)),.r (.string ⟨#[]⟩),.r (.slice none 0 0)])],2⟩) ?_ fun K hcut=>?_;rotate_left
    ·(repeat' (first |refine A6 ?_ |refine A2 ?_ |refine A3 ?_ |refine A5 ?_ |((first |refine rR (fun K kp hK hkp=>?_) |refine rX (id:=2) AA [] 12 [0,1,2,3,4,5,6,7,8,9,10,11] (fun K kp hK hkp=>?_) |refine rD (id:=18) AA 24 [0,1,2,3,4,5,6,7,8,9,10,11,12,13,14,15,16,17,18,19,20,21,22,23] (fun K kp hK hkp=>?_) |refine rD (id:=20) AA 14 [0,1,2,3,4,5,6,7,8,9,10,11,12,13] (fun K kp hK hkp=>?_) |refine oR [0] m1 ?_ |refine oR [0] n2 ?_ |refine oR [0] w3 ?_ |refine iG ?_ |refine iD ?_ |refine iX ?_);simp(implicitDefEqProofs:=false) (maxSteps:=2000000) (disch:=omega) only[go_sem];(repeat' (first |(refine hK _ ?_;clear hK hkp kp K) |(with_reducible refine And.intro ?_ ?_) |omega))) |((first |refine aG (fun h=>?_) (fun h=>?_) |refine aD (fun h=>?_) (fun h=>?_) |refine aX (fun h=>?_) (fun h=>?_))<;>simp only[h]) |refine A0 rfl ?_ |refine A1 rfl ?_ |((refine A4 rfl (fun h=>?_) (fun h=>?_)<;>try simp only[AK] at h)<;>(try (exfalso;omega))) |refine A7 ?_))
     refine hcut _ ?_;have tk:(wh.map eO).take wh.length=wh.map eO:=List.take_of_length_le (by simp);refine Emb.trans (EI 1 6 rfl rfl (by simp only[GL,lk,rm,tk,List.drop_zero,Nat.zero_add,List.length_map,Nat.le_refl,↓reduceIte,Nat.reduceEqDiff];rfl) rfl) ?_;simp only[BO,List.set_cons_zero,List.set_cons_succ];(refine Am hE [0,1] rfl ?_ ?_<;>simp[Bi,AH,lk,ren,renL,A9,AG]<;>(try omega))
    clear m1 n2 w3;cases h4:AP l p4 1 DR
    ·have e4:=AU E.G l p4 1 DR hl (by omega) h4
     simp only[DR,str] at e4;unfold A_ at e4
     have ho:Jy l p4= .ok (str [],false) p4:=by rw[Jy,h4];rfl
     rw[ho];simp only[Ad];refine QL (fx:=⟨[(0,.p 0 0 0),(1,.p 1 0 0)],[(0,.box 43 [.ro true 3 (l.map eT),.r (.int .i64 p4),.any]),(1,.box 29 [.r (.int .i64 4),.r (.string tab),.r (.slice none 0 0),.r (.slice none 0 0),.ro true 1 (ns.map Bc),.r (.bool cnt),.ro true 5 (wh.map eO),.r (.string (str [])),.r (.bool false),.r (.int .i64 (-1)),.r (.string ⟨#[]⟩),.r (.slice none 0 0)])],2⟩) (Hv T hk hl tab ns cnt wh _ _ p4 hp4 rfl hE rfl) fun K hcut=>?_;(repeat' (first |refine A6 ?_ |refine A2 ?_ |refine A3 ?_ |refine A5 ?_ |((first |refine rR (fun K kp hK hkp=>?_) |refine rX (id:=2) AA [] 12 [0,1,2,3,4,5,6,7,8,9,10,11] (fun K kp hK hkp=>?_) |refine rD (id:=18) AA 24 [0,1,2,3,4,5,6,7,8,9,10,11,12,13,14,15,16,17,18,19,20,21,22,23] (fun K kp hK hkp=>?_) |refine rD (id:=20) AA 14 [0,1,2,3,4,5,6,7,8,9,10,11,12,13] (fun K kp hK hkp=>?_) |refine oR [0] e4 ?_ |refine iG ?_ |refine iD ?_ |refine iX ?_);simp(implicitDefEqProofs:=false) (maxSteps:=2000000) (disch:=omega) only[go_sem];(repeat' (first |(refine hK _ ?_;clear hK hkp kp K) |(with_reducible refine And.intro ?_ ?_) |omega))) |((first |refine aG (fun h=>?_) (fun h=>?_) |refine aD (fun h=>?_) (fun h=>?_) |refine aX (fun h=>?_) (fun h=>?_))<;>simp only[h]) |refine A0 rfl ?_ |refine A1 rfl ?_ |((refine A4 rfl (fun h=>?_) (fun h=>?_)<;>try simp only[AK] at h)<;>(try (exfalso;omega))) |refine A7 ?_));refine hcut _ ?_;(refine Am hE [0,1] rfl ?_ ?_<;>simp[Bi,AH,lk,ren,renL,A9,AG,str]<;>(try omega))
    ·have hl4:=Aq h4
     have e4:=C0 E.G l p4 1 DR hl (by omega) h4;simp only[DR,str] at e4;unfold A_ at e4
     have ho:Jy l p4=(BH l (p4+1) [O0]).bind fun _ p=>(D8 l p).bind fun s p=>if AP l p 1 F5=true then .ok (s,true) (p+1) else .ok (s,false) p:=by rw[Jy,if_pos h4]
     rw[ho];have m5:=H0 E.G false l (p4+1) O0 hl (by omega)
     cases h5:BH l (p4+1) [O0] with
     |bad e q=>
      rw[h5] at m5;have m5:=m5.bad rfl;simp only[Bc,O0,str] at m5;unfold A_ at m5;(repeat' (first |refine A6 ?_ |refine A2 ?_ |refine A3 ?_ |refine A5 ?_ |((first |refine rR (fun K kp hK hkp=>?_) |refine rX (id:=2) AA [] 12 [0,1,2,3,4,5,6,7,8,9,10,11] (fun K kp hK hkp=>?_) |refine rD (id:=18) AA 24 [0,1,2,3,4,5,6,7,8,9,10,11,12,13,14,15,16,17,18,19,20,21,22,23] (fun K kp hK hkp=>?_) |refine rD (id:=20) AA 14 [0,1,2,3,4,5,6,7,8,9,10,11,12,13] (fun K kp hK hkp=>?_) |refine oR [0] e4 ?_ |refine iG ?_ |refine iD ?_ |refine iX ?_);simp(implicitDefEqProofs:=false) (maxSteps:=2000000) (disch:=omega) only[go_sem];(repeat' (first |(refine hK _ ?_;clear hK hkp kp K) |(with_reducible refine And.intro ?_ ?_) |omega))) |refine oP [0] m5 ?_ |((first |refine aG (fun h=>?_) (fun h=>?_) |refine aD (fun h=>?_) (fun h=>?_) |refine aX (fun h=>?_) (fun h=>?_))<;>simp only[h]) |refine A0 rfl ?_ |refine A1 rfl ?_ |((refine A4 rfl (fun h=>?_) (fun h=>?_)<;>try simp only[AK] at h)<;>(try (exfalso;omega))) |refine A7 ?_));(refine hkp _ _ ?_;clear hkp hK kp K;refine AO (AD ?_);refine AC hE [0,1] rfl ?_ ?_<;>simp[AH,lk,ren,renL,A9,AG,Aa])
     |ok u q=>
      obtain⟨rfl,hl5⟩:=DO h5;rw[h5] at m5;have m5:=m5.ok rfl;(try dsimp only at m5);simp only[Bc,O0,str] at m5;unfold A_ at m5;simp only[Ad];have n6:=FW T.toTabs l (p4+1+1) hl (by omega) (fun t ht=>(hk t ht).s)
      cases h6:D8 l (p4+1+1) with
      |bad e q=>
       rw[h6] at n6;have n6:=n6.bad rfl;unfold A_ at n6;(repeat' (first |refine A6 ?_ |refine A2 ?_ |refine A3 ?_ |refine A5 ?_ |((first |refine rR (fun K kp hK hkp=>?_) |refine rX (id:=2) AA [] 12 [0,1,2,3,4,5,6,7,8,9,10,11] (fun K kp hK hkp=>?_) |refine rD (id:=18) AA 24 [0,1,2,3,4,5,6,7,8,9,10,11,12,13,14,15,16,17,18,19,20,21,22,23] (fun K kp hK hkp=>?_) |refine rD (id:=20) AA 14 [0,1,2,3,4,5,6,7,8,9,10,11,12,13] (fun K kp hK hkp=>?_) |refine oR [0] e4 ?_ |refine oR [0] m5 ?_ |refine iG ?_ |refine iD ?_ |refine iX ?_);simp(implicitDefEqProofs:=false) (maxSteps:=2000000) (disch:=omega) only[go_sem];(repeat' (first |(refine hK _ ?_;clear hK hkp kp K) |(with_reducible refine And.intro ?_ ?_) |omega))) |refine oP [0] n6 ?_ |((first |refine aG (fun h=>?_) (fun h=>?_) |refine aD (fun h=>?_) (fun h=>?_) |refine aX (fun h=>?_) (fun h=>?_))<;>simp only[h]) |refine A0 rfl ?_ |refine A1 rfl ?_ |((refine A4 rfl (fun h=>?_) (fun h=>?_)<;>try simp only[AK] at h)<;>(try (exfalso;omega))) |refine A7 ?_));(refine hkp _ _ ?_;clear hkp hK kp K;refine AO (AD ?_);refine AC hE [0,1] rfl ?_ ?_<;>simp[AH,lk,ren,renL,A9,AG,Aa])
      |ok od q=>
       obtain⟨rfl,hl6⟩:=Co h6;rw[h6] at n6;have n6:=n6.ok rfl;(try dsimp only at n6);unfold A_ at n6;simp only[Ad];cases h7:AP l (p4+1+1+1) 1 F5
       ·have e7:=AU E.G l (p4+1+1+1) 1 F5 hl (by omega) h7
        simp only[F5,str] at e7;unfold A_ at e7;simp only[Bool.false_eq_true,if_false];refine QL (fx:=⟨[(0,.p 0 0 0),(1,.p 1 0 0)],[(0,.box 43 [.ro true 3 (l.map eT),.r (.int .i64 (p4+1+1+1:Nat)),.any]),(1,.box 29 [.r (.int .i64 4),.r (.string tab),.r (.slice none 0 0),.r (.slice none 0 0),.ro true 1 (ns.map Bc),.r (.bool cnt),.ro true 5 (wh.map eO),.r (.string od),.r (.bool false),.r (.int .i64 (-1)),.r (.string ⟨#[]⟩),.r (.slice none 0 0)])],2⟩) (Hv T hk hl tab ns cnt wh _ _ (p4+1+1+1) (by omega) rfl hE rfl) fun K hcut=>?_;(repeat' (first |refine A6 ?_ |refine A2 ?_ |refine A3 ?_ |refine A5 ?_ |((first |refine rR (fun K kp hK hkp=>?_) |refine rX (id:=2) AA [] 12 [0,1,2,3,4,5,6,7,8,9,10,11] (fun K kp hK hkp=>?_) |refine rD (id:=18) AA 24 [0,1,2,3,4,5,6,7,8,9,10,11,12,13,14,15,16,17,18,19,20,21,22,23] (fun K kp hK hkp=>?_) |refine rD (id:=20) AA 14 [0,1,2,3,4,5,6,7,8,9,10,11,12,13] (fun K kp hK hkp=>?_) |refine oR [0] e4 ?_ |refine oR [0] m5 ?_ |refine oR [0] n6 ?_ |refine oR [0] e7 ?_ |refine iG ?_ |refine iD ?_ |refine iX ?_);simp(implicitDefEqProofs:=false) (maxSteps:=2000000) (disch:=omega) only[go_sem];(repeat' (first |(refine hK _ ?_;clear hK hkp kp K) |(with_reducible refine And.intro ?_ ?_) |omega))) |((first |refine aG (fun h=>?_) (fun h=>?_) |refine aD (fun h=>?_) (fun h=>?_) |refine aX (fun h=>?_) (fun h=>?_))<;>simp only[h]) |refine A0 rfl ?_ |refine A1 rfl ?_ |((refine A4 rfl (fun h=>?_) (fun h=>?_)<;>try simp only[AK] at h)<;>(try (exfalso;omega))) |refine A7 ?_));refine hcut _ ?_;(refine Am hE [0,1] rfl ?_ ?_<;>simp[Bi,AH,lk,ren,renL,A9,AG,str]<;>(try omega))
       ·have hl7:=Aq h7
        have e7:=C0 E.G l (p4+1+1+1) 1 F5 hl (by omega) h7;simp only[F5,str] at e7;unfold A_ at e7;simp only[if_true];refine QL (fx:=⟨[(0,.p 0 0 0),(1,.p 1 0 0)],[(0,.box 43 [.ro true 3 (l.map eT),.r (.int .i64 (p4+1+1+1+1:Nat)),.any]),(1,.box 29 [.r (.int .i64 4),.r (.string tab),.r (.slice none 0 0),.r (.slice none 0 0),.ro true 1 (ns.map Bc),.r (.bool cnt),.ro true 5 (wh.map eO),.r (.string od),.r (.bool true),.r (.int .i64 (-1)),.r (.string ⟨#[]⟩),.r (.slice none 0 0)])],2⟩) (Hv T hk hl tab ns cnt wh _ _ (p4+1+1+1+1) (by omega) rfl hE rfl) fun K hcut=>?_;(repeat' (first |refine A6 ?_ |refine A2 ?_ |refine A3 ?_ |refine A5 ?_ |((first |refine rR (fun K kp hK hkp=>?_) |refine rX (id:=2) AA [] 12 [0,1,2,3,4,5,6,7,8,9,10,11] (fun K kp hK hkp=>?_) |refine rD (id:=18) AA 24 [0,1,2,3,4,5,6,7,8,9,10,11,12,13,14,15,16,17,18,19,20,21,22,23] (fun K kp hK hkp=>?_) |refine rD (id:=20) AA 14 [0,1,2,3,4,5,6,7,8,9,10,11,12,13] (fun K kp hK hkp=>?_) |refine oR [0] e4 ?_ |refine oR [0] m5 ?_ |refine oR [0] n6 ?_ |refine oR [0] e7 ?_ |refine iG ?_ |refine iD ?_ |refine iX ?_);simp(implicitDefEqProofs:=false) (maxSteps:=2000000) (disch:=omega) only[go_sem];(repeat' (first |(refine hK _ ?_;clear hK hkp kp K) |(with_reducible refine And.intro ?_ ?_) |omega))) |((first |refine aG (fun h=>?_) (fun h=>?_) |refine aD (fun h=>?_) (fun h=>?_) |refine aX (fun h=>?_) (fun h=>?_))<;>simp only[h]) |refine A0 rfl ?_ |refine A1 rfl ?_ |((refine A4 rfl (fun h=>?_) (fun h=>?_)<;>try simp only[AK] at h)<;>(try (exfalso;omega))) |refine A7 ?_));refine hcut _ ?_;(refine Am hE [0,1] rfl ?_ ?_<;>simp[Bi,AH,lk,ren,renL,A9,AG,str]<;>(try omega))
end Go.AM
namespace Go.AM
open Go Go.RowKit
open Go.Proofs.YtmgddlckgpfccaaDoor (OP Ac AY AR str)
theorem Bt {P:Program}{G:List (Nat×List Value)}{f:Nat}{xs:List AV}{o o':List (Nat×Nd)}{n n':Nat}{y y':AV}{R:AV→List (Nat×Nd)→Nat→Prop}(hc:Con P G f xs o n (Is y o' n') R)(h: ∀(w:World)(z:Ag)(th:List NLoc)(v:Value),Rep w z th y v→Rep w z th y' v):Con P G f xs o n (Is y' o' n') R:=by
 refine⟨hc.1,fun w th z own vs h1 h2 h3=>(hc.2 w th z own vs h1 h2 h3).mono ?_⟩;rintro e w' ⟨v,u,o2,n2,th',z',hh,hm,hr⟩
 rcases hh with ⟨rfl,rfl,rfl,rfl⟩ |⟨rfl,hR⟩
 ·exact⟨v,y',_,_,th',z',.inl ⟨rfl,rfl,rfl,rfl⟩,hm,h _ _ _ _ hr⟩
 ·exact⟨v,u,o2,n2,th',z',.inr ⟨rfl,hR⟩,hm,hr⟩
theorem O_ {l:List TK0}{p q:Nat}{s:ST}(h:Ee l p= .ok s q):s.k=4∧s.cols=[]∧s.row=[]∧s.set=str []∧s.to=[]:=by
 unfold Ee at h
 cases h1:Cs l p with
 |bad e q=>rw[h1] at h;cases h
 |ok w p1=>
 rw[h1,Ad] at h
 cases h2:BH l p1 [CI] with
 |bad e q=>rw[h2] at h;cases h
 |ok u p2=>
 rw[h2,Ad] at h
 cases h3:D8 l p2 with
 |bad e q=>rw[h3] at h;cases h
 |ok u p3=>
 rw[h3,Ad] at h
 cases h4:CY l p3 with
 |bad e q=>rw[h4] at h;cases h
 |ok u p4=>
 rw[h4,Ad] at h
 cases h5:Jy l p4 with
 |bad e q=>rw[h5] at h;cases h
 |ok u p5=>
 rw[h5,Ad] at h
 cases h6:G_ l p5 with
 |bad e q=>rw[h6] at h;cases h
 |ok u p6=>rw[h6,Ad] at h;cases h;exact⟨rfl,rfl,rfl,rfl,rfl⟩
attribute [local irreducible] AWP BS
set_option maxHeartbeats 16000000 in
theorem Kk {G:List (Nat×List Value)}(T:TabsP G){l:List TK0}(hk: ∀t ∈ l,TokOk t)(hl:l.length≤100)(p:Nat)(hp:p≤l.length)(h0:AP l p 1 AL=true):
  Con prog G 11 [.p 0 0 0] (A_ l p) 1 (PQ (BG l p) (fun s _=> .agg (CU s)) (fun _ p=>A_ l p) 1) (PP (BG l p) 1):=by
 have e0:=C0 G l p 1 AL hl (by omega) h0;simp only[AL,str] at e0;unfold A_ at e0;have hlt:=Aq h0
 have hx:BG l p=(BH l (p+1) [Bk]).bind fun _ p=>(D8 l p).bind fun t p=>(Fa l p).bind fun cs p=> .ok {Cw 1 t with cols:=cs} p:=by rw[BG,if_pos h0]
 have c0:=H0 G false l (p+1) Bk hl (by omega)
 cases hc0:BH l (p+1) [Bk] with
 |bad e q=>
  rw[hc0] at c0;have c0:=c0.bad rfl;simp only[Bc,Bk,str] at c0;unfold A_ at c0;refine Con.of_bad (e:=e) (p:=q) (by rw[hx];simp only[hc0,Ad,BU]) ?_;unfold A_;refine A8 func11 rfl (by kernel_rfl) (of_decide_eq_true (by kernel_rfl)) ?_;intro E hG hE;subst hG;simp only[Ai];(repeat' (first |refine A6 ?_ |refine A2 ?_ |refine A3 ?_ |refine A5 ?_ |((first |refine rR (fun K kp hK hkp=>?_) |refine oR [0] e0 ?_ |refine iG ?_);simp(implicitDefEqProofs:=false) (maxSteps:=2000000) (disch:=omega) only[go_sem];(repeat' (first |(refine hK _ ?_;clear hK hkp kp K) |(with_reducible refine And.intro ?_ ?_) |omega))) |refine oP [0] c0 ?_ |((first |refine aG (fun h=>?_) (fun h=>?_) |refine aD (fun h=>?_) (fun h=>?_) |refine aX (fun h=>?_) (fun h=>?_))<;>simp only[h]) |refine A0 rfl ?_ |refine A1 rfl ?_ |((refine A4 rfl (fun h=>?_) (fun h=>?_)<;>try simp only[AK] at h)<;>(try (exfalso;omega))) |refine A7 ?_));(refine hkp _ _ ?_;clear hkp hK kp K;refine AD ?_;refine AC hE [0] rfl ?_ ?_<;>simp[AH,lk,ren,renL,A9,AG,Aa])
 |ok u_ q0=>
  rw[hc0] at c0;have c0:=c0.ok rfl;(try dsimp only at c0);simp only[Bc,Bk,str] at c0;obtain⟨rfl,hl0⟩:=DO hc0;unfold A_ at c0;have c1:=FW T.toTabs l (p+1+1) hl (by omega) (fun t ht=>(hk t ht).s)
  cases hc1:D8 l (p+1+1) with
  |bad e q=>
   rw[hc1] at c1;have c1:=c1.bad rfl;unfold A_ at c1;refine Con.of_bad (e:=e) (p:=q) (by rw[hx];simp only[hc0,hc1,Ad,BU]) ?_;unfold A_;refine A8 func11 rfl (by kernel_rfl) (of_decide_eq_true (by kernel_rfl)) ?_;intro E hG hE;subst hG;simp only[Ai];(repeat' (first |refine A6 ?_ |refine A2 ?_ |refine A3 ?_ |refine A5 ?_ |((first |refine rR (fun K kp hK hkp=>?_) |refine oR [0] e0 ?_ |refine oR [0] c0 ?_ |refine iG ?_);simp(implicitDefEqProofs:=false) (maxSteps:=2000000) (disch:=omega) only[go_sem];(repeat' (first |(refine hK _ ?_;clear hK hkp kp K) |(with_reducible refine And.intro ?_ ?_) |omega))) |refine oP [0] c1 ?_ |((first |refine aG (fun h=>?_) (fun h=>?_) |refine aD (fun h=>?_) (fun h=>?_) |refine aX (fun h=>?_) (fun h=>?_))<;>simp only[h]) |refine A0 rfl ?_ |refine A1 rfl ?_ |((refine A4 rfl (fun h=>?_) (fun h=>?_)<;>try simp only[AK] at h)<;>(try (exfalso;omega))) |refine A7 ?_));(refine hkp _ _ ?_;clear hkp hK kp K;refine AD ?_;refine AC hE [0] rfl ?_ ?_<;>simp[AH,lk,ren,renL,A9,AG,Aa])
  |ok t q1=>
   rw[hc1] at c1;have c1:=c1.ok rfl;(try dsimp only at c1);obtain⟨rfl,hl1⟩:=Co hc1;unfold A_ at c1;have c2:=LR T hk hl (p+1+1+1) (by omega)
   cases hc2:Fa l (p+1+1+1) with
   |bad e q=>
    rw[hc2] at c2;have c2:=c2.bad rfl;unfold A_ at c2;refine Con.of_bad (e:=e) (p:=q) (by rw[hx];simp only[hc0,hc1,hc2,Ad,BU]) ?_;unfold A_;refine A8 func11 rfl (by kernel_rfl) (of_decide_eq_true (by kernel_rfl)) ?_;intro E hG hE;subst hG;simp only[Ai];(repeat' (first |refine A6 ?_ |refine A2 ?_ |refine A3 ?_ |refine A5 ?_ |((first |refine rR (fun K kp hK hkp=>?_) |refine oR [0] e0 ?_ |refine oR [0] c0 ?_ |refine oR [0] c1 ?_ |refine iG ?_);simp(implicitDefEqProofs:=false) (maxSteps:=2000000) (disch:=omega) only[go_sem];(repeat' (first |(refine hK _ ?_;clear hK hkp kp K) |(with_reducible refine And.intro ?_ ?_) |omega))) |refine oP [0] c2 ?_ |((first |refine aG (fun h=>?_) (fun h=>?_) |refine aD (fun h=>?_) (fun h=>?_) |refine aX (fun h=>?_) (fun h=>?_))<;>simp only[h]) |refine A0 rfl ?_ |refine A1 rfl ?_ |((refine A4 rfl (fun h=>?_) (fun h=>?_)<;>try simp only[AK] at h)<;>(try (exfalso;omega))) |refine A7 ?_));(refine hkp _ _ ?_;clear hkp hK kp K;refine AD ?_;refine AC hE [0] rfl ?_ ?_<;>simp[AH,lk,ren,renL,A9,AG,Aa])
   |ok cs q2=>
    rw[hc2] at c2;have c2:=c2.ok rfl;(try dsimp only at c2);unfold A_ at c2;refine Con.of_ok (a:={Cw 1 t with cols:=cs}) (p:=q2) (by rw[hx];simp only[hc0,hc1,hc2,Ad]) ?_;(try dsimp only);refine Bt (y:= .agg [.r (.int .i64 1),.r (.string t),.ro true 2 (cs.map eC),.r (.slice none 0 0),.r (.slice none 0 0),.r (.bool false),.r (.slice none 0 0),.r (.string ⟨#[]⟩),.r (.bool false),.r (.int .i64 (-1)),.r (.string ⟨#[]⟩),.r (.slice none 0 0)]) ?_ (fun w z th v hr=>C9 (by simp[wk,GJ,CU,Cw,str]) hr);unfold A_;refine A8 func11 rfl (by kernel_rfl) (of_decide_eq_true (by kernel_rfl)) ?_;intro E hG hE;subst hG;simp only[Ai];(repeat' (first |refine A6 ?_ |refine A2 ?_ |refine A3 ?_ |refine A5 ?_ |((first |refine rR (fun K kp hK hkp=>?_) |refine oR [0] e0 ?_ |refine oR [0] c0 ?_ |refine oR [0] c1 ?_ |refine oR [0] c2 ?_ |refine iG ?_);simp(implicitDefEqProofs:=false) (maxSteps:=2000000) (disch:=omega) only[go_sem];(repeat' (first |(refine hK _ ?_;clear hK hkp kp K) |(with_reducible refine And.intro ?_ ?_) |omega))) |((first |refine aG (fun h=>?_) (fun h=>?_) |refine aD (fun h=>?_) (fun h=>?_) |refine aX (fun h=>?_) (fun h=>?_))<;>simp only[h]) |refine A0 rfl ?_ |refine A1 rfl ?_ |((refine A4 rfl (fun h=>?_) (fun h=>?_)<;>try simp only[AK] at h)<;>(try (exfalso;omega))) |refine A7 ?_));(refine AB (by(simp(implicitDefEqProofs:=false) (maxSteps:=2000000) (disch:=omega) only[go_sem,results11]);rfl) ?_;refine(AC hE [0] rfl ?_ ?_).s<;>simp[AI,AH,lk,ren,renL,A9,AG])
set_option maxHeartbeats 16000000 in
theorem N9 {G:List (Nat×List Value)}(T:TabsP G){l:List TK0}(hk: ∀t ∈ l,TokOk t)(hl:l.length≤100)(p:Nat)(hp:p≤l.length)(h0:AP l p 1 AL=false)(h1:AP l p 1 B1=true):
  Con prog G 11 [.p 0 0 0] (A_ l p) 1 (PQ (BG l p) (fun s _=> .agg (CU s)) (fun _ p=>A_ l p) 1) (PP (BG l p) 1):=by
 have e0:=AU G l p 1 AL hl (by omega) h0;simp only[AL,str] at e0;unfold A_ at e0;have e1:=C0 G l p 1 B1 hl (by omega) h1;simp only[B1,str] at e1;unfold A_ at e1;have hlt:=Aq h1
 have hx:BG l p=(BH l (p+1) [Bk]).bind fun _ p=>(D8 l p).bind fun t p=> .ok (Cw 2 t) p:=by rw[BG,if_neg (by rw[h0];decide),if_pos h1]
 have c0:=H0 G false l (p+1) Bk hl (by omega)
 cases hc0:BH l (p+1) [Bk] with
 |bad e q=>
  rw[hc0] at c0;have c0:=c0.bad rfl;simp only[Bc,Bk,str] at c0;unfold A_ at c0;refine Con.of_bad (e:=e) (p:=q) (by rw[hx];simp only[hc0,Ad,BU]) ?_;unfold A_;refine A8 func11 rfl (by kernel_rfl) (of_decide_eq_true (by kernel_rfl)) ?_;intro E hG hE;subst hG;simp only[Ai];(repeat' (first |refine A6 ?_ |refine A2 ?_ |refine A3 ?_ |refine A5 ?_ |((first |refine rR (fun K kp hK hkp=>?_) |refine oR [0] e0 ?_ |refine oR [0] e1 ?_ |refine iG ?_);simp(implicitDefEqProofs:=false) (maxSteps:=2000000) (disch:=omega) only[go_sem];(repeat' (first |(refine hK _ ?_;clear hK hkp kp K) |(with_reducible refine And.intro ?_ ?_) |omega))) |refine oP [0] c0 ?_ |((first |refine aG (fun h=>?_) (fun h=>?_) |refine aD (fun h=>?_) (fun h=>?_) |refine aX (fun h=>?_) (fun h=>?_))<;>simp only[h]) |refine A0 rfl ?_ |refine A1 rfl ?_ |((refine A4 rfl (fun h=>?_) (fun h=>?_)<;>try simp only[AK] at h)<;>(try (exfalso;omega))) |refine A7 ?_));(refine hkp _ _ ?_;clear hkp hK kp K;refine AD ?_;refine AC hE [0] rfl ?_ ?_<;>simp[AH,lk,ren,renL,A9,AG,Aa])
 |ok u_ q0=>
  rw[hc0] at c0;have c0:=c0.ok rfl;(try dsimp only at c0);simp only[Bc,Bk,str] at c0;obtain⟨rfl,hl0⟩:=DO hc0;unfold A_ at c0;have c1:=FW T.toTabs l (p+1+1) hl (by omega) (fun t ht=>(hk t ht).s)
  cases hc1:D8 l (p+1+1) with
  |bad e q=>
   rw[hc1] at c1;have c1:=c1.bad rfl;unfold A_ at c1;refine Con.of_bad (e:=e) (p:=q) (by rw[hx];simp only[hc0,hc1,Ad,BU]) ?_;unfold A_;refine A8 func11 rfl (by kernel_rfl) (of_decide_eq_true (by kernel_rfl)) ?_;intro E hG hE;subst hG;simp only[Ai];(repeat' (first |refine A6 ?_ |refine A2 ?_ |refine A3 ?_ |refine A5 ?_ |((first |refine rR (fun K kp hK hkp=>?_) |refine oR [0] e0 ?_ |refine oR [0] e1 ?_ |refine oR [0] c0 ?_ |refine iG ?_);simp(implicitDefEqProofs:=false) (maxSteps:=2000000) (disch:=omega) only[go_sem];(repeat' (first |(refine hK _ ?_;clear hK hkp kp K) |(with_reducible refine And.intro ?_ ?_) |omega))) |refine oP [0] c1 ?_ |((first |refine aG (fun h=>?_) (fun h=>?_) |refine aD (fun h=>?_) (fun h=>?_) |refine aX (fun h=>?_) (fun h=>?_))<;>simp only[h]) |refine A0 rfl ?_ |refine A1 rfl ?_ |((refine A4 rfl (fun h=>?_) (fun h=>?_)<;>try simp only[AK] at h)<;>(try (exfalso;omega))) |refine A7 ?_));(refine hkp _ _ ?_;clear hkp hK kp K;refine AD ?_;refine AC hE [0] rfl ?_ ?_<;>simp[AH,lk,ren,renL,A9,AG,Aa])
  |ok t q1=>
   rw[hc1] at c1;have c1:=c1.ok rfl;(try dsimp only at c1);obtain⟨rfl,hl1⟩:=Co hc1;unfold A_ at c1;refine Con.of_ok (a:=Cw 2 t) (p:=p+1+1+1) (by rw[hx];simp only[hc0,hc1,Ad]) ?_;(try dsimp only);refine Bt (y:= .agg [.r (.int .i64 2),.r (.string t),.r (.slice none 0 0),.r (.slice none 0 0),.r (.slice none 0 0),.r (.bool false),.r (.slice none 0 0),.r (.string ⟨#[]⟩),.r (.bool false),.r (.int .i64 (-1)),.r (.string ⟨#[]⟩),.r (.slice none 0 0)]) ?_ (fun w z th v hr=>C9 (by simp[wk,GJ,CU,Cw,str]) hr);unfold A_;refine A8 func11 rfl (by kernel_rfl) (of_decide_eq_true (by kernel_rfl)) ?_;intro E hG hE;subst hG;simp only[Ai];(repeat' (first |refine A6 ?_ |refine A2 ?_ |refine A3 ?_ |refine A5 ?_ |((first |refine rR (fun K kp hK hkp=>?_) |refine oR [0] e0 ?_ |refine oR [0] e1 ?_ |refine oR [0] c0 ?_ |refine oR [0] c1 ?_ |refine iG ?_);simp(implicitDefEqProofs:=false) (maxSteps:=2000000) (disch:=omega) only[go_sem];(repeat' (first |(refine hK _ ?_;clear hK hkp kp K) |(with_reducible refine And.intro ?_ ?_) |omega))) |((first |refine aG (fun h=>?_) (fun h=>?_) |refine aD (fun h=>?_) (fun h=>?_) |refine aX (fun h=>?_) (fun h=>?_))<;>simp only[h]) |refine A0 rfl ?_ |refine A1 rfl ?_ |((refine A4 rfl (fun h=>?_) (fun h=>?_)<;>try simp only[AK] at h)<;>(try (exfalso;omega))) |refine A7 ?_));(refine AB (by(simp(implicitDefEqProofs:=false) (maxSteps:=2000000) (disch:=omega) only[go_sem,results11]);rfl) ?_;refine(AC hE [0] rfl ?_ ?_).s<;>simp[AI,AH,lk,ren,renL,A9,AG])
set_option maxHeartbeats 16000000 in
theorem Ki {G:List (Nat×List Value)}(T:TabsP G){l:List TK0}(hk: ∀t ∈ l,TokOk t)(hl:l.length≤100)(p:Nat)(hp:p≤l.length)(h0:AP l p 1 AL=false)(h1:AP l p 1 B1=false)(h2:AP l p 1 AX=true):
  Con prog G 11 [.p 0 0 0] (A_ l p) 1 (PQ (BG l p) (fun s _=> .agg (CU s)) (fun _ p=>A_ l p) 1) (PP (BG l p) 1):=by
 have e0:=AU G l p 1 AL hl (by omega) h0;simp only[AL,str] at e0;unfold A_ at e0;have e1:=AU G l p 1 B1 hl (by omega) h1;simp only[B1,str] at e1;unfold A_ at e1;have e2:=C0 G l p 1 AX hl (by omega) h2;simp only[AX,str] at e2;unfold A_ at e2;have hlt:=Aq h2
 have hx:BG l p=(BH l (p+1) [ED]).bind fun _ p=>(D8 l p).bind fun t p=>(BH l p [Cg]).bind fun _ p=>(Ix l p).bind fun r p=> .ok {Cw 3 t with row:=r} p:=by rw[BG,if_neg (by rw[h0];decide),if_neg (by rw[h1];decide),if_pos h2]
 have c0:=H0 G false l (p+1) ED hl (by omega)
 cases hc0:BH l (p+1) [ED] with
 |bad e q=>
  rw[hc0] at c0;have c0:=c0.bad rfl;simp only[Bc,ED,str] at c0;unfold A_ at c0;refine Con.of_bad (e:=e) (p:=q) (by rw[hx];simp only[hc0,Ad,BU]) ?_;unfold A_;refine A8 func11 rfl (by kernel_rfl) (of_decide_eq_true (by kernel_rfl)) ?_;intro E hG hE;subst hG;simp only[Ai];(repeat' (first |refine A6 ?_ |refine A2 ?_ |refine A3 ?_ |refine A5 ?_ |((first |refine rR (fun K kp hK hkp=>?_) |refine oR [0] e0 ?_ |refine oR [0] e1 ?_ |refine oR [0] e2 ?_ |refine iG ?_);simp(implicitDefEqProofs:=false) (maxSteps:=2000000) (disch:=omega) only[go_sem];(repeat' (first |(refine hK _ ?_;clear hK hkp kp K) |(with_reducible refine And.intro ?_ ?_) |omega))) |refine oP [0] c0 ?_ |((first |refine aG (fun h=>?_) (fun h=>?_) |refine aD (fun h=>?_) (fun h=>?_) |refine aX (fun h=>?_) (fun h=>?_))<;>simp only[h]) |refine A0 rfl ?_ |refine A1 rfl ?_ |((refine A4 rfl (fun h=>?_) (fun h=>?_)<;>try simp only[AK] at h)<;>(try (exfalso;omega))) |refine A7 ?_));(refine hkp _ _ ?_;clear hkp hK kp K;refine AD ?_;refine AC hE [0] rfl ?_ ?_<;>simp[AH,lk,ren,renL,A9,AG,Aa])
 |ok u_ q0=>
  rw[hc0] at c0;have c0:=c0.ok rfl;(try dsimp only at c0);simp only[Bc,ED,str] at c0;obtain⟨rfl,hl0⟩:=DO hc0;unfold A_ at c0;have c1:=FW T.toTabs l (p+1+1) hl (by omega) (fun t ht=>(hk t ht).s)
  cases hc1:D8 l (p+1+1) with
  |bad e q=>
   rw[hc1] at c1;have c1:=c1.bad rfl;unfold A_ at c1;refine Con.of_bad (e:=e) (p:=q) (by rw[hx];simp only[hc0,hc1,Ad,BU]) ?_;unfold A_;refine A8 func11 rfl (by kernel_rfl) (of_decide_eq_true (by kernel_rfl)) ?_;intro E hG hE;subst hG;simp only[Ai];(repeat' (first |refine A6 ?_ |refine A2 ?_ |refine A3 ?_ |refine A5 ?_ |((first |refine rR (fun K kp hK hkp=>?_) |refine oR [0] e0 ?_ |refine oR [0] e1 ?_ |refine oR [0] e2 ?_ |refine oR [0] c0 ?_ |refine iG ?_);simp(implicitDefEqProofs:=false) (maxSteps:=2000000) (disch:=omega) only[go_sem];(repeat' (first |(refine hK _ ?_;clear hK hkp kp K) |(with_reducible refine And.intro ?_ ?_) |omega))) |refine oP [0] c1 ?_ |((first |refine aG (fun h=>?_) (fun h=>?_) |refine aD (fun h=>?_) (fun h=>?_) |refine aX (fun h=>?_) (fun h=>?_))<;>simp only[h]) |refine A0 rfl ?_ |refine A1 rfl ?_ |((refine A4 rfl (fun h=>?_) (fun h=>?_)<;>try simp only[AK] at h)<;>(try (exfalso;omega))) |refine A7 ?_));(refine hkp _ _ ?_;clear hkp hK kp K;refine AD ?_;refine AC hE [0] rfl ?_ ?_<;>simp[AH,lk,ren,renL,A9,AG,Aa])
  |ok t q1=>
   rw[hc1] at c1;have c1:=c1.ok rfl;(try dsimp only at c1);obtain⟨rfl,hl1⟩:=Co hc1;unfold A_ at c1;have c2:=H0 G false l (p+1+1+1) Cg hl (by omega)
   cases hc2:BH l (p+1+1+1) [Cg] with
   |bad e q=>
    rw[hc2] at c2;have c2:=c2.bad rfl;simp only[Bc,Cg,str] at c2;unfold A_ at c2;refine Con.of_bad (e:=e) (p:=q) (by rw[hx];simp only[hc0,hc1,hc2,Ad,BU]) ?_;unfold A_;refine A8 func11 rfl (by kernel_rfl) (of_decide_eq_true (by kernel_rfl)) ?_;intro E hG hE;subst hG;simp only[Ai];(repeat' (first |refine A6 ?_ |refine A2 ?_ |refine A3 ?_ |refine A5 ?_ |((first |refine rR (fun K kp hK hkp=>?_) |refine oR [0] e0 ?_ |refine oR [0] e1 ?_ |refine oR [0] e2 ?_ |refine oR [0] c0 ?_ |refine oR [0] c1 ?_ |refine iG ?_);simp(implicitDefEqProofs:=false) (maxSteps:=2000000) (disch:=omega) only[go_sem];(repeat' (first |(refine hK _ ?_;clear hK hkp kp K) |(with_reducible refine And.intro ?_ ?_) |omega))) |refine oP [0] c2 ?_ |((first |refine aG (fun h=>?_) (fun h=>?_) |refine aD (fun h=>?_) (fun h=>?_) |refine aX (fun h=>?_) (fun h=>?_))<;>simp only[h]) |refine A0 rfl ?_ |refine A1 rfl ?_ |((refine A4 rfl (fun h=>?_) (fun h=>?_)<;>try simp only[AK] at h)<;>(try (exfalso;omega))) |refine A7 ?_));(refine hkp _ _ ?_;clear hkp hK kp K;refine AD ?_;refine AC hE [0] rfl ?_ ?_<;>simp[AH,lk,ren,renL,A9,AG,Aa])
   |ok u_ q2=>
    rw[hc2] at c2;have c2:=c2.ok rfl;(try dsimp only at c2);simp only[Bc,Cg,str] at c2;obtain⟨rfl,hl2⟩:=DO hc2;unfold A_ at c2;have c3:=Pg G hk hl (p+1+1+1+1) (by omega)
    cases hc3:Ix l (p+1+1+1+1) with
    |bad e q=>
     rw[hc3] at c3;have c3:=c3.bad rfl;unfold A_ at c3;refine Con.of_bad (e:=e) (p:=q) (by rw[hx];simp only[hc0,hc1,hc2,hc3,Ad,BU]) ?_;unfold A_;refine A8 func11 rfl (by kernel_rfl) (of_decide_eq_true (by kernel_rfl)) ?_;intro E hG hE;subst hG;simp only[Ai];(repeat' (first |refine A6 ?_ |refine A2 ?_ |refine A3 ?_ |refine A5 ?_ |((first |refine rR (fun K kp hK hkp=>?_) |refine oR [0] e0 ?_ |refine oR [0] e1 ?_ |refine oR [0] e2 ?_ |refine oR [0] c0 ?_ |refine oR [0] c1 ?_ |refine oR [0] c2 ?_ |refine iG ?_);simp(implicitDefEqProofs:=false) (maxSteps:=2000000) (disch:=omega) only[go_sem];(repeat' (first |(refine hK _ ?_;clear hK hkp kp K) |(with_reducible refine And.intro ?_ ?_) |omega))) |refine oP [0] c3 ?_ |((first |refine aG (fun h=>?_) (fun h=>?_) |refine aD (fun h=>?_) (fun h=>?_) |refine aX (fun h=>?_) (fun h=>?_))<;>simp only[h]) |refine A0 rfl ?_ |refine A1 rfl ?_ |((refine A4 rfl (fun h=>?_) (fun h=>?_)<;>try simp only[AK] at h)<;>(try (exfalso;omega))) |refine A7 ?_));(refine hkp _ _ ?_;clear hkp hK kp K;refine AD ?_;refine AC hE [0] rfl ?_ ?_<;>simp[AH,lk,ren,renL,A9,AG,Aa])
    |ok r q3=>
     rw[hc3] at c3;have c3:=c3.ok rfl;(try dsimp only at c3);unfold A_ at c3;refine Con.of_ok (a:={Cw 3 t with row:=r}) (p:=q3) (by rw[hx];simp only[hc0,hc1,hc2,hc3,Ad]) ?_;(try dsimp only);refine Bt (y:= .agg [.r (.int .i64 3),.r (.string t),.r (.slice none 0 0),.ro true 3 (r.map eV),.r (.slice none 0 0),.r (.bool false),.r (.slice none 0 0),.r (.string ⟨#[]⟩),.r (.bool false),.r (.int .i64 (-1)),.r (.string ⟨#[]⟩),.r (.slice none 0 0)]) ?_ (fun w z th v hr=>C9 (by simp[wk,GJ,CU,Cw,str]) hr);unfold A_;refine A8 func11 rfl (by kernel_rfl) (of_decide_eq_true (by kernel_rfl)) ?_;intro E hG hE;subst hG;simp only[Ai];(repeat' (first |refine A6 ?_ |refine A2 ?_ |refine A3 ?_ |refine A5 ?_ |((first |refine rR (fun K kp hK hkp=>?_) |refine oR [0] e0 ?_ |refine oR [0] e1 ?_ |refine oR [0] e2 ?_ |refine oR [0] c0 ?_ |refine oR [0] c1 ?_ |refine oR [0] c2 ?_ |refine oR [0] c3 ?_ |refine iG ?_);simp(implicitDefEqProofs:=false) (maxSteps:=2000000) (disch:=omega) only[go_sem];(repeat' (first |(refine hK _ ?_;clear hK hkp kp K) |(with_reducible refine And.intro ?_ ?_) |omega))) |((first |refine aG (fun h=>?_) (fun h=>?_) |refine aD (fun h=>?_) (fun h=>?_) |refine aX (fun h=>?_) (fun h=>?_))<;>simp only[h]) |refine A0 rfl ?_ |refine A1 rfl ?_ |((refine A4 rfl (fun h=>?_) (fun h=>?_)<;>try simp only[AK] at h)<;>(try (exfalso;omega))) |refine A7 ?_));(refine AB (by(simp(implicitDefEqProofs:=false) (maxSteps:=2000000) (disch:=omega) only[go_sem,results11]);rfl) ?_;refine(AC hE [0] rfl ?_ ?_).s<;>simp[AI,AH,lk,ren,renL,A9,AG])
set_option maxHeartbeats 16000000 in
theorem Kh {G:List (Nat×List Value)}(T:TabsP G){l:List TK0}(hk: ∀t ∈ l,TokOk t)(hl:l.length≤100)(p:Nat)(hp:p≤l.length)(h0:AP l p 1 AL=false)(h1:AP l p 1 B1=false)(h2:AP l p 1 AX=false)(h3:AP l p 1 Af=true):
  Con prog G 11 [.p 0 0 0] (A_ l p) 1 (PQ (BG l p) (fun s _=> .agg (CU s)) (fun _ p=>A_ l p) 1) (PP (BG l p) 1):=by
 have e0:=AU G l p 1 AL hl (by omega) h0;simp only[AL,str] at e0;unfold A_ at e0;have e1:=AU G l p 1 B1 hl (by omega) h1;simp only[B1,str] at e1;unfold A_ at e1;have e2:=AU G l p 1 AX hl (by omega) h2;simp only[AX,str] at e2;unfold A_ at e2;have e3:=C0 G l p 1 Af hl (by omega) h3;simp only[Af,str] at e3;unfold A_ at e3;have hlt:=Aq h3
 have hx:BG l p=Ee l (p+1):=by rw[BG,if_neg (by rw[h0];decide),if_neg (by rw[h1];decide),if_neg (by rw[h2];decide),if_pos h3]
 have c0:=Oa T hk hl (p+1) (by omega)
 cases hc0:Ee l (p+1) with
 |bad e q=>
  rw[hc0] at c0;have c0:=c0.bad rfl;unfold Sh at c0
  skip
  refine Con.of_bad (e:=e) (p:=q) (by rw[hx,hc0]) ?_;unfold A_;refine A8 func11 rfl (by kernel_rfl) (of_decide_eq_true (by kernel_rfl)) ?_;intro E hG hE;subst hG;simp only[Ai];(repeat' (first |refine A6 ?_ |refine A2 ?_ |refine A3 ?_ |refine A5 ?_ |((first |refine rR (fun K kp hK hkp=>?_) |refine oR [0] e0 ?_ |refine oR [0] e1 ?_ |refine oR [0] e2 ?_ |refine oR [0] e3 ?_ |refine iG ?_);simp(implicitDefEqProofs:=false) (maxSteps:=2000000) (disch:=omega) only[go_sem];(repeat' (first |(refine hK _ ?_;clear hK hkp kp K) |(with_reducible refine And.intro ?_ ?_) |omega))) |refine oP [0,2] c0 ?_ |((first |refine aG (fun h=>?_) (fun h=>?_) |refine aD (fun h=>?_) (fun h=>?_) |refine aX (fun h=>?_) (fun h=>?_))<;>simp only[h]) |refine A0 rfl ?_ |refine A1 rfl ?_ |((refine A4 rfl (fun h=>?_) (fun h=>?_)<;>try simp only[AK] at h)<;>(try (exfalso;omega))) |refine A7 ?_));(refine hkp _ _ ?_;clear hkp hK kp K;refine AD ?_;refine AC hE [0] rfl ?_ ?_<;>simp[AH,lk,ren,renL,A9,AG,Aa])
 |ok s q0=>
  rw[hc0] at c0;have c0:=c0.ok rfl;(try dsimp only at c0);unfold Sh at c0
  skip
  refine Con.of_ok (a:=s) (p:=q0) (by rw[hx,hc0]) ?_;(try dsimp only);refine Bt (y:= .agg [.r (.int .i64 4),.r (.string s.tab),.r (.slice none 0 0),.r (.slice none 0 0),.ro true 1 (s.names.map Bc),.r (.bool s.count),.ro true 5 (s.wh.map eO),.r (.string s.ord),.r (.bool s.down),.r (.int .i64 s.lim),.r (.string ⟨#[]⟩),.r (.slice none 0 0)]) ?_ (fun w z th v hr=>C9 (by have:=O_ hc0;simp[wk,GJ,CU,this,str]) hr);unfold A_;refine A8 func11 rfl (by kernel_rfl) (of_decide_eq_true (by kernel_rfl)) ?_;intro E hG hE;subst hG;simp only[Ai];(repeat' (first |refine A6 ?_ |refine A2 ?_ |refine A3 ?_ |refine A5 ?_ |((first |refine rR (fun K kp hK hkp=>?_) |refine oR [0] e0 ?_ |refine oR [0] e1 ?_ |refine oR [0] e2 ?_ |refine oR [0] e3 ?_ |refine oR [0,2] c0 ?_ |refine iG ?_);simp(implicitDefEqProofs:=false) (maxSteps:=2000000) (disch:=omega) only[go_sem];(repeat' (first |(refine hK _ ?_;clear hK hkp kp K) |(with_reducible refine And.intro ?_ ?_) |omega))) |((first |refine aG (fun h=>?_) (fun h=>?_) |refine aD (fun h=>?_) (fun h=>?_) |refine aX (fun h=>?_) (fun h=>?_))<;>simp only[h]) |refine A0 rfl ?_ |refine A1 rfl ?_ |((refine A4 rfl (fun h=>?_) (fun h=>?_)<;>try simp only[AK] at h)<;>(try (exfalso;omega))) |refine A7 ?_));(refine AB (by(simp(implicitDefEqProofs:=false) (maxSteps:=2000000) (disch:=omega) only[go_sem,results11]);rfl) ?_;refine(AC hE [0] rfl ?_ ?_).s<;>simp[AI,AH,lk,ren,renL,A9,AG])
set_option maxHeartbeats 16000000 in
theorem Kg {G:List (Nat×List Value)}(T:TabsP G){l:List TK0}(hk: ∀t ∈ l,TokOk t)(hl:l.length≤100)(p:Nat)(hp:p≤l.length)(h0:AP l p 1 AL=false)(h1:AP l p 1 B1=false)(h2:AP l p 1 AX=false)(h3:AP l p 1 Af=false)(h4:AP l p 1 Ao=true):
  Con prog G 11 [.p 0 0 0] (A_ l p) 1 (PQ (BG l p) (fun s _=> .agg (CU s)) (fun _ p=>A_ l p) 1) (PP (BG l p) 1):=by
 have e0:=AU G l p 1 AL hl (by omega) h0;simp only[AL,str] at e0;unfold A_ at e0;have e1:=AU G l p 1 B1 hl (by omega) h1;simp only[B1,str] at e1;unfold A_ at e1;have e2:=AU G l p 1 AX hl (by omega) h2;simp only[AX,str] at e2;unfold A_ at e2;have e3:=AU G l p 1 Af hl (by omega) h3;simp only[Af,str] at e3;unfold A_ at e3;have e4:=C0 G l p 1 Ao hl (by omega) h4;simp only[Ao,str] at e4;unfold A_ at e4;have hlt:=Aq h4
 have hx:BG l p=(D8 l (p+1)).bind fun t p=>(BH l p [GS]).bind fun _ p=>(D8 l p).bind fun s p=>(Ar l p JQ).bind fun _ p=>(DW l p).bind fun to p=>(CY l p).bind fun wh p=> .ok {Cw 5 t with set:=s,to:=to,wh:=wh} p:=by rw[BG,if_neg (by rw[h0];decide),if_neg (by rw[h1];decide),if_neg (by rw[h2];decide),if_neg (by rw[h3];decide),if_pos h4]
 have c0:=FW T.toTabs l (p+1) hl (by omega) (fun t ht=>(hk t ht).s)
 cases hc0:D8 l (p+1) with
 |bad e q=>
  rw[hc0] at c0;have c0:=c0.bad rfl;unfold A_ at c0;refine Con.of_bad (e:=e) (p:=q) (by rw[hx];simp only[hc0,Ad,BU]) ?_;unfold A_;refine A8 func11 rfl (by kernel_rfl) (of_decide_eq_true (by kernel_rfl)) ?_;intro E hG hE;subst hG;simp only[Ai];(repeat' (first |refine A6 ?_ |refine A2 ?_ |refine A3 ?_ |refine A5 ?_ |((first |refine rR (fun K kp hK hkp=>?_) |refine oR [0] e0 ?_ |refine oR [0] e1 ?_ |refine oR [0] e2 ?_ |refine oR [0] e3 ?_ |refine oR [0] e4 ?_ |refine iG ?_);simp(implicitDefEqProofs:=false) (maxSteps:=2000000) (disch:=omega) only[go_sem];(repeat' (first |(refine hK _ ?_;clear hK hkp kp K) |(with_reducible refine And.intro ?_ ?_) |omega))) |refine oP [0] c0 ?_ |((first |refine aG (fun h=>?_) (fun h=>?_) |refine aD (fun h=>?_) (fun h=>?_) |refine aX (fun h=>?_) (fun h=>?_))<;>simp only[h]) |refine A0 rfl ?_ |refine A1 rfl ?_ |((refine A4 rfl (fun h=>?_) (fun h=>?_)<;>try simp only[AK] at h)<;>(try (exfalso;omega))) |refine A7 ?_));(refine hkp _ _ ?_;clear hkp hK kp K;refine AD ?_;refine AC hE [0] rfl ?_ ?_<;>simp[AH,lk,ren,renL,A9,AG,Aa])
 |ok t q0=>
  rw[hc0] at c0;have c0:=c0.ok rfl;(try dsimp only at c0);obtain⟨rfl,hl0⟩:=Co hc0;unfold A_ at c0;have c1:=H0 G false l (p+1+1) GS hl (by omega)
  cases hc1:BH l (p+1+1) [GS] with
  |bad e q=>
   rw[hc1] at c1;have c1:=c1.bad rfl;simp only[Bc,GS,str] at c1;unfold A_ at c1;refine Con.of_bad (e:=e) (p:=q) (by rw[hx];simp only[hc0,hc1,Ad,BU]) ?_;unfold A_;refine A8 func11 rfl (by kernel_rfl) (of_decide_eq_true (by kernel_rfl)) ?_;intro E hG hE;subst hG;simp only[Ai];(repeat' (first |refine A6 ?_ |refine A2 ?_ |refine A3 ?_ |refine A5 ?_ |((first |refine rR (fun K kp hK hkp=>?_) |refine oR [0] e0 ?_ |refine oR [0] e1 ?_ |refine oR [0] e2 ?_ |refine oR [0] e3 ?_ |refine oR [0] e4 ?_ |refine oR [0] c0 ?_ |refine iG ?_);simp(implicitDefEqProofs:=false) (maxSteps:=2000000) (disch:=omega) only[go_sem];(repeat' (first |(refine hK _ ?_;clear hK hkp kp K) |(with_reducible refine And.intro ?_ ?_) |omega))) |refine oP [0] c1 ?_ |((first |refine aG (fun h=>?_) (fun h=>?_) |refine aD (fun h=>?_) (fun h=>?_) |refine aX (fun h=>?_) (fun h=>?_))<;>simp only[h]) |refine A0 rfl ?_ |refine A1 rfl ?_ |((refine A4 rfl (fun h=>?_) (fun h=>?_)<;>try simp only[AK] at h)<;>(try (exfalso;omega))) |refine A7 ?_));(refine hkp _ _ ?_;clear hkp hK kp K;refine AD ?_;refine AC hE [0] rfl ?_ ?_<;>simp[AH,lk,ren,renL,A9,AG,Aa])
  |ok u_ q1=>
   rw[hc1] at c1;have c1:=c1.ok rfl;(try dsimp only at c1);simp only[Bc,GS,str] at c1;obtain⟨rfl,hl1⟩:=DO hc1;unfold A_ at c1;have c2:=FW T.toTabs l (p+1+1+1) hl (by omega) (fun t ht=>(hk t ht).s)
   cases hc2:D8 l (p+1+1+1) with
   |bad e q=>
    rw[hc2] at c2;have c2:=c2.bad rfl;unfold A_ at c2;refine Con.of_bad (e:=e) (p:=q) (by rw[hx];simp only[hc0,hc1,hc2,Ad,BU]) ?_;unfold A_;refine A8 func11 rfl (by kernel_rfl) (of_decide_eq_true (by kernel_rfl)) ?_;intro E hG hE;subst hG;simp only[Ai];(repeat' (first |refine A6 ?_ |refine A2 ?_ |refine A3 ?_ |refine A5 ?_ |((first |refine rR (fun K kp hK hkp=>?_) |refine oR [0] e0 ?_ |refine oR [0] e1 ?_ |refine oR [0] e2 ?_ |refine oR [0] e3 ?_ |refine oR [0] e4 ?_ |refine oR [0] c0 ?_ |refine oR [0] c1 ?_ |refine iG ?_);simp(implicitDefEqProofs:=false) (maxSteps:=2000000) (disch:=omega) only[go_sem];(repeat' (first |(refine hK _ ?_;clear hK hkp kp K) |(with_reducible refine And.intro ?_ ?_) |omega))) |refine oP [0] c2 ?_ |((first |refine aG (fun h=>?_) (fun h=>?_) |refine aD (fun h=>?_) (fun h=>?_) |refine aX (fun h=>?_) (fun h=>?_))<;>simp only[h]) |refine A0 rfl ?_ |refine A1 rfl ?_ |((refine A4 rfl (fun h=>?_) (fun h=>?_)<;>try simp only[AK] at h)<;>(try (exfalso;omega))) |refine A7 ?_));(refine hkp _ _ ?_;clear hkp hK kp K;refine AD ?_;refine AC hE [0] rfl ?_ ?_<;>simp[AH,lk,ren,renL,A9,AG,Aa])
   |ok u q2=>
    rw[hc2] at c2;have c2:=c2.ok rfl;(try dsimp only at c2);obtain⟨rfl,hl2⟩:=Co hc2;unfold A_ at c2;have c3:=H1 G l (p+1+1+1+1) JQ hl (by omega)
    cases hc3:Ar l (p+1+1+1+1) JQ with
    |bad e q=>
     rw[hc3] at c3;have c3:=c3.bad rfl;simp only[JQ,str] at c3;unfold A_ at c3;refine Con.of_bad (e:=e) (p:=q) (by rw[hx];simp only[hc0,hc1,hc2,hc3,Ad,BU]) ?_;unfold A_;refine A8 func11 rfl (by kernel_rfl) (of_decide_eq_true (by kernel_rfl)) ?_;intro E hG hE;subst hG;simp only[Ai];(repeat' (first |refine A6 ?_ |refine A2 ?_ |refine A3 ?_ |refine A5 ?_ |((first |refine rR (fun K kp hK hkp=>?_) |refine oR [0] e0 ?_ |refine oR [0] e1 ?_ |refine oR [0] e2 ?_ |refine oR [0] e3 ?_ |refine oR [0] e4 ?_ |refine oR [0] c0 ?_ |refine oR [0] c1 ?_ |refine oR [0] c2 ?_ |refine iG ?_);simp(implicitDefEqProofs:=false) (maxSteps:=2000000) (disch:=omega) only[go_sem];(repeat' (first |(refine hK _ ?_;clear hK hkp kp K) |(with_reducible refine And.intro ?_ ?_) |omega))) |refine oP [0] c3 ?_ |((first |refine aG (fun h=>?_) (fun h=>?_) |refine aD (fun h=>?_) (fun h=>?_) |refine aX (fun h=>?_) (fun h=>?_))<;>simp only[h]) |refine A0 rfl ?_ |refine A1 rfl ?_ |((refine A4 rfl (fun h=>?_) (fun h=>?_)<;>try simp only[AK] at h)<;>(try (exfalso;omega))) |refine A7 ?_));(refine hkp _ _ ?_;clear hkp hK kp K;refine AD ?_;refine AC hE [0] rfl ?_ ?_<;>simp[AH,lk,ren,renL,A9,AG,Aa])
    |ok u_ q3=>
     rw[hc3] at c3;have c3:=c3.ok rfl;(try dsimp only at c3);simp only[JQ,str] at c3;obtain⟨rfl,hl3⟩:=Ew hc3;unfold A_ at c3;have c4:=LJ T hk hl (p+1+1+1+1+1) (by omega)
     cases hc4:DW l (p+1+1+1+1+1) with
     |bad e q=>
      rw[hc4] at c4;have c4:=c4.bad rfl;unfold A_ at c4;refine Con.of_bad (e:=e) (p:=q) (by rw[hx];simp only[hc0,hc1,hc2,hc3,hc4,Ad,BU]) ?_;unfold A_;refine A8 func11 rfl (by kernel_rfl) (of_decide_eq_true (by kernel_rfl)) ?_;intro E hG hE;subst hG;simp only[Ai];(repeat' (first |refine A6 ?_ |refine A2 ?_ |refine A3 ?_ |refine A5 ?_ |((first |refine rR (fun K kp hK hkp=>?_) |refine oR [0] e0 ?_ |refine oR [0] e1 ?_ |refine oR [0] e2 ?_ |refine oR [0] e3 ?_ |refine oR [0] e4 ?_ |refine oR [0] c0 ?_ |refine oR [0] c1 ?_ |refine oR [0] c2 ?_ |refine oR [0] c3 ?_ |refine iG ?_);simp(implicitDefEqProofs:=false) (maxSteps:=2000000) (disch:=omega) only[go_sem];(repeat' (first |(refine hK _ ?_;clear hK hkp kp K) |(with_reducible refine And.intro ?_ ?_) |omega))) |refine oP [0] c4 ?_ |((first |refine aG (fun h=>?_) (fun h=>?_) |refine aD (fun h=>?_) (fun h=>?_) |refine aX (fun h=>?_) (fun h=>?_))<;>simp only[h]) |refine A0 rfl ?_ |refine A1 rfl ?_ |((refine A4 rfl (fun h=>?_) (fun h=>?_)<;>try simp only[AK] at h)<;>(try (exfalso;omega))) |refine A7 ?_));(refine hkp _ _ ?_;clear hkp hK kp K;refine AD ?_;refine AC hE [0] rfl ?_ ?_<;>simp[AH,lk,ren,renL,A9,AG,Aa])
     |ok to q4=>
      rw[hc4] at c4;have c4:=c4.ok rfl;(try dsimp only at c4);obtain⟨hq4,_,_,hw4⟩:=(DH (by omega) hl).2 _ _ hc4;rw[Nat.zero_add] at hw4;unfold G7 B4 at c4;have tk4:(to.map eO).take to.length=to.map eO:=List.take_of_length_le (by simp);unfold A_ at c4;have c5:=GP T hk hl (q4) (by omega)
      cases hc5:CY l (q4) with
      |bad e q=>
       rw[hc5] at c5;have c5:=c5.bad rfl;unfold A_ at c5;refine Con.of_bad (e:=e) (p:=q) (by rw[hx];simp only[hc0,hc1,hc2,hc3,hc4,hc5,Ad,BU]) ?_;unfold A_;refine A8 func11 rfl (by kernel_rfl) (of_decide_eq_true (by kernel_rfl)) ?_;intro E hG hE;subst hG;simp only[Ai];(repeat' (first |refine A6 ?_ |refine A2 ?_ |refine A3 ?_ |refine A5 ?_ |((first |refine rR (fun K kp hK hkp=>?_) |refine oR [0] e0 ?_ |refine oR [0] e1 ?_ |refine oR [0] e2 ?_ |refine oR [0] e3 ?_ |refine oR [0] e4 ?_ |refine oR [0] c0 ?_ |refine oR [0] c1 ?_ |refine oR [0] c2 ?_ |refine oR [0] c3 ?_ |refine oR [0] c4 ?_ |refine iG ?_);simp(implicitDefEqProofs:=false) (maxSteps:=2000000) (disch:=omega) only[go_sem];(repeat' (first |(refine hK _ ?_;clear hK hkp kp K) |(with_reducible refine And.intro ?_ ?_) |omega))) |refine oP [0] c5 ?_ |((first |refine aG (fun h=>?_) (fun h=>?_) |refine aD (fun h=>?_) (fun h=>?_) |refine aX (fun h=>?_) (fun h=>?_))<;>simp only[h]) |refine A0 rfl ?_ |refine A1 rfl ?_ |((refine A4 rfl (fun h=>?_) (fun h=>?_)<;>try simp only[AK] at h)<;>(try (exfalso;omega))) |refine A7 ?_));(refine hkp _ _ ?_;clear hkp hK kp K;refine AD ?_;refine AC hE [0] rfl ?_ ?_<;>simp[AH,lk,ren,renL,A9,AG,Aa])
      |ok wh q5=>
       rw[hc5] at c5;have c5:=c5.ok rfl;(try dsimp only at c5);obtain⟨hq5,hw5⟩:=GQ (by omega) hl hc5;unfold G7 B4 at c5;have tk5:(wh.map eO).take wh.length=wh.map eO:=List.take_of_length_le (by simp);unfold A_ at c5;refine Con.of_ok (a:={Cw 5 t with set:=u,to:=to,wh:=wh}) (p:=q5) (by rw[hx];simp only[hc0,hc1,hc2,hc3,hc4,hc5,Ad]) ?_;(try dsimp only);refine Bt (y:= .agg [.r (.int .i64 5),.r (.string t),.r (.slice none 0 0),.r (.slice none 0 0),.r (.slice none 0 0),.r (.bool false),.ro true 5 (wh.map eO),.r (.string ⟨#[]⟩),.r (.bool false),.r (.int .i64 (-1)),.r (.string u),.ro true 5 (to.map eO)]) ?_ (fun w z th v hr=>C9 (by simp[wk,GJ,CU,Cw,str]) hr);unfold A_;refine A8 func11 rfl (by kernel_rfl) (of_decide_eq_true (by kernel_rfl)) ?_;intro E hG hE;subst hG;simp only[Ai];(repeat' (first |refine A6 ?_ |refine A2 ?_ |refine A3 ?_ |refine A5 ?_ |((first |refine rR (fun K kp hK hkp=>?_) |refine oR [0] e0 ?_ |refine oR [0] e1 ?_ |refine oR [0] e2 ?_ |refine oR [0] e3 ?_ |refine oR [0] e4 ?_ |refine oR [0] c0 ?_ |refine oR [0] c1 ?_ |refine oR [0] c2 ?_ |refine oR [0] c3 ?_ |refine oR [0] c4 ?_ |refine oR [0] c5 ?_ |refine iG ?_);simp(implicitDefEqProofs:=false) (maxSteps:=2000000) (disch:=omega) only[go_sem];(repeat' (first |(refine hK _ ?_;clear hK hkp kp K) |(with_reducible refine And.intro ?_ ?_) |omega))) |((first |refine aG (fun h=>?_) (fun h=>?_) |refine aD (fun h=>?_) (fun h=>?_) |refine aX (fun h=>?_) (fun h=>?_))<;>simp only[h]) |refine A0 rfl ?_ |refine A1 rfl ?_ |((refine A4 rfl (fun h=>?_) (fun h=>?_)<;>try simp only[AK] at h)<;>(try (exfalso;omega))) |refine A7 ?_));(refine AB (by(simp(implicitDefEqProofs:=false) (maxSteps:=2000000) (disch:=omega) only[go_sem,results11,tk4,tk5]);rfl) ?_;refine CJ (by simp only[AI];simp(implicitDefEqProofs:=false) (maxSteps:=2000000) (disch:=omega) only[go_sem,tk4,tk5];rfl) ?_;refine(AC hE [0] rfl ?_ ?_).s<;>simp[AI,AH,lk,ren,renL,A9,AG,tk4,tk5])
set_option maxHeartbeats 16000000 in
theorem Kj {G:List (Nat×List Value)}(T:TabsP G){l:List TK0}(hk: ∀t ∈ l,TokOk t)(hl:l.length≤100)(p:Nat)(hp:p≤l.length)(h0:AP l p 1 AL=false)(h1:AP l p 1 B1=false)(h2:AP l p 1 AX=false)(h3:AP l p 1 Af=false)(h4:AP l p 1 Ao=false)(h5:AP l p 1 B2=true):
  Con prog G 11 [.p 0 0 0] (A_ l p) 1 (PQ (BG l p) (fun s _=> .agg (CU s)) (fun _ p=>A_ l p) 1) (PP (BG l p) 1):=by
 have e0:=AU G l p 1 AL hl (by omega) h0;simp only[AL,str] at e0;unfold A_ at e0;have e1:=AU G l p 1 B1 hl (by omega) h1;simp only[B1,str] at e1;unfold A_ at e1;have e2:=AU G l p 1 AX hl (by omega) h2;simp only[AX,str] at e2;unfold A_ at e2;have e3:=AU G l p 1 Af hl (by omega) h3;simp only[Af,str] at e3;unfold A_ at e3;have e4:=AU G l p 1 Ao hl (by omega) h4;simp only[Ao,str] at e4;unfold A_ at e4;have e5:=C0 G l p 1 B2 hl (by omega) h5;simp only[B2,str] at e5;unfold A_ at e5;have hlt:=Aq h5
 have hx:BG l p=(BH l (p+1) [CI]).bind fun _ p=>(D8 l p).bind fun t p=>(CY l p).bind fun wh p=> .ok {Cw 6 t with wh:=wh} p:=by rw[BG,if_neg (by rw[h0];decide),if_neg (by rw[h1];decide),if_neg (by rw[h2];decide),if_neg (by rw[h3];decide),if_neg (by rw[h4];decide),if_pos h5]
 have c0:=H0 G false l (p+1) CI hl (by omega)
 cases hc0:BH l (p+1) [CI] with
 |bad e q=>
  rw[hc0] at c0;have c0:=c0.bad rfl;simp only[Bc,CI,str] at c0;unfold A_ at c0;refine Con.of_bad (e:=e) (p:=q) (by rw[hx];simp only[hc0,Ad,BU]) ?_;unfold A_;refine A8 func11 rfl (by kernel_rfl) (of_decide_eq_true (by kernel_rfl)) ?_;intro E hG hE;subst hG;simp only[Ai];(repeat' (first |refine A6 ?_ |refine A2 ?_ |refine A3 ?_ |refine A5 ?_ |((first |refine rR (fun K kp hK hkp=>?_) |refine oR [0] e0 ?_ |refine oR [0] e1 ?_ |refine oR [0] e2 ?_ |refine oR [0] e3 ?_ |refine oR [0] e4 ?_ |refine oR [0] e5 ?_ |refine iG ?_);simp(implicitDefEqProofs:=false) (maxSteps:=2000000) (disch:=omega) only[go_sem];(repeat' (first |(refine hK _ ?_;clear hK hkp kp K) |(with_reducible refine And.intro ?_ ?_) |omega))) |refine oP [0] c0 ?_ |((first |refine aG (fun h=>?_) (fun h=>?_) |refine aD (fun h=>?_) (fun h=>?_) |refine aX (fun h=>?_) (fun h=>?_))<;>simp only[h]) |refine A0 rfl ?_ |refine A1 rfl ?_ |((refine A4 rfl (fun h=>?_) (fun h=>?_)<;>try simp only[AK] at h)<;>(try (exfalso;omega))) |refine A7 ?_));(refine hkp _ _ ?_;clear hkp hK kp K;refine AD ?_;refine AC hE [0] rfl ?_ ?_<;>simp[AH,lk,ren,renL,A9,AG,Aa])
 |ok u_ q0=>
  rw[hc0] at c0;have c0:=c0.ok rfl;(try dsimp only at c0);simp only[Bc,CI,str] at c0;obtain⟨rfl,hl0⟩:=DO hc0;unfold A_ at c0;have c1:=FW T.toTabs l (p+1+1) hl (by omega) (fun t ht=>(hk t ht).s)
  cases hc1:D8 l (p+1+1) with
  |bad e q=>
   rw[hc1] at c1;have c1:=c1.bad rfl;unfold A_ at c1;refine Con.of_bad (e:=e) (p:=q) (by rw[hx];simp only[hc0,hc1,Ad,BU]) ?_;unfold A_;refine A8 func11 rfl (by kernel_rfl) (of_decide_eq_true (by kernel_rfl)) ?_;intro E hG hE;subst hG;simp only[Ai];(repeat' (first |refine A6 ?_ |refine A2 ?_ |refine A3 ?_ |refine A5 ?_ |((first |refine rR (fun K kp hK hkp=>?_) |refine oR [0] e0 ?_ |refine oR [0] e1 ?_ |refine oR [0] e2 ?_ |refine oR [0] e3 ?_ |refine oR [0] e4 ?_ |refine oR [0] e5 ?_ |refine oR [0] c0 ?_ |refine iG ?_);simp(implicitDefEqProofs:=false) (maxSteps:=2000000) (disch:=omega) only[go_sem];(repeat' (first |(refine hK _ ?_;clear hK hkp kp K) |(with_reducible refine And.intro ?_ ?_) |omega))) |refine oP [0] c1 ?_ |((first |refine aG (fun h=>?_) (fun h=>?_) |refine aD (fun h=>?_) (fun h=>?_) |refine aX (fun h=>?_) (fun h=>?_))<;>simp only[h]) |refine A0 rfl ?_ |refine A1 rfl ?_ |((refine A4 rfl (fun h=>?_) (fun h=>?_)<;>try simp only[AK] at h)<;>(try (exfalso;omega))) |refine A7 ?_));(refine hkp _ _ ?_;clear hkp hK kp K;refine AD ?_;refine AC hE [0] rfl ?_ ?_<;>simp[AH,lk,ren,renL,A9,AG,Aa])
  |ok t q1=>
   rw[hc1] at c1;have c1:=c1.ok rfl;(try dsimp only at c1);obtain⟨rfl,hl1⟩:=Co hc1;unfold A_ at c1;have c2:=GP T hk hl (p+1+1+1) (by omega)
   cases hc2:CY l (p+1+1+1) with
   |bad e q=>
    rw[hc2] at c2;have c2:=c2.bad rfl;unfold A_ at c2;refine Con.of_bad (e:=e) (p:=q) (by rw[hx];simp only[hc0,hc1,hc2,Ad,BU]) ?_;unfold A_;refine A8 func11 rfl (by kernel_rfl) (of_decide_eq_true (by kernel_rfl)) ?_;intro E hG hE;subst hG;simp only[Ai];(repeat' (first |refine A6 ?_ |refine A2 ?_ |refine A3 ?_ |refine A5 ?_ |((first |refine rR (fun K kp hK hkp=>?_) |refine oR [0] e0 ?_ |refine oR [0] e1 ?_ |refine oR [0] e2 ?_ |refine oR [0] e3 ?_ |refine oR [0] e4 ?_ |refine oR [0] e5 ?_ |refine oR [0] c0 ?_ |refine oR [0] c1 ?_ |refine iG ?_);simp(implicitDefEqProofs:=false) (maxSteps:=2000000) (disch:=omega) only[go_sem];(repeat' (first |(refine hK _ ?_;clear hK hkp kp K) |(with_reducible refine And.intro ?_ ?_) |omega))) |refine oP [0] c2 ?_ |((first |refine aG (fun h=>?_) (fun h=>?_) |refine aD (fun h=>?_) (fun h=>?_) |refine aX (fun h=>?_) (fun h=>?_))<;>simp only[h]) |refine A0 rfl ?_ |refine A1 rfl ?_ |((refine A4 rfl (fun h=>?_) (fun h=>?_)<;>try simp only[AK] at h)<;>(try (exfalso;omega))) |refine A7 ?_));(refine hkp _ _ ?_;clear hkp hK kp K;refine AD ?_;refine AC hE [0] rfl ?_ ?_<;>simp[AH,lk,ren,renL,A9,AG,Aa])
   |ok wh q2=>
    rw[hc2] at c2;have c2:=c2.ok rfl;(try dsimp only at c2);obtain⟨hq2,hw2⟩:=GQ (by omega) hl hc2;unfold G7 B4 at c2;have tk2:(wh.map eO).take wh.length=wh.map eO:=List.take_of_length_le (by simp);unfold A_ at c2;refine Con.of_ok (a:={Cw 6 t with wh:=wh}) (p:=q2) (by rw[hx];simp only[hc0,hc1,hc2,Ad]) ?_;(try dsimp only);refine Bt (y:= .agg [.r (.int .i64 6),.r (.string t),.r (.slice none 0 0),.r (.slice none 0 0),.r (.slice none 0 0),.r (.bool false),.ro true 5 (wh.map eO),.r (.string ⟨#[]⟩),.r (.bool false),.r (.int .i64 (-1)),.r (.string ⟨#[]⟩),.r (.slice none 0 0)]) ?_ (fun w z th v hr=>C9 (by simp[wk,GJ,CU,Cw,str]) hr);unfold A_;refine A8 func11 rfl (by kernel_rfl) (of_decide_eq_true (by kernel_rfl)) ?_;intro E hG hE;subst hG;simp only[Ai];(repeat' (first |refine A6 ?_ |refine A2 ?_ |refine A3 ?_ |refine A5 ?_ |((first |refine rR (fun K kp hK hkp=>?_) |refine oR [0] e0 ?_ |refine oR [0] e1 ?_ |refine oR [0] e2 ?_ |refine oR [0] e3 ?_ |refine oR [0] e4 ?_ |refine oR [0] e5 ?_ |refine oR [0] c0 ?_ |refine oR [0] c1 ?_ |refine oR [0] c2 ?_ |refine iG ?_);simp(implicitDefEqProofs:=false) (maxSteps:=2000000) (disch:=omega) only[go_sem];(repeat' (first |(refine hK _ ?_;clear hK hkp kp K) |(with_reducible refine And.intro ?_ ?_) |omega))) |((first |refine aG (fun h=>?_) (fun h=>?_) |refine aD (fun h=>?_) (fun h=>?_) |refine aX (fun h=>?_) (fun h=>?_))<;>simp only[h]) |refine A0 rfl ?_ |refine A1 rfl ?_ |((refine A4 rfl (fun h=>?_) (fun h=>?_)<;>try simp only[AK] at h)<;>(try (exfalso;omega))) |refine A7 ?_));(refine AB (by(simp(implicitDefEqProofs:=false) (maxSteps:=2000000) (disch:=omega) only[go_sem,results11,tk2]);rfl) ?_;refine CJ (by simp only[AI];simp(implicitDefEqProofs:=false) (maxSteps:=2000000) (disch:=omega) only[go_sem,tk2];rfl) ?_;refine(AC hE [0] rfl ?_ ?_).s<;>simp[AI,AH,lk,ren,renL,A9,AG,tk2])
set_option maxHeartbeats 16000000 in
theorem Ln {G:List (Nat×List Value)}(T:TabsP G){l:List TK0}(hk: ∀t ∈ l,TokOk t)(hl:l.length≤100)(p:Nat)(hp:p≤l.length)(h0:AP l p 1 AL=false)(h1:AP l p 1 B1=false)(h2:AP l p 1 AX=false)(h3:AP l p 1 Af=false)(h4:AP l p 1 Ao=false)(h5:AP l p 1 B2=false)(h6:AP l p 1 Bd=true):
  Con prog G 11 [.p 0 0 0] (A_ l p) 1 (PQ (BG l p) (fun s _=> .agg (CU s)) (fun _ p=>A_ l p) 1) (PP (BG l p) 1):=by
 have e0:=AU G l p 1 AL hl (by omega) h0;simp only[AL,str] at e0;unfold A_ at e0;have e1:=AU G l p 1 B1 hl (by omega) h1;simp only[B1,str] at e1;unfold A_ at e1;have e2:=AU G l p 1 AX hl (by omega) h2;simp only[AX,str] at e2;unfold A_ at e2;have e3:=AU G l p 1 Af hl (by omega) h3;simp only[Af,str] at e3;unfold A_ at e3;have e4:=AU G l p 1 Ao hl (by omega) h4;simp only[Ao,str] at e4;unfold A_ at e4;have e5:=AU G l p 1 B2 hl (by omega) h5;simp only[B2,str] at e5;unfold A_ at e5;have e6:=C0 G l p 1 Bd hl (by omega) h6;simp only[Bd,str] at e6;unfold A_ at e6;have hlt:=Aq h6
 have hx:BG l p= .ok (Cw 7 (str [])) (p+1):=by rw[BG,if_neg (by rw[h0];decide),if_neg (by rw[h1];decide),if_neg (by rw[h2];decide),if_neg (by rw[h3];decide),if_neg (by rw[h4];decide),if_neg (by rw[h5];decide),if_pos h6]
 refine Con.of_ok (a:=Cw 7 (str [])) (p:=p+1) (by rw[hx]) ?_;(try dsimp only);refine Bt (y:= .agg [.r (.int .i64 7),.r (.string ⟨#[]⟩),.r (.slice none 0 0),.r (.slice none 0 0),.r (.slice none 0 0),.r (.bool false),.r (.slice none 0 0),.r (.string ⟨#[]⟩),.r (.bool false),.r (.int .i64 (-1)),.r (.string ⟨#[]⟩),.r (.slice none 0 0)]) ?_ (fun w z th v hr=>C9 (by simp[wk,GJ,CU,Cw,str]) hr);unfold A_;refine A8 func11 rfl (by kernel_rfl) (of_decide_eq_true (by kernel_rfl)) ?_;intro E hG hE;subst hG;simp only[Ai];(repeat' (first |refine A6 ?_ |refine A2 ?_ |refine A3 ?_ |refine A5 ?_ |((first |refine rR (fun K kp hK hkp=>?_) |refine oR [0] e0 ?_ |refine oR [0] e1 ?_ |refine oR [0] e2 ?_ |refine oR [0] e3 ?_ |refine oR [0] e4 ?_ |refine oR [0] e5 ?_ |refine oR [0] e6 ?_ |refine iG ?_);simp(implicitDefEqProofs:=false) (maxSteps:=2000000) (disch:=omega) only[go_sem];(repeat' (first |(refine hK _ ?_;clear hK hkp kp K) |(with_reducible refine And.intro ?_ ?_) |omega))) |((first |refine aG (fun h=>?_) (fun h=>?_) |refine aD (fun h=>?_) (fun h=>?_) |refine aX (fun h=>?_) (fun h=>?_))<;>simp only[h]) |refine A0 rfl ?_ |refine A1 rfl ?_ |((refine A4 rfl (fun h=>?_) (fun h=>?_)<;>try simp only[AK] at h)<;>(try (exfalso;omega))) |refine A7 ?_));(refine AB (by(simp(implicitDefEqProofs:=false) (maxSteps:=2000000) (disch:=omega) only[go_sem,results11]);rfl) ?_;refine(AC hE [0] rfl ?_ ?_).s<;>simp[AI,AH,lk,ren,renL,A9,AG])
set_option maxHeartbeats 16000000 in
theorem Kl {G:List (Nat×List Value)}(T:TabsP G){l:List TK0}(hk: ∀t ∈ l,TokOk t)(hl:l.length≤100)(p:Nat)(hp:p≤l.length)(h0:AP l p 1 AL=false)(h1:AP l p 1 B1=false)(h2:AP l p 1 AX=false)(h3:AP l p 1 Af=false)(h4:AP l p 1 Ao=false)(h5:AP l p 1 B2=false)(h6:AP l p 1 Bd=false)(h7:AP l p 1 Bf=true):
  Con prog G 11 [.p 0 0 0] (A_ l p) 1 (PQ (BG l p) (fun s _=> .agg (CU s)) (fun _ p=>A_ l p) 1) (PP (BG l p) 1):=by
 have e0:=AU G l p 1 AL hl (by omega) h0;simp only[AL,str] at e0;unfold A_ at e0;have e1:=AU G l p 1 B1 hl (by omega) h1;simp only[B1,str] at e1;unfold A_ at e1;have e2:=AU G l p 1 AX hl (by omega) h2;simp only[AX,str] at e2;unfold A_ at e2;have e3:=AU G l p 1 Af hl (by omega) h3;simp only[Af,str] at e3;unfold A_ at e3;have e4:=AU G l p 1 Ao hl (by omega) h4;simp only[Ao,str] at e4;unfold A_ at e4;have e5:=AU G l p 1 B2 hl (by omega) h5;simp only[B2,str] at e5;unfold A_ at e5;have e6:=AU G l p 1 Bd hl (by omega) h6;simp only[Bd,str] at e6;unfold A_ at e6;have e7:=C0 G l p 1 Bf hl (by omega) h7;simp only[Bf,str] at e7;unfold A_ at e7;have hlt:=Aq h7
 have hx:BG l p= .ok (Cw 8 (str [])) (p+1):=by rw[BG,if_neg (by rw[h0];decide),if_neg (by rw[h1];decide),if_neg (by rw[h2];decide),if_neg (by rw[h3];decide),if_neg (by rw[h4];decide),if_neg (by rw[h5];decide),if_neg (by rw[h6];decide),if_pos h7]
 refine Con.of_ok (a:=Cw 8 (str [])) (p:=p+1) (by rw[hx]) ?_;(try dsimp only);refine Bt (y:= .agg [.r (.int .i64 8),.r (.string ⟨#[]⟩),.r (.slice none 0 0),.r (.slice none 0 0),.r (.slice none 0 0),.r (.bool false),.r (.slice none 0 0),.r (.string ⟨#[]⟩),.r (.bool false),.r (.int .i64 (-1)),.r (.string ⟨#[]⟩),.r (.slice none 0 0)]) ?_ (fun w z th v hr=>C9 (by simp[wk,GJ,CU,Cw,str]) hr);unfold A_;refine A8 func11 rfl (by kernel_rfl) (of_decide_eq_true (by kernel_rfl)) ?_;intro E hG hE;subst hG;simp only[Ai];(repeat' (first |refine A6 ?_ |refine A2 ?_ |refine A3 ?_ |refine A5 ?_ |((first |refine rR (fun K kp hK hkp=>?_) |refine oR [0] e0 ?_ |refine oR [0] e1 ?_ |refine oR [0] e2 ?_ |refine oR [0] e3 ?_ |refine oR [0] e4 ?_ |refine oR [0] e5 ?_ |refine oR [0] e6 ?_ |refine oR [0] e7 ?_ |refine iG ?_);simp(implicitDefEqProofs:=false) (maxSteps:=2000000) (disch:=omega) only[go_sem];(repeat' (first |(refine hK _ ?_;clear hK hkp kp K) |(with_reducible refine And.intro ?_ ?_) |omega))) |((first |refine aG (fun h=>?_) (fun h=>?_) |refine aD (fun h=>?_) (fun h=>?_) |refine aX (fun h=>?_) (fun h=>?_))<;>simp only[h]) |refine A0 rfl ?_ |refine A1 rfl ?_ |((refine A4 rfl (fun h=>?_) (fun h=>?_)<;>try simp only[AK] at h)<;>(try (exfalso;omega))) |refine A7 ?_));(refine AB (by(simp(implicitDefEqProofs:=false) (maxSteps:=2000000) (disch:=omega) only[go_sem,results11]);rfl) ?_;refine(AC hE [0] rfl ?_ ?_).s<;>simp[AI,AH,lk,ren,renL,A9,AG])
set_option maxHeartbeats 16000000 in
theorem It {G:List (Nat×List Value)}(T:TabsP G){l:List TK0}(hk: ∀t ∈ l,TokOk t)(hl:l.length≤100)(p:Nat)(hp:p≤l.length)(h0:AP l p 1 AL=false)(h1:AP l p 1 B1=false)(h2:AP l p 1 AX=false)(h3:AP l p 1 Af=false)(h4:AP l p 1 Ao=false)(h5:AP l p 1 B2=false)(h6:AP l p 1 Bd=false)(h7:AP l p 1 Bf=false)(h8:AP l p 1 B_=true):
  Con prog G 11 [.p 0 0 0] (A_ l p) 1 (PQ (BG l p) (fun s _=> .agg (CU s)) (fun _ p=>A_ l p) 1) (PP (BG l p) 1):=by
 have e0:=AU G l p 1 AL hl (by omega) h0;simp only[AL,str] at e0;unfold A_ at e0;have e1:=AU G l p 1 B1 hl (by omega) h1;simp only[B1,str] at e1;unfold A_ at e1;have e2:=AU G l p 1 AX hl (by omega) h2;simp only[AX,str] at e2;unfold A_ at e2;have e3:=AU G l p 1 Af hl (by omega) h3;simp only[Af,str] at e3;unfold A_ at e3;have e4:=AU G l p 1 Ao hl (by omega) h4;simp only[Ao,str] at e4;unfold A_ at e4;have e5:=AU G l p 1 B2 hl (by omega) h5;simp only[B2,str] at e5;unfold A_ at e5;have e6:=AU G l p 1 Bd hl (by omega) h6;simp only[Bd,str] at e6;unfold A_ at e6;have e7:=AU G l p 1 Bf hl (by omega) h7;simp only[Bf,str] at e7;unfold A_ at e7;have e8:=C0 G l p 1 B_ hl (by omega) h8;simp only[B_,str] at e8;unfold A_ at e8;have hlt:=Aq h8
 have hx:BG l p= .ok (Cw 9 (str [])) (p+1):=by rw[BG,if_neg (by rw[h0];decide),if_neg (by rw[h1];decide),if_neg (by rw[h2];decide),if_neg (by rw[h3];decide),if_neg (by rw[h4];decide),if_neg (by rw[h5];decide),if_neg (by rw[h6];decide),if_neg (by rw[h7];decide),if_pos h8]
 refine Con.of_ok (a:=Cw 9 (str [])) (p:=p+1) (by rw[hx]) ?_;(try dsimp only);refine Bt (y:= .agg [.r (.int .i64 9),.r (.string ⟨#[]⟩),.r (.slice none 0 0),.r (.slice none 0 0),.r (.slice none 0 0),.r (.bool false),.r (.slice none 0 0),.r (.string ⟨#[]⟩),.r (.bool false),.r (.int .i64 (-1)),.r (.string ⟨#[]⟩),.r (.slice none 0 0)]) ?_ (fun w z th v hr=>C9 (by simp[wk,GJ,CU,Cw,str]) hr);unfold A_;refine A8 func11 rfl (by kernel_rfl) (of_decide_eq_true (by kernel_rfl)) ?_;intro E hG hE;subst hG;simp only[Ai];(repeat' (first |refine A6 ?_ |refine A2 ?_ |refine A3 ?_ |refine A5 ?_ |((first |refine rR (fun K kp hK hkp=>?_) |refine oR [0] e0 ?_ |refine oR [0] e1 ?_ |refine oR [0] e2 ?_ |refine oR [0] e3 ?_ |refine oR [0] e4 ?_ |refine oR [0] e5 ?_ |refine oR [0] e6 ?_ |refine oR [0] e7 ?_ |refine oR [0] e8 ?_ |refine iG ?_);simp(implicitDefEqProofs:=false) (maxSteps:=2000000) (disch:=omega) only[go_sem];(repeat' (first |(refine hK _ ?_;clear hK hkp kp K) |(with_reducible refine And.intro ?_ ?_) |omega))) |((first |refine aG (fun h=>?_) (fun h=>?_) |refine aD (fun h=>?_) (fun h=>?_) |refine aX (fun h=>?_) (fun h=>?_))<;>simp only[h]) |refine A0 rfl ?_ |refine A1 rfl ?_ |((refine A4 rfl (fun h=>?_) (fun h=>?_)<;>try simp only[AK] at h)<;>(try (exfalso;omega))) |refine A7 ?_));(refine AB (by(simp(implicitDefEqProofs:=false) (maxSteps:=2000000) (disch:=omega) only[go_sem,results11]);rfl) ?_;refine(AC hE [0] rfl ?_ ?_).s<;>simp[AI,AH,lk,ren,renL,A9,AG])
end Go.AM
namespace Go.AM
open Go Go.RowKit
open Go.Proofs.YtmgddlckgpfccaaDoor (OP Ac AY AR str)
attribute [local irreducible] AWP BS
set_option maxHeartbeats 16000000 in
theorem N8 (G:List (Nat×List Value)){l:List TK0}(hl:l.length≤100)(p:Nat)(hp:p≤l.length)(h0:AP l p 1 AL=false)(h1:AP l p 1 B1=false)(h2:AP l p 1 AX=false)(h3:AP l p 1 Af=false)(h4:AP l p 1 Ao=false)(h5:AP l p 1 B2=false)(h6:AP l p 1 Bd=false)(h7:AP l p 1 Bf=false)(h8:AP l p 1 B_=false):
  Con prog G 11 [.p 0 0 0] (A_ l p) 1 (PQ (BG l p) (fun s _=> .agg (CU s)) (fun _ p=>A_ l p) 1) (PP (BG l p) 1):=by
 have e0:=AU G l p 1 AL hl (by omega) h0;simp only[AL,str] at e0;unfold A_ at e0;have e1:=AU G l p 1 B1 hl (by omega) h1;simp only[B1,str] at e1;unfold A_ at e1;have e2:=AU G l p 1 AX hl (by omega) h2;simp only[AX,str] at e2;unfold A_ at e2;have e3:=AU G l p 1 Af hl (by omega) h3;simp only[Af,str] at e3;unfold A_ at e3;have e4:=AU G l p 1 Ao hl (by omega) h4;simp only[Ao,str] at e4;unfold A_ at e4;have e5:=AU G l p 1 B2 hl (by omega) h5;simp only[B2,str] at e5;unfold A_ at e5;have e6:=AU G l p 1 Bd hl (by omega) h6;simp only[Bd,str] at e6;unfold A_ at e6;have e7:=AU G l p 1 Bf hl (by omega) h7;simp only[Bf,str] at e7;unfold A_ at e7;have e8:=AU G l p 1 B_ hl (by omega) h8;simp only[B_,str] at e8;unfold A_ at e8;refine Con.of_bad (e:=if l.length≤p then 7 else 6) (p:=p) (by rw[BG,if_neg (by rw[h0];decide),if_neg (by rw[h1];decide),if_neg (by rw[h2];decide),if_neg (by rw[h3];decide),if_neg (by rw[h4];decide),if_neg (by rw[h5];decide),if_neg (by rw[h6];decide),if_neg (by rw[h7];decide),if_neg (by rw[h8];decide)];rfl) ?_;have gc:=DV G l p 6 hl (by omega);generalize (if l.length≤p then (7:Int) else 6)=e at gc ⊢;unfold A_ at gc ⊢;refine A8 func11 rfl (by kernel_rfl) (of_decide_eq_true (by kernel_rfl)) ?_;intro E hG hE;subst hG;simp only[Ai];(repeat' (first |refine A6 ?_ |refine A2 ?_ |refine A3 ?_ |refine A5 ?_ |((first |refine rR (fun K kp hK hkp=>?_) |refine oR [0] e0 ?_ |refine oR [0] e1 ?_ |refine oR [0] e2 ?_ |refine oR [0] e3 ?_ |refine oR [0] e4 ?_ |refine oR [0] e5 ?_ |refine oR [0] e6 ?_ |refine oR [0] e7 ?_ |refine oR [0] e8 ?_ |refine iG ?_);simp(implicitDefEqProofs:=false) (maxSteps:=2000000) (disch:=omega) only[go_sem];(repeat' (first |(refine hK _ ?_;clear hK hkp kp K) |(with_reducible refine And.intro ?_ ?_) |omega))) |refine oP [0] gc ?_ |((first |refine aG (fun h=>?_) (fun h=>?_) |refine aD (fun h=>?_) (fun h=>?_) |refine aX (fun h=>?_) (fun h=>?_))<;>simp only[h]) |refine A0 rfl ?_ |refine A1 rfl ?_ |((refine A4 rfl (fun h=>?_) (fun h=>?_)<;>try simp only[AK] at h)<;>(try (exfalso;omega))) |refine A7 ?_));(refine hkp _ _ ?_;clear hkp hK kp K;refine AD ?_;refine AC hE [0] rfl ?_ ?_<;>simp[AH,lk,ren,renL,A9,AG,Aa])
theorem OI {G:List (Nat×List Value)}(T:TabsP G){l:List TK0}(hk: ∀t ∈ l,TokOk t)(hl:l.length≤100)(p:Nat)(hp:p≤l.length):
  Con prog G 11 [.p 0 0 0] (A_ l p) 1 (PQ (BG l p) (fun s _=> .agg (CU s)) (fun _ p=>A_ l p) 1) (PP (BG l p) 1):=by
 cases h0:AP l p 1 AL;rotate_left
 ·exact Kk T hk hl p hp h0
 cases h1:AP l p 1 B1;rotate_left
 ·exact N9 T hk hl p hp h0 h1
 cases h2:AP l p 1 AX;rotate_left
 ·exact Ki T hk hl p hp h0 h1 h2
 cases h3:AP l p 1 Af;rotate_left
 ·exact Kh T hk hl p hp h0 h1 h2 h3
 cases h4:AP l p 1 Ao;rotate_left
 ·exact Kg T hk hl p hp h0 h1 h2 h3 h4
 cases h5:AP l p 1 B2;rotate_left
 ·exact Kj T hk hl p hp h0 h1 h2 h3 h4 h5
 cases h6:AP l p 1 Bd;rotate_left
 ·exact Ln T hk hl p hp h0 h1 h2 h3 h4 h5 h6
 cases h7:AP l p 1 Bf;rotate_left
 ·exact Kl T hk hl p hp h0 h1 h2 h3 h4 h5 h6 h7
 cases h8:AP l p 1 B_;rotate_left
 ·exact It T hk hl p hp h0 h1 h2 h3 h4 h5 h6 h7 h8
 exact N8 G hl p hp h0 h1 h2 h3 h4 h5 h6 h7 h8
end Go.AM
namespace Go.AM
open Go Go.RowKit
open Go.Proofs.YtmgddlckgpfccaaDoor (OP Ac AY AR str)
section
variable {P:Program} {E:Env} {N:Nat} {st:AS} {AQ:AExit→AS→Prop} {K:AS→Prop} {Q:Exit→Act→World→Prop}
theorem FA {x y:Code}(hQ:Tu E N Q AQ)(hx:AWP P E N x st (Ek K AQ))(hK: ∀st' th z a w,K st'→Sim E N st' th z a w→y.wp P Q a w){th:List NLoc}{z:Ag}{a:Act}{w:World}(hs:Sim E N st th z a w):(Code.seq x y).wp P Q a w:=
 by
 refine wp_seq (hx _ ⟨?_,?_,?_,?_⟩ th z a w hs)
 ·intro st' th' z' a' w' h1 h2;exact hK st' th' z' a' w' h1 h2
 ·intro id st' th' z' a' w' h1 h2;exact hQ.2.1 id st' th' z' a' w' h1 h2
 ·intro st' th' z' a' w' h1 h2;exact hQ.2.2.1 st' th' z' a' w' h1 h2
 ·intro x v st' th' z' w' h1 h2 h3 a' h4;exact hQ.2.2.2 x v st' th' z' w' h1 h2 h3 a' h4
theorem Ht:Tu E N Q (fun _ _=>False):=⟨fun _ _ _ _ _ h=>h.elim,fun _ _ _ _ _ _ h=>h.elim,fun _ _ _ _ _ h=>h.elim,fun _ _ _ _ _ _ h=>h.elim⟩
theorem GO {id:Nat}{ops:Array Oper}{kp:AV→AS→Prop}(hd:E2 N ops=true)(h:ex P E N (Cz ops) kp ops.toList st K)
  (hp: ∀x v st' th' z' a' w',kp x st'→Sim E N st' th' z' a' w'→Rep w' z' th' x v→Q (.panic [{v:=v,recovered:=false}]) a' w') (hK: ∀st' th' z' a' w',K st'→Sim E N st' th' z' a' w'→Q .normal a' w')
  {th:List NLoc} {z:Ag} {a:Act} {w:World} (hs:Sim E N st th z a w):(Code.region id ops false).wp P Q a w:=
 wp_region_list (Cq hp hK ops.toList (Dr hd) hs (Dc h))
end
theorem MS (a b c:Value)(w:World):CallsD prog 10 #[a,b,c] .returning w fun e u' w'=>e= .returned (.tuple #[])∧u'= .returning∧w'=w:=by
 refine callsD_of_wpS func10 rfl fun c₀ cs hu=>?_;apply wpS_seq;apply wpS_region;simp[wpOpsS,go_sem,recoverD,hu,ntmps10,Exit.thenS];apply wpS_seq;apply wpS_region;simp[wpOpsS,go_sem,recoverD,hu,Exit.thenS];refine wpS_cond (t:=false) (by simp[Act.eval,Array.replicate]) ?_;simp only[Bool.false_eq_true,if_false];refine wpS_of_wp (wp_skip ?_);cases c₀
 simp_all [bodyPostS,results,results10]
attribute [local irreducible] AWP BS
def B8:List AV:=[.r (.int .i64 0),.r (.string ⟨#[]⟩),.r (.slice none 0 0),.r (.slice none 0 0),.r (.slice none 0 0),.r (.bool false),.r (.slice none 0 0),.r (.string ⟨#[]⟩),.r (.bool false),.r (.int .i64 0),.r (.string ⟨#[]⟩),.r (.slice none 0 0)]
set_option maxHeartbeats 8000000 in
theorem PE {E:Env}(hE:E.th0.length=3){t:Operand}{k0 k1 k2 k3 k4:Code}(hb:f10.body=some (.seq k0 (.seq k1 (.cond t (.seq k2 k3) k4))))(c0:List AV)(hc0:c0.length=12)(x y:AV)(e:Int)(p:Nat){AQ:AExit→AS→Prop}
  (hEnd: ∀st',Emb E f10.ntmps st' ⟨[],[(0,.box 29 B8),(1,.box 3 [.r (.int .i64 p)]),(2,.box 30 [.r (.int .i64 e)])],3⟩→AQ .normal st'):
  AWP prog E f10.ntmps k3 ⟨[(0,.p 0 0 0),(1,.p 1 0 0),(2,.p 2 0 0),(4,.p 3 0 0)],[(3,.box 40 [.r (.int .i64 p),.r (.int .i64 e)]),(0,.box 29 c0),(1,.box 3 [x]),(2,.box 30 [y])],4⟩ AQ:=by
 injection hb with hb
 injection hb with h1 h2
 injection h2 with h3 h4
 injection h4 with h5 h6 h7
 injection h6 with h8 h9
 subst h9;clear h1 h3 h5 h7 h8;have d12:c0.drop 12=[]:=List.drop_of_length_le (by omega);(repeat' ((refine rX (id:=3) AA [0,1,2] 8 [0,1,2,3,4,5,6,7] (fun K kp hK hkp=>?_));simp(implicitDefEqProofs:=false) (maxSteps:=2000000) (disch:=omega) only[go_sem,d12];(repeat' (refine hK _ ?_;clear hK hkp kp K))));refine hEnd _ ?_;(refine Am hE [0,1,2] rfl ?_ ?_<;>simp[Bi,AH,lk,ren,renL,A9,AG,B8]<;>(try omega))
theorem Hy {w:World}{z:Ag}{th:List NLoc}{e:Int}{p:Nat}{v:Value}(h:Rep w z th (Aa e p) v):v= .iface 40 (.agg #[.int .i64 p,.int .i64 e]):=by
 unfold Aa at h
 cases h with
 |ifc _ _ _ v hx=>
  cases hx with
  |agg _ _ ys hl hxx=>
   obtain⟨y0,y1,rfl⟩: ∃y0 y1,ys=[y0,y1]:=by
    match ys,hl with
    | [y0,y1],_=>exact⟨y0,y1,rfl⟩
   have h0:=(hxx 0 _ y0 rfl rfl).r_inv;have h1:=(hxx 1 _ y1 rfl rfl).r_inv;subst h0 h1
   rfl
theorem PF {E:Env}(hE:E.th0.length=3){t:Operand}{k0 k1 k2 k3 k4:Code}(hb:f10.body=some (.seq k0 (.seq k1 (.cond t (.seq k2 k3) k4))))(c0:List AV)(x y:AV)(hcr: ∀f,renL f c0=c0)(hxr: ∀f,ren f x=x)(hyr: ∀f,ren f y=y)(e:Int)(p:Nat){Q:Exit→Act→World→Prop}{th:List NLoc}{z:Ag}{a:Act}{w:World}
  (hs:Sim E f10.ntmps ⟨[(0,.p 0 0 0),(1,.p 1 0 0),(2,.p 2 0 0),(3,Aa e p)],[(0,.box 29 c0),(1,.box 3 [x]),(2,.box 30 [y])],3⟩ th z a w)
  (hEnd: ∀st' th z a w,Emb E f10.ntmps st' ⟨[(0,.p 0 0 0),(1,.p 1 0 0),(2,.p 2 0 0),(4,.p 3 0 0)],(3,.box 40 [.r (.int .i64 p),.r (.int .i64 e)])::[(0,.box 29 c0),(1,.box 3 [x]),(2,.box 30 [y])],4⟩→Sim E f10.ntmps st' th z a w→Q .normal a w):
  k2.wp prog Q a w:=by
 injection hb with hb
 injection hb with h1 h2
 injection h2 with h3 h4
 injection h4 with h5 h6 h7
 injection h6 with h8 h9
 subst h8;clear h1 h3 h5 h7 h9;refine wp_region_list ?_;unfold wpList;rw[if_pos (by rfl)];refine .inl ?_;refine Gt hs _ (k:=fun v st'=>v=Aa e p∧st'=⟨[(0,.p 0 0 0),(1,.p 1 0 0),(2,.p 2 0 0),(3,Aa e p)],[(0,.box 29 c0),(1,.box 3 [x]),(2,.box 30 [y])],3⟩) (kp:=fun _ _=>False) ?_ (fun i hi=>by cases hi;decide) ?_ (fun _ _ _ _ _ _ h=>h.elim)
 ·exact⟨rfl,rfl⟩
 rintro _ st' th' z' a' w' ⟨rfl,rfl⟩ hs';unfold wpList;rw[if_pos (by rfl)];refine .inl ?_;obtain⟨v,hv,hr⟩:=hs'.slots 8 (Aa e p) rfl;obtain rfl:=Hy hr
 have he:a'.eval (.tmp 8)= .iface 40 (.agg #[.int .i64 p,.int .i64 e]):=by simp[Act.eval,hv,Array.getD_eq_getD_getElem?]
 generalize hT:wpList prog _ Q _=T;unfold Oper.wp;simp[execOp,hv,go_sem,Instr.typeAssert];subst hT
 have hag:Rep w' z' th' (.agg [.r (.int .i64 p),.r (.int .i64 e)]) (.agg #[.int .i64 p,.int .i64 e]):=by
  refine .agg _ _ [.int .i64 p,.int .i64 e] rfl (fun i x y h1 h2=>?_)
  match i,h1,h2 with
  |0,h1,h2=>cases h1;cases h2;exact .r _ _
  |1,h1,h2=>cases h1;cases h2;exact .r _ _
 have hs2:=hs'.put hag (some 9) (fun i hi=>by cases hi;decide);refine Cq (kp:=fun _ _=>False) (K:=fun st'=>Emb E f10.ntmps st' ⟨[(0,.p 0 0 0),(1,.p 1 0 0),(2,.p 2 0 0),(4,.p 3 0 0)],(3,.box 40 [.r (.int .i64 p),.r (.int .i64 e)])::[(0,.box 29 c0),(1,.box 3 [x]),(2,.box 30 [y])],4⟩) (fun _ _ _ _ _ _ _ h=>h.elim) (fun st' th z a w h1 h2=>hEnd st' th z a w h1 h2) _ (fun o ho i hi=>?_) hs2 (Dc ?_)
 ·simp only[List.mem_cons,List.not_mem_nil,or_false] at ho
  rcases ho with rfl |rfl
  ·cases hi;decide
  ·cases hi
 ·simp only[AS.put]
  simp(implicitDefEqProofs:=false) (maxSteps:=2000000) (disch:=omega) only[go_sem];(repeat' (with_reducible refine And.intro ?_ ?_))
  all_goals first |omega |skip
  (refine Am hE [0,1,2,3] rfl ?_ ?_<;>simp[Bi,AH,lk,ren,renL,A9,AG,hcr,hxr,hyr]<;>(try omega))
def O7 (p:Nat)(e:Int):List (Nat×Nd):=[(0,.box 29 B8),(1,.box 3 [.r (.int .i64 p)]),(2,.box 30 [.r (.int .i64 e)])]
theorem Nw {E:Env}(hE:E.th0.length=3)(hds:E.ds=[])(c0:List AV)(hc0:c0.length=12)(x y:AV)(hcr: ∀f,renL f c0=c0)(hxr: ∀f,ren f x=x)(hyr: ∀f,ren f y=y){th:List NLoc}{z:Ag}{w:World}(hm:Mem E [(0,.box 29 c0),(1,.box 3 [x]),(2,.box 30 [y])] 3 th z w)(e:Int)(p:Nat){a b c V:Value}(ha:Rep w z th (.p 0 0 0) a)(hb:Rep w z th (.p 1 0 0) b)(hc:Rep w z th (.p 2 0 0) c)(hV:Rep w z th (Aa e p) V):
  CallsD prog 10 #[a,b,c] (.panicking [{v:=V,recovered:=false}]) w fun e' u' w'=>e'= .returned (.tuple #[])∧u'= .panicking [{v:=V,recovered:=true}]∧ ∃th' z',Mem E (O7 p e) 3 th' z' w':=by
 have hV':=Hy hV;subst hV';refine callsD_of_wpS func10 rfl fun c₀ cs hu=>?_;apply wpS_seq;apply wpS_region;simp[wpOpsS,go_sem,recoverD,hu,ntmps10,Exit.thenS];apply wpS_seq;apply wpS_region;simp[wpOpsS,go_sem,recoverD,hu,Exit.thenS];refine wpS_cond (t:=true) (by simp[Act.eval,Array.replicate]) ?_;simp only[if_true];refine wpS_of_wp ?_;generalize hA:Act.mk _ _=A
 have hs:Sim E f10.ntmps ⟨[(0,.p 0 0 0),(1,.p 1 0 0),(2,.p 2 0 0),(3,Aa e p)],[(0,.box 29 c0),(1,.box 3 [x]),(2,.box 30 [y])],3⟩ th z A w:=by
  refine⟨hm,by rw[←hA];simp,by rw[←hA,hds],fun i u hi=>?_⟩;simp only[lk] at hi
  repeat' split at hi
  all_goals first |cases hi;done |skip
  all_goals cases hi
  all_goals (rename_i hh;subst hh;rw[←hA])
  ·exact⟨_,by simp,ha⟩
  ·exact⟨_,by simp,hb⟩
  ·exact⟨_,by simp,hc⟩
  ·exact⟨_,by simp,hV⟩
 refine wp_seq (PF hE rfl c0 x y hcr hxr hyr e p hs fun st' th' z' a' w' he hs'=>?_);have h3:=PE (E:=E) hE (AQ:=fun ex st=>ex= .normal∧Emb E f10.ntmps st ⟨[],O7 p e,3⟩) rfl c0 hc0 x y e p (fun st h=>⟨rfl,h⟩);have h4:=AWP.emb he h3;unfold AWP at h4;refine h4 _ ⟨?_,?_,?_,?_⟩ th' z' a' w' hs'
 ·rintro st2 th2 z2 a2 w2 ⟨_,h2⟩ hs2
  obtain⟨th3,z3,hs3⟩:=h2 th2 z2 a2 w2 hs2
  have hd:a2.defers=[]:=by rw[hs2.dfs,hds]
  exact⟨hd,_,rfl,.tuple #[],by simp[results,results10],rfl,rfl,th3,z3,hs3.mem⟩
 ·rintro _ _ _ _ _ _ ⟨h,_⟩;cases h
 ·rintro _ _ _ _ _ ⟨h,_⟩;cases h
 ·rintro _ _ _ _ _ _ ⟨h,_⟩;cases h
end Go.AM
namespace Go.AM
open Go Go.RowKit
open Go.Proofs.YtmgddlckgpfccaaDoor (OP Ac AY AR str CK StrsAt)
theorem U_ {P:Program}{E:Env}{fn:Func}{Q:AV→List (Nat×Nd)→Nat→Prop}{R:Ending→World→Prop}(hds:E.ds=[])(hR: ∀v y o n th z w,Q y o n→Mem E o n th z w→Rep w z th y v→R (.returned v) w):Tu E fn.ntmps (bodyPostD P fn R) (BS P E fn.ntmps fn.results.toList Q No):=by
 have key: ∀st th z a w,BS P E fn.ntmps fn.results.toList Q No .ret st→Sim E fn.ntmps st th z a w→Leaves P fn a.tmps R a.defers .returning w:=by
  intro st th z a w h1 h2;simp only[BS] at h1;split at h1
  ·rename_i l hl
   obtain⟨y,o',n',hq,he⟩:=h1;obtain⟨v,hv,hrun⟩:=Cl (P:=P) h2 hl;obtain⟨th',z',hm,hrep⟩:=he th z a w v h2 hv;rw[h2.dfs,hds];exact⟨v,hrun,hR v y o' n' th' z' w hq hm hrep⟩
  ·exact h1.elim
 refine⟨key,fun id st th z a w h1 _=>h1.elim,key,fun x v st th z w h1 _ _ _ _=>?_⟩;obtain⟨y,o',n',hq,_⟩:=h1;exact hq.elim
attribute [local irreducible] AWP BS
theorem K6 {G:List (Nat×List Value)}(T:Tabs G)(x:TK0)(hs:Fh x.s):Con prog G 9 [.agg (eT x)] [] 0 (Is (.r (.int .i64 (CK x.k x.s x.n))) [] 0) No:=
 De (by kernel_rfl) (fun w z vs hz hr hG=>by
  obtain⟨v,r,rfl,h1,h2⟩:=hr.head;obtain rfl:=h2.of_nil;obtain⟨m1,m2⟩:=Jk hG T.marks
  cases h1 with
  |agg _ _ ys hl hxx=>
   obtain⟨y0,y1,y2,rfl⟩: ∃y0 y1 y2,ys=[y0,y1,y2]:=by
    match ys,hl with
    | [y0,y1,y2],_=>exact⟨y0,y1,y2,rfl⟩
   have e0:=(hxx 0 _ y0 rfl rfl).r_inv;have e1:=(hxx 1 _ y1 rfl rfl).r_inv;have e2:=(hxx 2 _ y2 rfl rfl).r_inv;subst e0 e1 e2
   exact Go.Proofs.YtmgddlckgpfccaaDoor.FP x.k x.s x.n w hs m1 m2)
def E7:Nat→List TK0→Option (Nat×Int)
 |_,[]=>none
 |i,t::r=>if CK t.k t.s t.n≠0 then some (i,CK t.k t.s t.n) else E7 (i+1) r
noncomputable def BI (l:List TK0):AV:=
 if 100<l.length then .tup [.agg B8,.r (.int .i64 0),.r (.int .i64 10)]
 else match E7 0 l with
  |some (i,e)=> .tup [.agg B8,.r (.int .i64 i),.r (.int .i64 e)]
  |none=>match Fe l with
   | .ok s _=> .tup [.agg (CU s),.r (.int .i64 0),.r (.int .i64 0)]
   | .bad e p=> .tup [.agg B8,.r (.int .i64 p),.r (.int .i64 e)]
theorem Gp: ∀(l:List TK0)(i k:Nat)(x:TK0),(∀j y,j<k→l[j]?=some y→CK y.k y.s y.n=0)→l[k]?=some x→CK x.k x.s x.n≠0→E7 i l=some (i+k,CK x.k x.s x.n)
 | [],i,k,x,_,h,_=>by cases h
 |y::r,i,0,x,_,h,hx=>by cases h;rw[E7,if_pos hx];rfl
 |y::r,i,k+1,x,hall,h,hx=>by
  rw[E7,if_neg (by rw[hall 0 y (by omega) rfl];simp),Gp r (i+1) k x (fun j z hj hz=>hall (j+1) z (by omega) hz) h hx];rw[show i+1+k=i+(k+1) by omega]
theorem F8: ∀(l:List TK0)(i:Nat),(∀x ∈ l,CK x.k x.s x.n=0)→E7 i l=none
 | [],i,_=>rfl
 |y::r,i,h=>by rw[E7,if_neg (by rw[h y (by simp)];simp)];exact F8 r _ (fun x hx=>h x (by simp[hx]))
@[reducible] def Iy (t:Bool) (l:List TK0):AS:=⟨[(0,.ro t 3 (l.map eT)),(2,.p 0 0 0),(3,.p 1 0 0),(4,.p 2 0 0)],[(0,.box 29 B8),(1,.box 3 [.r (.int .i64 0)]),(2,.box 30 [.r (.int .i64 0)])],3⟩
end Go.AM
namespace Go.AM
open Go Go.RowKit
open Go.Proofs.YtmgddlckgpfccaaDoor (OP Ac AY AR str CK StrsAt)
def Ob (E:Env)(l:List TK0):Ending→World→Prop:=fun e w'=> ∃v y o' n' th' z',((e= .returned v∧Is (BI l) [] 0 y o' n')∨(e= .panicked [{v:=v,recovered:=false}]∧No y o' n'))∧Mem E o' n' th' z' w'∧Rep w' z' th' y v
@[simp] theorem U3 (s:ST):(∀x,x ∈ CU s→PT x)=True:=eq_true (by
  intro x hx;simp only[CU,List.mem_cons,List.not_mem_nil,or_false] at hx
  rcases hx with rfl |rfl |rfl |rfl |rfl |rfl |rfl |rfl |rfl |rfl |rfl |rfl<;>first |exact .r _ |exact .ro _ _ (Lu _ _))
theorem NL {w w':World}{z z':Ag}{th th':List NLoc}{i:Nat}{v:Value}(h:Rep w z th (.p i 0 0) v)(hh: ∀L,th[i]?=some L→th'[i]?=some L):Rep w' z' th' (.p i 0 0) v:=by
 cases h with
 |p _ _ _ _ L hL=>exact .p _ _ _ _ L (hh L hL)
theorem Jr {w w':World}{z z':Ag}{th th':List NLoc}{i:Nat}{u v:Value}(h:Rep w z th (.p i 0 0) v)(h':Rep w' z' th' (.p i 0 0) u)(hh: ∀L,th[i]?=some L→th'[i]?=some L):u=v:=by
 cases h with
 |p _ _ _ _ L hL=>
  cases h' with
  |p _ _ _ _ M hM=>
   rw[hh L hL] at hM;cases hM;rfl
theorem Sv {E E':Env}{o:List (Nat×Nd)}{n:Nat}{th:List NLoc}{z:Ag}{w:World}(h1:E'.w0=E.w0)(h2:E'.own=E.own)(h3:E'.z0=E.z0)(h4:E'.G=E.G)(h0:E.th0.length=0)(h:Mem E' o n th z w):Mem E [] 0 [] z w:=by
 obtain⟨w0,own,z0,G,th0,ds⟩:=E;obtain⟨w0',own',z0',G',th0',ds'⟩:=E';simp only at h1 h2 h3 h4 h0;subst h1 h2 h3 h4;refine⟨rfl,fun i nd hi=>by simp[lk] at hi,fun i j x y L M hi=>by simp[lk] at hi,h.zlt,h.grow,h.frame,h.zin,h.zout,h.zb,h.globs,fun i L hi=>?_,h.sys,⟨fun _ _=>False,fun i T k els op L hi=>by simp[lk] at hi,fun _ _ h=>h.elim,fun _ _ h=>h.elim,fun _ _ h=>h.elim,fun _ _ _ h=>h.elim,fun i nd L j hi=>by simp[lk] at hi⟩⟩;have hi2:i<th0.length:=(List.getElem?_eq_some_iff.1 hi).1;omega
theorem Su {E E':Env}{o:List (Nat×Nd)}{n:Nat}{th:List NLoc}{z:Ag}{w:World}(h1:E'.w0=E.w0)(h2:E'.own=E.own)(h3:E'.z0=E.z0)(h4:E'.G=E.G)(h0: ∀(i:Nat) L,E.th0[i]?=some L→th[i]?=some L)(h:Mem E' o n th z w):Mem E o n th z w:=by
 obtain⟨w0,own,z0,G,th0,ds⟩:=E;obtain⟨w0',own',z0',G',th0',ds'⟩:=E';simp only at h1 h2 h3 h4 h0;subst h1 h2 h3 h4;obtain⟨U,hU⟩:=h.uls;exact⟨h.len,h.nds,h.inj,h.zlt,h.grow,h.frame,h.zin,h.zout,h.zb,h.globs,h0,h.sys,⟨U,hU.at_,hU.lt,hU.nz,hU.ow,hU.inj,hU.kn⟩⟩
theorem Sl {w:World}{z:Ag}{th:List NLoc}{y:AV}{v:Value}(hy: ∀f,ren f y=y)(h:Rep w z th y v):Rep w z [] y v:=
 h.unren (f:=fun i=>i+th.length) (fun i L hi=>by rw[List.getElem?_eq_none (by omega)] at hi;cases hi) y (hy _).symm
theorem JK {E E':Env}{l:List TK0}{v2 v3 v4:Value}(h1:E'.w0=E.w0)(h2:E'.own=E.own)(h3:E'.z0=E.z0)(h4:E'.G=E.G)(h0:E.th0.length=0)(hd:E'.ds=[{target:= .fn (.func 10) #[v2,v3,v4],args:= #[]}])(hy: ∀f,ren f (BI l)=BI l)
  {st:AS} {th:List NLoc} {z:Ag} {a:Act} {w:World} (hr:BS prog E' f5.ntmps f5.results.toList (Is (BI l) [] 3) No .ret st) (hs:Sim E' f5.ntmps st th z a w):
  bodyPostD prog f5 (Ob E l) .ret a w:=by
 simp only[BS] at hr;split at hr
 ·rename_i ls hl
  obtain⟨y,o',n',⟨rfl,rfl,rfl⟩,he⟩:=hr;obtain⟨v,hv,hrun⟩:=Cl (P:=prog) hs hl;obtain⟨th',z',hm,hrep⟩:=he th z a w v hs hv;show Leaves _ _ _ _ a.defers .returning w;rw[hs.dfs,hd];refine leaves_cons (f:=10) (args:= #[v2,v3,v4]) (by simp) (by simp[go_sem]) ?_;refine(MS v2 v3 v4 w).mono ?_;rintro e u' w' ⟨rfl,rfl,rfl⟩;exact⟨v,hrun,v,_,_,_,[],z',.inl ⟨rfl,rfl,rfl,rfl⟩,Sv h1 h2 h3 h4 h0 hm,Sl hy hrep⟩
 ·exact hr.elim
theorem Nb {E E':Env}{l:List TK0}{v2 v3 v4:Value}(h1:E'.w0=E.w0)(h2:E'.own=E.own)(h3:E'.z0=E.z0)(h4:E'.G=E.G)(h0:E.th0.length=0)(h5:E'.th0.length=3)(hd:E'.ds=[{target:= .fn (.func 10) #[v2,v3,v4],args:= #[]}])
  (e:Int) (p:Nat) (hpA:BI l= .tup [.agg B8,.r (.int .i64 p),.r (.int .i64 e)]) (c0:List AV) (hc0:c0.length=12) (x y:AV) (hcr: ∀f,renL f c0=c0) (hxr: ∀f,ren f x=x) (hyr: ∀f,ren f y=y) {st:AS} {th:List NLoc} {z:Ag} {a:Act} {w:World} {V:Value}
  (s2:lk st.m 2=some (.p 0 0 0)) (s3:lk st.m 3=some (.p 1 0 0)) (s4:lk st.m 4=some (.p 2 0 0)) {wb:World} {zb:Ag} (b2:Rep wb zb E'.th0 (.p 0 0 0) v2) (b3:Rep wb zb E'.th0 (.p 1 0 0) v3) (b4:Rep wb zb E'.th0 (.p 2 0 0) v4)
  (hem:Emb E' f5.ntmps st ⟨[],[(0,.box 29 c0),(1,.box 3 [x]),(2,.box 30 [y])],3⟩) (hs:Sim E' f5.ntmps st th z a w) (hV:Rep w z th (Aa e p) V):
  bodyPostD prog f5 (Ob E l) (.panic [{v:=V,recovered:=false}]) a w:=by
 show Leaves _ _ _ _ a.defers (.panicking _) w;rw[hs.dfs,hd];obtain⟨th1,z1,hs1⟩:=hem _ _ _ _ hs;obtain⟨u2,k2,q2⟩:=hs.slots 2 _ s2;obtain⟨u3,k3,q3⟩:=hs.slots 3 _ s3;obtain⟨u4,k4,q4⟩:=hs.slots 4 _ s4;obtain rfl:=(Jr b2 q2 (hs.mem.pre 0)).symm;obtain rfl:=(Jr b3 q3 (hs.mem.pre 1)).symm;obtain rfl:=(Jr b4 q4 (hs.mem.pre 2)).symm
 have up: ∀(i:Nat),i<3→ ∀L,th[i]?=some L→th1[i]?=some L:=fun i hi L hL=>by
  obtain⟨M,hM⟩: ∃M,E'.th0[i]?=some M:=⟨_,List.getElem?_eq_getElem (by omega)⟩;have e1:=hs.mem.pre i M hM;have e2:=hs1.mem.pre i M hM;rw[e1] at hL;cases hL;exact e2
 have hm:Mem {E' with ds:=[]} [(0,.box 29 c0),(1,.box 3 [x]),(2,.box 30 [y])] 3 th1 z1 w:=Su (E:={E' with ds:=[]}) (E':=E') rfl rfl rfl rfl (fun i L hi=>hs1.mem.pre i L hi) hs1.mem
 have hVr:Rep w z1 th1 (Aa e p) V:=by
  obtain rfl:=Hy hV;refine .ifc _ _ _ _ (.agg _ _ [.int .i64 p,.int .i64 e] rfl (fun i x y h1 h2=>?_))
  match i,h1,h2 with
  |0,h1,h2=>cases h1;cases h2;exact .r _ _
  |1,h1,h2=>cases h1;cases h2;exact .r _ _
 refine leaves_cons (f:=10) (args:= #[v2,v3,v4]) (by simp) (by simp[go_sem]) ?_;refine(Nw (E:={E' with ds:=[]}) h5 rfl c0 hc0 x y hcr hxr hyr hm e p (NL q2 (up 0 (by omega))) (NL q3 (up 1 (by omega))) (NL q4 (up 2 (by omega))) hVr).mono ?_;rintro e' u' w' ⟨rfl,rfl,th2,z2,hm2⟩
 have up2: ∀(i:Nat),i<3→ ∀L,th1[i]?=some L→th2[i]?=some L:=fun i hi L hL=>by
  obtain⟨M,hM⟩: ∃M,E'.th0[i]?=some M:=⟨_,List.getElem?_eq_getElem (by omega)⟩;have e1:=hs1.mem.pre i M hM;have e2:=hm2.pre i M hM;rw[e1] at hL;cases hL;exact e2
 show Leaves _ _ _ _ [] .returning w'
 have hs2:Sim {E' with ds:=[]} f5.ntmps ⟨[(2,.p 0 0 0),(3,.p 1 0 0),(4,.p 2 0 0)],O7 p e,3⟩ th2 z2 {a with defers:=[]} w':=by
  refine⟨hm2,hs.size,rfl,fun i u hi=>?_⟩;simp only[lk] at hi
  repeat' split at hi
  all_goals first |cases hi;done |skip
  all_goals cases hi
  all_goals (rename_i hh;subst hh)
  ·exact⟨_,k2,NL q2 (fun L hL=>up2 0 (by omega) L (up 0 (by omega) L hL))⟩
  ·exact⟨_,k3,NL q3 (fun L hL=>up2 1 (by omega) L (up 1 (by omega) L hL))⟩
  ·exact⟨_,k4,NL q4 (fun L hL=>up2 2 (by omega) L (up 2 (by omega) L hL))⟩
 have hl:Iw prog ⟨[(2,.p 0 0 0),(3,.p 1 0 0),(4,.p 2 0 0)],O7 p e,3⟩ f5.results.toList=some [.agg B8,.r (.int .i64 p),.r (.int .i64 e)]:=by
  unfold O7 B8;simp(implicitDefEqProofs:=false) (maxSteps:=2000000) (disch:=omega) only[go_sem,results5]
 obtain⟨v,hv,hrun⟩:=Cl (P:=prog) hs2 hl;refine⟨v,hrun,v,BI l,[],0,[],z2,.inl ⟨rfl,rfl,rfl,rfl⟩,Sv (E':={E' with ds:=[]}) h1 h2 h3 h4 h0 hm2,?_⟩;rw[hpA];exact Sl (fun f=>by simp[ren,renL,B8]) hv
theorem UZ {E E':Env}{l:List TK0}{v2 v3 v4:Value}(h1:E'.w0=E.w0)(h2:E'.own=E.own)(h3:E'.z0=E.z0)(h4:E'.G=E.G)(h0:E.th0.length=0)(hd:E'.ds=[{target:= .fn (.func 10) #[v2,v3,v4],args:= #[]}])(hy: ∀f,ren f (BI l)=BI l):
  Tu E' f5.ntmps (bodyPostD prog f5 (Ob E l)) (BS prog E' f5.ntmps f5.results.toList (Is (BI l) [] 3) No):=
 ⟨fun _ _ _ _ _ g hs=>JK h1 h2 h3 h4 h0 hd hy g hs,fun _ _ _ _ _ _ g _=>g.elim,fun _ _ _ _ _ g hs=>JK h1 h2 h3 h4 h0 hd hy g hs,fun _ _ _ _ _ _ g _ _ _ _=>by obtain⟨_,_,_,hq,_⟩:=g;exact hq.elim⟩
attribute [local irreducible] AWP BS
theorem MI {P:Program}{E:Env}{N:Nat}{ds:List (Option Nat)}{l:List Oper}{st:AS}{C:AS→Prop}{D:AV→AS→Prop}(h: ∀(K:AS→Prop)(kp:AV→AS→Prop),(∀st,C st→K st)→(∀x st,D x st→kp x st)→ex P E N ds kp l st K):ex P E N ds D l st C:=h C D (fun _ h=>h) (fun _ _ h=>h)
def Ro (E:Env)(e:Int)(p:Nat)(c0:List AV)(x:AV)(st:AS):Prop:=x=Aa e p∧lk st.m 2=some (.p 0 0 0)∧lk st.m 3=some (.p 1 0 0)∧lk st.m 4=some (.p 2 0 0)∧Emb E f5.ntmps st ⟨[],[(0,.box 29 c0),(1,.box 3 [.r (.int .i64 0)]),(2,.box 30 [.r (.int .i64 0)])],3⟩
theorem NN {E:Env}(h5:E.th0.length=3)(l:List TK0)(s:ST)(p:Nat){c0 c1 c2 c3 c4 c5 c6 c7:Code}(hb:f5.body=some (.seq c0 (.seq c1 (.seq c2 (.seq c3 (.seq c4 (.seq c5 (.seq c6 c7)))))))):
  AWP prog E f5.ntmps c7 ⟨[(40,.r (.bool false)),(8,.p 3 0 0),(0,.ro true 3 (l.map eT)),(2,.p 0 0 0),(3,.p 1 0 0),(4,.p 2 0 0)],[(3,.box 43 [.ro true 3 (l.map eT),.r (.int .i64 p),.any]),(0,.box 29 (CU s)),(1,.box 3 [.r (.int .i64 0)]),(2,.box 30 [.r (.int .i64 0)])],4⟩ (BS prog E f5.ntmps f5.results.toList (Is (.tup [.agg (CU s),.r (.int .i64 0),.r (.int .i64 0)]) [] 3) No):=by
 injection hb with hb
 injection hb with h1 hb
 injection hb with h2 hb
 injection hb with h3 hb
 injection hb with h4 hb
 injection hb with h6 hb
 injection hb with h7 hb
 injection hb with h8 hb
 subst hb;clear h1 h2 h3 h4 h6 h7 h8;unfold CU;(repeat' (first |refine A6 ?_ |refine A2 ?_ |refine A3 ?_ |refine A5 ?_ |((first |refine rR (fun K kp hK hkp=>?_) |refine iG ?_);simp(implicitDefEqProofs:=false) (maxSteps:=2000000) (disch:=omega) only[go_sem];(repeat' (first |(refine hK _ ?_;clear hK hkp kp K) |(with_reducible refine And.intro ?_ ?_) |omega))) |((first |refine aG (fun h=>?_) (fun h=>?_) |refine aD (fun h=>?_) (fun h=>?_) |refine aX (fun h=>?_) (fun h=>?_))<;>simp only[h]) |refine A0 rfl ?_ |refine A1 rfl ?_ |((refine A4 rfl (fun h=>?_) (fun h=>?_)<;>try simp only[AK] at h)<;>(try (exfalso;omega))) |refine A7 ?_));(refine AB (by(simp(implicitDefEqProofs:=false) (maxSteps:=2000000) (disch:=omega) only[go_sem,results5]);rfl) ?_;refine(AC h5 [0,1,2] rfl ?_ ?_).s<;>simp[AI,AH,lk,ren,renL,A9,AG])
set_option maxHeartbeats 8000000 in
theorem Lv {E:Env}(T:TabsP E.G)(hE:E.th0.length=0)(hds:E.ds=[])(l:List TK0)(h100:l.length≤100)(hk: ∀t ∈ l,TokOk t)(hbt:E7 0 l=none){c0 c1 c2 c3:Code}(hb:f5.body=some (.seq c0 (.seq c1 (.seq c2 c3))))
  {th:List NLoc} {z:Ag} {a:Act} {w:World} (hs:Sim E f5.ntmps (Iy true l) th z a w):c3.wp prog (bodyPostD prog f5 (Ob E l)) a w:=by
 injection hb with hb
 injection hb with h1 h2
 injection h2 with h3 h4
 injection h4 with h5 h6
 subst h6;clear h1 h3 h5;obtain⟨v2,g2,r2⟩:=hs.slots 2 (.p 0 0 0) rfl;obtain⟨v3,g3,r3⟩:=hs.slots 3 (.p 1 0 0) rfl;obtain⟨v4,g4,r4⟩:=hs.slots 4 (.p 2 0 0) rfl;have hsz:=hs.size
 have hdf:a.defers=[]:=by rw[hs.dfs,hds]
 have hmf: ∀(fn:Fn)(first cap:Array Value)(w:World),(Instr.makeFunc fn first cap).run prog w= .ok (.func fn first cap) w:=fun _ _ _ _=>rfl;refine wp_seq ?_;refine wp_region_list ?_
 have h28:28<a.tmps.size:=by rw[hsz];decide
 generalize hTC:Code.seq _ _=TC;unfold wpList;rw[if_pos (by rfl)];refine .inl ?_;simp[wpList,Oper.wp,execOp,go_sem,hmf,g2,g3,g4,hdf,h28];refine .inl ?_;subst hTC;obtain⟨d,hd⟩: ∃d:Deferred,d={target:= .fn (.func 10) #[v2,v3,v4],args:= #[]}:=⟨_,rfl⟩;obtain⟨E',hE'⟩: ∃E':Env,E'={E with th0:=th,ds:=[d]}:=⟨_,rfl⟩
 have q1:E'.w0=E.w0:=by rw[hE']
 have q2:E'.own=E.own:=by rw[hE']
 have q3:E'.z0=E.z0:=by rw[hE']
 have q4:E'.G=E.G:=by rw[hE']
 have q5:E'.th0.length=3:=by rw[hE'];exact hs.mem.len
 have q6:E'.ds=[d]:=by rw[hE']
 have T':TabsP E'.G:=by rw[q4];exact T
 rw[←hd];obtain⟨tm,htm⟩: ∃tm,tm=a.tmps.setIfInBounds 28 (Value.func (Fn.func 10) #[] #[v2,v3,v4]):=⟨_,rfl⟩;rw[←htm]
 have hs1:Sim E' f5.ntmps (Iy true l) th z {tmps:=tm,defers:=[d]} w:=by
  refine⟨Su q1.symm q2.symm q3.symm q4.symm (fun i L h=>by rw[hE'] at h;exact h) hs.mem,by rw[htm];simpa using hsz,q6.symm,fun i u hi=>?_⟩;obtain⟨v,hv,hr⟩:=hs.slots i u hi;refine⟨v,?_,hr⟩;rw[htm]
  have h28':i≠28:=by
   rintro rfl;simp[Iy,lk] at hi
  rw[Array.getElem?_setIfInBounds_ne (Ne.symm h28')];exact hv
 have t2:tm[2]?=some v2:=by rw[htm,Array.getElem?_setIfInBounds_ne (by decide)];exact g2
 have t3:tm[3]?=some v3:=by rw[htm,Array.getElem?_setIfInBounds_ne (by decide)];exact g3
 have t4:tm[4]?=some v4:=by rw[htm,Array.getElem?_setIfInBounds_ne (by decide)];exact g4
 clear hs g2 g3 g4 hmf hdf h28 htm
 have b2:Rep w z E'.th0 (.p 0 0 0) v2:=by rw[hE'];exact r2
 have b3:Rep w z E'.th0 (.p 1 0 0) v3:=by rw[hE'];exact r3
 have b4:Rep w z E'.th0 (.p 2 0 0) v4:=by rw[hE'];exact r4
 clear r2 r3 r4;rw[hd] at q6
 have pan: ∀(e:Int)(p:Nat)(c0:List AV),BI l= .tup [.agg B8,.r (.int .i64 p),.r (.int .i64 e)]→c0.length=12→(∀f,renL f c0=c0)→ ∀x v st' th' z' a' w',Ro E' e p c0 x st'→Sim E' f5.ntmps st' th' z' a' w'→Rep w' z' th' x v→bodyPostD prog f5 (Ob E l) (.panic [{v:=v,recovered:=false}]) a' w':=by
  rintro e p c0 hpA hc0 hcr x v st' th' z' a' w' ⟨rfl,s2,s3,s4,hem⟩ hs' hV;exact Nb q1 q2 q3 q4 hE q5 q6 e p hpA c0 hc0 _ _ hcr (fun f=>rfl) (fun f=>rfl) s2 s3 s4 b2 b3 b4 hem hs' hV
 refine FA Ht (K:=fun st'=>Emb E' f5.ntmps st' ⟨[(8,.p 3 0 0),(0,.ro true 3 (l.map eT)),(2,.p 0 0 0),(3,.p 1 0 0),(4,.p 2 0 0)],[(3,.box 43 [.ro true 3 (l.map eT),.r (.int .i64 (0:Nat)),.any]),(0,.box 29 B8),(1,.box 3 [.r (.int .i64 0)]),(2,.box 30 [.r (.int .i64 0)])],4⟩) ?_ (fun st' th z a w he hs'=>?_) hs1
 ·unfold Iy B8
  (repeat' (first |refine A6 ?_ |refine A2 ?_ |refine A3 ?_ |refine A5 ?_ |((first |refine rR (fun K kp hK hkp=>?_) |refine iG ?_);simp(implicitDefEqProofs:=false) (maxSteps:=2000000) (disch:=omega) only[go_sem];(repeat' (first |(refine hK _ ?_;clear hK hkp kp K) |(with_reducible refine And.intro ?_ ?_) |omega))) |((first |refine aG (fun h=>?_) (fun h=>?_) |refine aD (fun h=>?_) (fun h=>?_) |refine aX (fun h=>?_) (fun h=>?_))<;>simp only[h]) |refine A0 rfl ?_ |refine A1 rfl ?_ |((refine A4 rfl (fun h=>?_) (fun h=>?_)<;>try simp only[AK] at h)<;>(try (exfalso;omega))) |refine A7 ?_));change Emb E' _ _ _;refine Emb.trans (QI 3 2 rfl) ?_;simp only[BO,List.set_cons_zero,List.set_cons_succ];(refine Am q5 [0,1,2,3] rfl ?_ ?_<;>simp[Bi,AH,lk,ren,renL,A9,AG]<;>(try omega))
 obtain⟨th2,z2,hs2⟩:=he _ _ _ _ hs';clear hs1 he hs';have sc:=OI T' hk h100 0 (Nat.zero_le _)
 have hns: ¬100<l.length:=by omega
 cases hst:BG l 0 with
 |bad e p=>
  have hpA:BI l= .tup [.agg B8,.r (.int .i64 p),.r (.int .i64 e)]:=by rw[BI,if_neg hns,hbt,Fe,hst];rfl
  have sc:=sc.bad hst;unfold A_ at sc;refine wp_seq ?_;refine GO (kp:=Ro E' e p B8) (K:=fun _=>False) (by kernel_rfl) (MI fun K kp hK hkp=>?_) (fun x v st' th' z' a' w' h hs hr=>?_) (fun _ _ _ _ _ h _=>h.elim) hs2;rotate_left
  ·exact pan e p B8 hpA rfl (fun f=>by simp[renL,ren,B8]) x v st' th' z' a' w' h hs hr
  simp(implicitDefEqProofs:=false) (maxSteps:=2000000) (disch:=omega) only[go_sem];refine oP [3] sc ?_;refine hkp _ _ ⟨rfl,rfl,rfl,rfl,?_⟩;(refine Am q5 [0,1,2] rfl ?_ ?_<;>simp[Bi,AH,lk,ren,renL,A9,AG,B8]<;>(try omega))
 |ok s p=>
  have sc:=sc.ok hst;(try dsimp only at sc);unfold A_ at sc;refine wp_seq (GO (kp:=fun _ _=>False) (K:=fun st'=>Emb E' f5.ntmps st' ⟨[(8,.p 3 0 0),(0,.ro true 3 (l.map eT)),(2,.p 0 0 0),(3,.p 1 0 0),(4,.p 2 0 0)],[(3,.box 43 [.ro true 3 (l.map eT),.r (.int .i64 p),.any]),(0,.box 29 (CU s)),(1,.box 3 [.r (.int .i64 0)]),(2,.box 30 [.r (.int .i64 0)])],4⟩) (by kernel_rfl) (MI fun K kp hK hkp=>?_) (fun _ _ _ _ _ _ _ h=>h.elim) (fun st' th z a w he hs'=>?_) hs2)
  ·unfold B8
   simp(implicitDefEqProofs:=false) (maxSteps:=2000000) (disch:=omega) only[go_sem];refine oR [3] sc ?_;simp(implicitDefEqProofs:=false) (maxSteps:=2000000) (disch:=omega) only[go_sem,CU];refine hK _ ?_;(refine Am q5 [0,1,2,3] rfl ?_ ?_<;>simp[Bi,AH,lk,ren,renL,A9,AG,CU]<;>(try omega))
  obtain⟨th3,z3,hs3⟩:=he _ _ _ _ hs';clear hs2 he hs'
  by_cases hlt:p<l.length
  ·have hpA:BI l= .tup [.agg B8,.r (.int .i64 p),.r (.int .i64 6)]:=by
    rw[BI,if_neg hns,hbt,Fe,hst];simp only[Ad,if_pos hlt,BP,if_neg (show ¬l.length≤p by omega)]
   have d1:decide ((p:Int)<(l.length:Int))=true:=decide_eq_true (by omega);have gc:=DV E'.G l p 6 h100 (by omega);rw[if_neg (by omega)] at gc;unfold A_ at gc;refine wp_seq (FA Ht (K:=fun st'=>Emb E' f5.ntmps st' ⟨[(40,.r (.bool true)),(8,.p 3 0 0),(0,.ro true 3 (l.map eT)),(2,.p 0 0 0),(3,.p 1 0 0),(4,.p 2 0 0)],[(3,.box 43 [.ro true 3 (l.map eT),.r (.int .i64 p),.any]),(0,.box 29 (CU s)),(1,.box 3 [.r (.int .i64 0)]),(2,.box 30 [.r (.int .i64 0)])],4⟩) ?_ (fun st' th z a w he hs'=>?_) hs3)
   ·(repeat' (first |refine A6 ?_ |refine A2 ?_ |refine A3 ?_ |refine A5 ?_ |((first |refine rR (fun K kp hK hkp=>?_) |refine iG ?_);simp(implicitDefEqProofs:=false) (maxSteps:=2000000) (disch:=omega) only[go_sem,d1];(repeat' (first |(refine hK _ ?_;clear hK hkp kp K) |(with_reducible refine And.intro ?_ ?_) |omega))) |((first |refine aG (fun h=>?_) (fun h=>?_) |refine aD (fun h=>?_) (fun h=>?_) |refine aX (fun h=>?_) (fun h=>?_))<;>simp only[h]) |refine A0 rfl ?_ |refine A1 rfl ?_ |((refine A4 rfl (fun h=>?_) (fun h=>?_)<;>try simp only[AK] at h)<;>(try (exfalso;omega))) |refine A7 ?_))
    change Emb E' _ _ _;(refine Am q5 [0,1,2,3] rfl ?_ ?_<;>simp[Bi,AH,lk,ren,renL,A9,AG,CU]<;>(try omega))
   obtain⟨th4,z4,hs4⟩:=he _ _ _ _ hs';obtain⟨v40,g40,r40⟩:=hs4.slots 40 _ rfl;obtain rfl:=r40.r_inv;refine wp_cond (t:=true) (by simp[Act.eval,g40,Array.getD_eq_getD_getElem?]) ?_;simp only[if_true];refine GO (kp:=Ro E' 6 p (CU s)) (K:=fun _=>False) (by kernel_rfl) (MI fun K kp hK hkp=>?_) (fun x v st' th' z' a' w' h hs hr=>?_) (fun _ _ _ _ _ h _=>h.elim) hs4;rotate_left
   ·exact pan 6 p (CU s) hpA rfl (fun f=>by simp[renL,ren,CU]) x v st' th' z' a' w' h hs hr
   simp(implicitDefEqProofs:=false) (maxSteps:=2000000) (disch:=omega) only[go_sem];refine oP [3] gc ?_;refine hkp _ _ ⟨rfl,rfl,rfl,rfl,?_⟩;(refine Am q5 [0,1,2] rfl ?_ ?_<;>simp[Bi,AH,lk,ren,renL,A9,AG,CU]<;>(try omega))
  ·have hpA:BI l= .tup [.agg (CU s),.r (.int .i64 0),.r (.int .i64 0)]:=by
    rw[BI,if_neg hns,hbt,Fe,hst];simp only[Ad,if_neg hlt]
   have d1:decide ((p:Int)<(l.length:Int))=false:=decide_eq_false (by omega);refine wp_seq (FA Ht (K:=fun st'=>Emb E' f5.ntmps st' ⟨[(40,.r (.bool false)),(8,.p 3 0 0),(0,.ro true 3 (l.map eT)),(2,.p 0 0 0),(3,.p 1 0 0),(4,.p 2 0 0)],[(3,.box 43 [.ro true 3 (l.map eT),.r (.int .i64 p),.any]),(0,.box 29 (CU s)),(1,.box 3 [.r (.int .i64 0)]),(2,.box 30 [.r (.int .i64 0)])],4⟩) ?_ (fun st' th z a w he hs'=>?_) hs3)
   ·(repeat' (first |refine A6 ?_ |refine A2 ?_ |refine A3 ?_ |refine A5 ?_ |((first |refine rR (fun K kp hK hkp=>?_) |refine iG ?_);simp(implicitDefEqProofs:=false) (maxSteps:=2000000) (disch:=omega) only[go_sem,d1];(repeat' (first |(refine hK _ ?_;clear hK hkp kp K) |(with_reducible refine And.intro ?_ ?_) |omega))) |((first |refine aG (fun h=>?_) (fun h=>?_) |refine aD (fun h=>?_) (fun h=>?_) |refine aX (fun h=>?_) (fun h=>?_))<;>simp only[h]) |refine A0 rfl ?_ |refine A1 rfl ?_ |((refine A4 rfl (fun h=>?_) (fun h=>?_)<;>try simp only[AK] at h)<;>(try (exfalso;omega))) |refine A7 ?_))
    change Emb E' _ _ _;(refine Am q5 [0,1,2,3] rfl ?_ ?_<;>simp[Bi,AH,lk,ren,renL,A9,AG,CU]<;>(try omega))
   obtain⟨th4,z4,hs4⟩:=he _ _ _ _ hs';obtain⟨v40,g40,r40⟩:=hs4.slots 40 _ rfl;obtain rfl:=r40.r_inv;refine wp_cond (t:=false) (by simp[Act.eval,g40,Array.getD_eq_getD_getElem?]) ?_;simp only[Bool.false_eq_true,if_false];refine wp_skip ?_;have hq:=UZ q1 q2 q3 q4 hE q6 (fun f=>by rw[hpA];simp[renL,ren,CU]);rw[hpA] at hq;have hfin:=NN q5 l s p (by rfl);unfold AWP at hfin;exact hfin _ hq _ _ _ _ hs4
end Go.AM
namespace Go.AM
open Go Go.RowKit
open Go.Proofs.YtmgddlckgpfccaaDoor (OP Ac AY AR str CK StrsAt)
attribute [local irreducible] AWP BS
theorem OD {k:Int}{s:ByteArray}{n:Int}(h:CK k s n=0):k=2→0≤n:=by
 rintro rfl;unfold CK at h;rw[if_neg (by decide),if_pos rfl] at h;split at h
 ·cases h
 ·omega
set_option maxHeartbeats 8000000 in
theorem NO {G:List (Nat×List Value)}(T:TabsP G)(l:List TK0)(hl:l.length≤1048576)(hsz: ∀x ∈ l,Fh x.s)(hhi: ∀x ∈ l,x.n≤9223372036854775807):Con prog G 5 [.ro true 3 (l.map eT)] [] 0 (Is (BI l) [] 0) No:=by
 refine⟨by kernel_rfl,fun w th z own vs hown hmem hr=>calls_of_wp_defers (fn:=f5) func5 rfl ?_⟩
 have hs:Sim ⟨w,own,z,G,th,[]⟩ f5.ntmps ⟨Ai 0 [.ro true 3 (l.map eT)],[],0⟩ th z {tmps:=vs.toArray++Array.replicate (f5.ntmps - vs.toArray.size) undef,defers:=[]} w:=by
  have hN:1≤f5.ntmps:=by decide
  have hlen:vs.length=1:=hr.1;refine⟨hmem,by simp;omega,rfl,fun i x hi=>?_⟩;obtain⟨_,h2⟩:=M4 _ 0 i x hi;rw[Nat.sub_zero] at h2;obtain⟨y,hy,hrep⟩:=hr.get h2;refine⟨y,?_,hrep⟩;have:i<vs.length:=(List.getElem?_eq_some_iff.1 hy).1;simp only[Array.getElem?_append,List.size_toArray,this,if_true];simpa using hy
 have hth:th.length=0:=hmem.len;generalize hA:Act.mk _ _=A at hs ⊢;clear hA hr hown hmem;obtain⟨E,hEE⟩: ∃E:Env,E=⟨w,own,z,G,th,[]⟩:=⟨_,rfl⟩;rw[←hEE] at hs ⊢
 have hG:E.G=G:=by rw[hEE]
 have hE:E.th0.length=0:=by rw[hEE];exact hth
 have hds:E.ds=[]:=by rw[hEE]
 clear hEE hth;subst hG;have hQ:=U_ (P:=prog) (E:=E) (fn:=f5) (Q:=Is (BI l) [] 0) (R:=fun e w'=> ∃v y o' n' th' z',((e= .returned v∧Is (BI l) [] 0 y o' n')∨(e= .panicked [{v:=v,recovered:=false}]∧No y o' n'))∧Mem E o' n' th' z' w'∧Rep w' z' th' y v) hds (fun v y o n th z w hq hm hr=>⟨v,y,o,n,th,z,.inl ⟨rfl,hq⟩,hm,hr⟩);refine FA hQ (K:=fun st'=>Emb E f5.ntmps st' (Iy true l)) ?_ (fun st' th z a w he hs'=>?_) hs
 ·simp only[Ai]
  (repeat' ((refine rR (fun K kp hK hkp=>?_));simp(implicitDefEqProofs:=false) (maxSteps:=2000000) (disch:=omega) only[go_sem];(repeat' (refine hK _ ?_;clear hK hkp kp K))));change Emb E _ _ _;unfold Iy B8;(refine Am hE [0,1,2] rfl ?_ ?_<;>simp[Bi,AH,lk,ren,renL,A9,AG]<;>(try omega))
 obtain⟨th2,z2,hs2⟩:=he _ _ _ _ hs';clear hs he hs';refine FA hQ (K:=fun st'=>Emb E f5.ntmps st' (Iy true l)∧l.length≤100) ?_ (fun st' th z a w he hs'=>?_) hs2
 ·unfold Iy
  by_cases h100:100<l.length
  ·have d1:decide ((l.length:Int)>100)=true:=decide_eq_true (by omega)
   have hp:BI l= .tup [.agg B8,.r (.int .i64 0),.r (.int .i64 10)]:=by rw[BI,if_pos h100]
   rw[hp];unfold B8;(repeat' (first |refine A6 ?_ |((refine rR (fun K kp hK hkp=>?_));simp(implicitDefEqProofs:=false) (maxSteps:=2000000) (disch:=omega) only[go_sem,d1];(repeat' (refine hK _ ?_;clear hK hkp kp K))) |refine A0 rfl ?_ |refine A7 ?_));(refine AB (by(simp(implicitDefEqProofs:=false) (maxSteps:=2000000) (disch:=omega) only[go_sem,results5]);rfl) ?_;refine eN hE ?_;simp[AI,ren,renL])
  ·have d1:decide ((l.length:Int)>100)=false:=decide_eq_false (by omega)
   unfold B8;(repeat' (first |refine A6 ?_ |refine A3 ?_ |((refine rR (fun K kp hK hkp=>?_));simp(implicitDefEqProofs:=false) (maxSteps:=2000000) (disch:=omega) only[go_sem,d1];(repeat' (refine hK _ ?_;clear hK hkp kp K))) |refine A1 rfl ?_));change Emb E _ _ _∧_;refine⟨?_,by omega⟩;(refine Am hE [0,1,2] rfl ?_ ?_<;>simp[Bi,AH,lk,ren,renL,A9,AG]<;>(try omega))
 obtain⟨he,h100⟩:=he;obtain⟨th3,z3,hs3⟩:=he _ _ _ _ hs';clear hs2 he hs';refine FA hQ (K:=fun st'=>Emb E f5.ntmps st' (Iy true l)∧ ∀x ∈ l,CK x.k x.s x.n=0) ?_ (fun st' th z a w he hs'=>?_) hs3
 ·unfold Iy B8
  (repeat' (first |refine A6 ?_ |refine A2 ?_ |((refine rR (fun K kp hK hkp=>?_));simp(implicitDefEqProofs:=false) (maxSteps:=2000000) (disch:=omega) only[go_sem];(repeat' (refine hK _ ?_;clear hK hkp kp K)))));refine Ap (fun k:Nat=>⟨[(15,.r (.int .i64 k)),(14,.r (.int .i64 l.length)),(13,.ro true 3 (l.map eT)),(0,.ro true 3 (l.map eT)),(2,.p 0 0 0),(3,.p 1 0 0),(4,.p 2 0 0)],[(0,.box 29 B8),(1,.box 3 [.r (.int .i64 0)]),(2,.box 30 [.r (.int .i64 0)])],3⟩) (fun k=>k≤l.length∧ ∀j y,j<k→l[j]?=some y→CK y.k y.s y.n=0) (fun k=>l.length - k) 0 ?_ ?_ ?_
  ·exact⟨Nat.zero_le _,fun j y h=>by omega⟩
  ·unfold B8
   (refine Am hE [0,1,2] rfl ?_ ?_<;>simp[Bi,AH,lk,ren,renL,A9,AG]<;>(try omega))
  rintro k ⟨hk,hall⟩
  by_cases hk':k<l.length
  ·obtain⟨x,hx⟩: ∃x,l[k]?=some x:=⟨l[k],by simp[hk']⟩
   have d1:decide ((k:Int)<(l.length:Int))=true:=decide_eq_true (by omega);have xc:=K6 T.toTabs x (hsz x (List.mem_of_getElem? hx));simp only[eT] at xc;cases d2:(CK x.k x.s x.n !=0)
   ·unfold B8
    (repeat' (first |refine A6 ?_ |refine A2 ?_ |refine A3 ?_ |((first |refine rR (fun K kp hK hkp=>?_) |refine cR xc ?_);simp(implicitDefEqProofs:=false) (maxSteps:=2000000) (disch:=omega) only[go_sem,d1,hx,eT,d2];(repeat' (refine hK _ ?_;clear hK hkp kp K))) |refine A0 rfl ?_ |refine A1 rfl ?_))
    ((refine BT (k+1) ?_ ?_ ?_);rotate_left;(·(try dsimp only);(omega));(·(refine Am hE [0,1,2] rfl ?_ ?_<;>simp[Bi,AH,lk,ren,renL,A9,AG,B8]<;>(try omega))))
    refine⟨by omega,fun j y hj hy=>?_⟩
    rcases Nat.lt_or_ge j k with h |h
    ·exact hall j y h hy
    ·obtain rfl:j=k:=by omega
     rw[hx] at hy;cases hy;simpa using d2
   ·have hb:=Gp l 0 k x hall hx (by simpa using d2)
    rw[Nat.zero_add] at hb
    have hp:BI l= .tup [.agg B8,.r (.int .i64 k),.r (.int .i64 (CK x.k x.s x.n))]:=by rw[BI,if_neg (by omega),hb]
    rw[hp];unfold B8;(repeat' (first |refine A6 ?_ |refine A2 ?_ |refine A3 ?_ |((first |refine rR (fun K kp hK hkp=>?_) |refine cR xc ?_);simp(implicitDefEqProofs:=false) (maxSteps:=2000000) (disch:=omega) only[go_sem,d1,hx,eT,d2];(repeat' (refine hK _ ?_;clear hK hkp kp K))) |refine A0 rfl ?_ |refine A7 ?_));(refine AB (by(simp(implicitDefEqProofs:=false) (maxSteps:=2000000) (disch:=omega) only[go_sem,results5]);rfl) ?_;refine eN hE ?_;simp[AI,ren,renL])
  ·obtain rfl:k=l.length:=by omega
   have d1:decide ((l.length:Int)<(l.length:Int))=false:=decide_eq_false (by omega);(repeat' (first |refine A6 ?_ |refine A5 ?_ |((refine rR (fun K kp hK hkp=>?_));simp(implicitDefEqProofs:=false) (maxSteps:=2000000) (disch:=omega) only[go_sem,d1];(repeat' (refine hK _ ?_;clear hK hkp kp K))) |refine A1 rfl ?_));change Emb E _ _ _∧_;refine⟨?_,fun x hx=>?_⟩
   ·unfold B8
    (refine Am hE [0,1,2] rfl ?_ ?_<;>simp[Bi,AH,lk,ren,renL,A9,AG]<;>(try omega))
   ·obtain⟨j,hj⟩:=List.mem_iff_getElem?.1 hx
    exact hall j x (List.getElem?_eq_some_iff.1 hj).1 hj
 obtain⟨he,htk⟩:=he;obtain⟨th4,z4,hs4⟩:=he _ _ _ _ hs';clear hs3 he hs';exact Lv T hE hds l h100 (fun x hx=>⟨hsz x hx,OD (htk x hx),hhi x hx⟩) (F8 l 0 htk) rfl hs4
end Go.AM
namespace Go.AM
open Go Go.RowKit
open Go.Proofs.YtmgddlckgpfccaaDoor (OP Ac AY AR str)
attribute [local irreducible] AWP BS
@[reducible] def Aj (l:List TK0) (s:WK):List (Nat×Nd):=[(0,.box 48 [.ro true 3 (l.map eT),.r (.int .i64 s.p),.r (.int .i64 s.fl),.r (.int .i64 s.e),.r (.int .i64 s.c)])]
theorem Bl (G:List (Nat×List Value))(l:List TK0)(s:WK)(e:Int)(hl:l.length≤100)(hp:s.p≤100):Con prog G 15 [.p 0 0 0,.r (.int .i64 e)] (Aj l s) 1 (Is (.tup []) (Aj l (BA l s e)) 1) No:=by
 unfold Aj
 by_cases h0:s.e=0
 ·have d0:(s.e !=0)=false:=by simpa using h0
  by_cases h1:l.length≤s.p
  ·have d1:decide ((s.p:Int)≥(l.length:Int))=true:=decide_eq_true (by omega)
   rw[BA,if_pos h0,if_pos h1];refine A8 func15 rfl (by kernel_rfl) (of_decide_eq_true (by kernel_rfl)) ?_;intro E hG hE;subst hG;simp only[Ai];(repeat' (first |refine A6 ?_ |refine A2 ?_ |refine A3 ?_ |refine A5 ?_ |((first |refine rR (fun K kp hK hkp=>?_) |refine rD (id:=3) AA 10 [0,1,2,3,4,5,6,7,8,9] (fun K kp hK hkp=>?_) |refine iG ?_ |refine iD ?_);simp(implicitDefEqProofs:=false) (maxSteps:=2000000) (disch:=omega) only[go_sem,d0,d1];(repeat' (first |(refine hK _ ?_;clear hK hkp kp K) |(with_reducible refine And.intro ?_ ?_) |omega))) |((first |refine aG (fun h=>?_) (fun h=>?_) |refine aD (fun h=>?_) (fun h=>?_) |refine aX (fun h=>?_) (fun h=>?_))<;>simp only[h]) |refine A0 rfl ?_ |refine A1 rfl ?_ |((refine A4 rfl (fun h=>?_) (fun h=>?_)<;>try simp only[AK] at h)<;>(try (exfalso;omega))) |refine A7 ?_));(refine BM ?_;(refine AB (by(simp(implicitDefEqProofs:=false) (maxSteps:=2000000) (disch:=omega) only[go_sem,results15]);rfl) ?_;refine(AC hE [0] rfl ?_ ?_).s<;>simp[AI,AH,lk,ren,renL,A9,AG]))
  ·have d1:decide ((s.p:Int)≥(l.length:Int))=false:=decide_eq_false (by omega)
   rw[BA,if_pos h0,if_neg h1];refine A8 func15 rfl (by kernel_rfl) (of_decide_eq_true (by kernel_rfl)) ?_;intro E hG hE;subst hG;simp only[Ai];(repeat' (first |refine A6 ?_ |refine A2 ?_ |refine A3 ?_ |refine A5 ?_ |((first |refine rR (fun K kp hK hkp=>?_) |refine rD (id:=3) AA 10 [0,1,2,3,4,5,6,7,8,9] (fun K kp hK hkp=>?_) |refine iG ?_ |refine iD ?_);simp(implicitDefEqProofs:=false) (maxSteps:=2000000) (disch:=omega) only[go_sem,d0,d1];(repeat' (first |(refine hK _ ?_;clear hK hkp kp K) |(with_reducible refine And.intro ?_ ?_) |omega))) |((first |refine aG (fun h=>?_) (fun h=>?_) |refine aD (fun h=>?_) (fun h=>?_) |refine aX (fun h=>?_) (fun h=>?_))<;>simp only[h]) |refine A0 rfl ?_ |refine A1 rfl ?_ |((refine A4 rfl (fun h=>?_) (fun h=>?_)<;>try simp only[AK] at h)<;>(try (exfalso;omega))) |refine A7 ?_));(refine BM ?_;(refine AB (by(simp(implicitDefEqProofs:=false) (maxSteps:=2000000) (disch:=omega) only[go_sem,results15]);rfl) ?_;refine(AC hE [0] rfl ?_ ?_).s<;>simp[AI,AH,lk,ren,renL,A9,AG]))
 ·have d0:(s.e !=0)=true:=by simpa using h0
  rw[BA,if_neg h0];refine A8 func15 rfl (by kernel_rfl) (of_decide_eq_true (by kernel_rfl)) ?_;intro E hG hE;subst hG;simp only[Ai];(repeat' (first |refine A6 ?_ |refine A2 ?_ |refine A3 ?_ |refine A5 ?_ |((first |refine rR (fun K kp hK hkp=>?_) |refine rD (id:=3) AA 10 [0,1,2,3,4,5,6,7,8,9] (fun K kp hK hkp=>?_) |refine iG ?_ |refine iD ?_);simp(implicitDefEqProofs:=false) (maxSteps:=2000000) (disch:=omega) only[go_sem,d0];(repeat' (first |(refine hK _ ?_;clear hK hkp kp K) |(with_reducible refine And.intro ?_ ?_) |omega))) |((first |refine aG (fun h=>?_) (fun h=>?_) |refine aD (fun h=>?_) (fun h=>?_) |refine aX (fun h=>?_) (fun h=>?_))<;>simp only[h]) |refine A0 rfl ?_ |refine A1 rfl ?_ |((refine A4 rfl (fun h=>?_) (fun h=>?_)<;>try simp only[AK] at h)<;>(try (exfalso;omega))) |refine A7 ?_));(refine AB (by(simp(implicitDefEqProofs:=false) (maxSteps:=2000000) (disch:=omega) only[go_sem,results15]);rfl) ?_;refine(AC hE [0] rfl ?_ ?_).s<;>simp[AI,AH,lk,ren,renL,A9,AG])
theorem Pp (G:List (Nat×List Value))(l:List TK0)(s:WK)(k:Int)(t:ByteArray)(hl:l.length≤100)(hp:s.p≤100):Con prog G 52 [.p 0 0 0,.r (.int .i64 k),.r (.string t)] (Aj l s) 1 (Is (.r (.bool (BX l s k t))) (Aj l s) 1) No:=by
 unfold Aj
 by_cases h0:s.e=0
 ·have d0:(s.e==0)=true:=by simpa using h0
  rw[BX,decide_eq_true h0,Bool.true_and]
  cases hx:l[s.p]? with
  |none=>
   have h1:=List.getElem?_eq_none_iff.1 hx;have d1:decide ((s.p:Int)<(l.length:Int))=false:=decide_eq_false (by omega)
   have ho:AP l s.p k t=false:=by rw[AP,hx]
   rw[ho];refine A8 func52 rfl (by kernel_rfl) (of_decide_eq_true (by kernel_rfl)) ?_;intro E hG hE;subst hG;simp only[Ai];(repeat' (first |refine A6 ?_ |refine A2 ?_ |refine A3 ?_ |refine A5 ?_ |((first |refine rR (fun K kp hK hkp=>?_) |refine rD (id:=1) AA 48 [0,1,2,3,4,5,6,7,8,9,10,11,12,13,14,15,16,17,18,19,20,21,22,23,24,25,26,27,28,29,30,31,32,33,34,35,36,37,38,39,40,41,42,43,44,45,46,47] (fun K kp hK hkp=>?_) |refine iG ?_ |refine iD ?_);simp(implicitDefEqProofs:=false) (maxSteps:=2000000) (disch:=omega) only[go_sem,d0,d1];(repeat' (first |(refine hK _ ?_;clear hK hkp kp K) |(with_reducible refine And.intro ?_ ?_) |omega))) |((first |refine aG (fun h=>?_) (fun h=>?_) |refine aD (fun h=>?_) (fun h=>?_) |refine aX (fun h=>?_) (fun h=>?_))<;>simp only[h]) |refine A0 rfl ?_ |refine A1 rfl ?_ |((refine A4 rfl (fun h=>?_) (fun h=>?_)<;>try simp only[AK] at h)<;>(try (exfalso;omega))) |refine A7 ?_));(refine AB (by(simp(implicitDefEqProofs:=false) (maxSteps:=2000000) (disch:=omega) only[go_sem,results52]);rfl) ?_;refine(AC hE [0] rfl ?_ ?_).s<;>simp[AI,AH,lk,ren,renL,A9,AG])
  |some x=>
   have h1:=(List.getElem?_eq_some_iff.1 hx).1;have d1:decide ((s.p:Int)<(l.length:Int))=true:=decide_eq_true (by omega)
   have ho:AP l s.p k t=((x.k==k)&&(x.s.toList==t.toList)):=by rw[AP,hx]
   rw[ho];cases d2:(x.k==k)
   ·refine A8 func52 rfl (by kernel_rfl) (of_decide_eq_true (by kernel_rfl)) ?_;intro E hG hE;subst hG;simp only[Ai]
    (repeat' (first |refine A6 ?_ |refine A2 ?_ |refine A3 ?_ |refine A5 ?_ |((first |refine rR (fun K kp hK hkp=>?_) |refine rD (id:=1) AA 48 [0,1,2,3,4,5,6,7,8,9,10,11,12,13,14,15,16,17,18,19,20,21,22,23,24,25,26,27,28,29,30,31,32,33,34,35,36,37,38,39,40,41,42,43,44,45,46,47] (fun K kp hK hkp=>?_) |refine iG ?_ |refine iD ?_);simp(implicitDefEqProofs:=false) (maxSteps:=2000000) (disch:=omega) only[go_sem,d0,d1,hx,eT,d2];(repeat' (first |(refine hK _ ?_;clear hK hkp kp K) |(with_reducible refine And.intro ?_ ?_) |omega))) |((first |refine aG (fun h=>?_) (fun h=>?_) |refine aD (fun h=>?_) (fun h=>?_) |refine aX (fun h=>?_) (fun h=>?_))<;>simp only[h]) |refine A0 rfl ?_ |refine A1 rfl ?_ |((refine A4 rfl (fun h=>?_) (fun h=>?_)<;>try simp only[AK] at h)<;>(try (exfalso;omega))) |refine A7 ?_));(refine AB (by(simp(implicitDefEqProofs:=false) (maxSteps:=2000000) (disch:=omega) only[go_sem,results52]);rfl) ?_;refine(AC hE [0] rfl ?_ ?_).s<;>simp[AI,AH,lk,ren,renL,A9,AG])
   ·refine A8 func52 rfl (by kernel_rfl) (of_decide_eq_true (by kernel_rfl)) ?_;intro E hG hE;subst hG;simp only[Ai]
    (repeat' (first |refine A6 ?_ |refine A2 ?_ |refine A3 ?_ |refine A5 ?_ |((first |refine rR (fun K kp hK hkp=>?_) |refine rD (id:=1) AA 48 [0,1,2,3,4,5,6,7,8,9,10,11,12,13,14,15,16,17,18,19,20,21,22,23,24,25,26,27,28,29,30,31,32,33,34,35,36,37,38,39,40,41,42,43,44,45,46,47] (fun K kp hK hkp=>?_) |refine iG ?_ |refine iD ?_);simp(implicitDefEqProofs:=false) (maxSteps:=2000000) (disch:=omega) only[go_sem,d0,d1,hx,eT,d2];(repeat' (first |(refine hK _ ?_;clear hK hkp kp K) |(with_reducible refine And.intro ?_ ?_) |omega))) |((first |refine aG (fun h=>?_) (fun h=>?_) |refine aD (fun h=>?_) (fun h=>?_) |refine aX (fun h=>?_) (fun h=>?_))<;>simp only[h]) |refine A0 rfl ?_ |refine A1 rfl ?_ |((refine A4 rfl (fun h=>?_) (fun h=>?_)<;>try simp only[AK] at h)<;>(try (exfalso;omega))) |refine A7 ?_));(refine AB (by(simp(implicitDefEqProofs:=false) (maxSteps:=2000000) (disch:=omega) only[go_sem,results52]);rfl) ?_;refine(AC hE [0] rfl ?_ ?_).s<;>simp[AI,AH,lk,ren,renL,A9,AG])
 ·have d0:(s.e==0)=false:=by simpa using h0
  rw[BX,decide_eq_false h0,Bool.false_and];refine A8 func52 rfl (by kernel_rfl) (of_decide_eq_true (by kernel_rfl)) ?_;intro E hG hE;subst hG;simp only[Ai];(repeat' (first |refine A6 ?_ |refine A2 ?_ |refine A3 ?_ |refine A5 ?_ |((first |refine rR (fun K kp hK hkp=>?_) |refine rD (id:=1) AA 48 [0,1,2,3,4,5,6,7,8,9,10,11,12,13,14,15,16,17,18,19,20,21,22,23,24,25,26,27,28,29,30,31,32,33,34,35,36,37,38,39,40,41,42,43,44,45,46,47] (fun K kp hK hkp=>?_) |refine iG ?_ |refine iD ?_);simp(implicitDefEqProofs:=false) (maxSteps:=2000000) (disch:=omega) only[go_sem,d0];(repeat' (first |(refine hK _ ?_;clear hK hkp kp K) |(with_reducible refine And.intro ?_ ?_) |omega))) |((first |refine aG (fun h=>?_) (fun h=>?_) |refine aD (fun h=>?_) (fun h=>?_) |refine aX (fun h=>?_) (fun h=>?_))<;>simp only[h]) |refine A0 rfl ?_ |refine A1 rfl ?_ |((refine A4 rfl (fun h=>?_) (fun h=>?_)<;>try simp only[AK] at h)<;>(try (exfalso;omega))) |refine A7 ?_));(refine AB (by(simp(implicitDefEqProofs:=false) (maxSteps:=2000000) (disch:=omega) only[go_sem,results52]);rfl) ?_;refine(AC hE [0] rfl ?_ ?_).s<;>simp[AI,AH,lk,ren,renL,A9,AG])
theorem FC (G:List (Nat×List Value))(l:List TK0)(s:WK)(k:Int)(t:ByteArray)(hl:l.length≤100)(hp:s.p≤100):Con prog G 37 [.p 0 0 0,.r (.int .i64 k),.r (.string t)] (Aj l s) 1 (Is (.r (.bool (Bv l s k t).1)) (Aj l (Bv l s k t).2) 1) No:=by
 have oc:=Pp G l s k t hl hp;rw[Bv];cases ho:BX l s k t
 ·rw[ho] at oc
  simp only[Bool.false_eq_true,if_false];unfold Aj at oc ⊢;refine A8 func37 rfl (by kernel_rfl) (of_decide_eq_true (by kernel_rfl)) ?_;intro E hG hE;subst hG;simp only[Ai];(repeat' (first |refine A6 ?_ |refine A2 ?_ |refine A3 ?_ |refine A5 ?_ |((first |refine rR (fun K kp hK hkp=>?_) |refine oR [0] oc ?_ |refine iG ?_);simp(implicitDefEqProofs:=false) (maxSteps:=2000000) (disch:=omega) only[go_sem];(repeat' (first |(refine hK _ ?_;clear hK hkp kp K) |(with_reducible refine And.intro ?_ ?_) |omega))) |((first |refine aG (fun h=>?_) (fun h=>?_) |refine aD (fun h=>?_) (fun h=>?_) |refine aX (fun h=>?_) (fun h=>?_))<;>simp only[h]) |refine A0 rfl ?_ |refine A1 rfl ?_ |((refine A4 rfl (fun h=>?_) (fun h=>?_)<;>try simp only[AK] at h)<;>(try (exfalso;omega))) |refine A7 ?_));(refine AB (by(simp(implicitDefEqProofs:=false) (maxSteps:=2000000) (disch:=omega) only[go_sem,results37]);rfl) ?_;refine(AC hE [0] rfl ?_ ?_).s<;>simp[AI,AH,lk,ren,renL,A9,AG])
 ·rw[ho] at oc
  simp only[if_true,AF];unfold Aj at oc ⊢;refine A8 func37 rfl (by kernel_rfl) (of_decide_eq_true (by kernel_rfl)) ?_;intro E hG hE;subst hG;simp only[Ai];(repeat' (first |refine A6 ?_ |refine A2 ?_ |refine A3 ?_ |refine A5 ?_ |((first |refine rR (fun K kp hK hkp=>?_) |refine oR [0] oc ?_ |refine iG ?_);simp(implicitDefEqProofs:=false) (maxSteps:=2000000) (disch:=omega) only[go_sem];(repeat' (first |(refine hK _ ?_;clear hK hkp kp K) |(with_reducible refine And.intro ?_ ?_) |omega))) |((first |refine aG (fun h=>?_) (fun h=>?_) |refine aD (fun h=>?_) (fun h=>?_) |refine aX (fun h=>?_) (fun h=>?_))<;>simp only[h]) |refine A0 rfl ?_ |refine A1 rfl ?_ |((refine A4 rfl (fun h=>?_) (fun h=>?_)<;>try simp only[AK] at h)<;>(try (exfalso;omega))) |refine A7 ?_));(refine AB (by(simp(implicitDefEqProofs:=false) (maxSteps:=2000000) (disch:=omega) only[go_sem,results37]);rfl) ?_;refine(AC hE [0] rfl ?_ ?_).s<;>simp[AI,AH,lk,ren,renL,A9,AG])
theorem B5 (G:List (Nat×List Value))(l:List TK0)(s:WK)(k:Int)(t:ByteArray)(hl:l.length≤100)(hp:s.p≤100):Con prog G 38 [.p 0 0 0,.r (.int .i64 k),.r (.string t)] (Aj l s) 1 (Is (.tup []) (Aj l (BC l s k t)) 1) No:=by
 have tc:=FC G l s k t hl hp;rw[BC];rw[Bv] at tc;cases ho:BX l s k t
 ·rw[ho] at tc
  simp only[Bool.false_eq_true,if_false] at tc ⊢;have sc:=Bl G l s 6 hl hp;unfold Aj at tc sc ⊢;refine A8 func38 rfl (by kernel_rfl) (of_decide_eq_true (by kernel_rfl)) ?_;intro E hG hE;subst hG;simp only[Ai];(repeat' (first |refine A6 ?_ |refine A2 ?_ |refine A3 ?_ |refine A5 ?_ |((first |refine rR (fun K kp hK hkp=>?_) |refine oR [0] tc ?_ |refine oR [0] sc ?_ |refine iG ?_);simp(implicitDefEqProofs:=false) (maxSteps:=2000000) (disch:=omega) only[go_sem];(repeat' (first |(refine hK _ ?_;clear hK hkp kp K) |(with_reducible refine And.intro ?_ ?_) |omega))) |((first |refine aG (fun h=>?_) (fun h=>?_) |refine aD (fun h=>?_) (fun h=>?_) |refine aX (fun h=>?_) (fun h=>?_))<;>simp only[h]) |refine A0 rfl ?_ |refine A1 rfl ?_ |((refine A4 rfl (fun h=>?_) (fun h=>?_)<;>try simp only[AK] at h)<;>(try (exfalso;omega))) |refine A7 ?_));(refine BM ?_;(refine AB (by(simp(implicitDefEqProofs:=false) (maxSteps:=2000000) (disch:=omega) only[go_sem,results38]);rfl) ?_;refine(AC hE [0] rfl ?_ ?_).s<;>simp[AI,AH,lk,ren,renL,A9,AG]))
 ·rw[ho] at tc
  simp only[if_true] at tc ⊢;unfold Aj at tc ⊢;refine A8 func38 rfl (by kernel_rfl) (of_decide_eq_true (by kernel_rfl)) ?_;intro E hG hE;subst hG;simp only[Ai];(repeat' (first |refine A6 ?_ |refine A2 ?_ |refine A3 ?_ |refine A5 ?_ |((first |refine rR (fun K kp hK hkp=>?_) |refine oR [0] tc ?_ |refine iG ?_);simp(implicitDefEqProofs:=false) (maxSteps:=2000000) (disch:=omega) only[go_sem];(repeat' (first |(refine hK _ ?_;clear hK hkp kp K) |(with_reducible refine And.intro ?_ ?_) |omega))) |((first |refine aG (fun h=>?_) (fun h=>?_) |refine aD (fun h=>?_) (fun h=>?_) |refine aX (fun h=>?_) (fun h=>?_))<;>simp only[h]) |refine A0 rfl ?_ |refine A1 rfl ?_ |((refine A4 rfl (fun h=>?_) (fun h=>?_)<;>try simp only[AK] at h)<;>(try (exfalso;omega))) |refine A7 ?_));(refine BM ?_;(refine AB (by(simp(implicitDefEqProofs:=false) (maxSteps:=2000000) (disch:=omega) only[go_sem,results38]);rfl) ?_;refine(AC hE [0] rfl ?_ ?_).s<;>simp[AI,AH,lk,ren,renL,A9,AG]))
theorem C4 (G:List (Nat×List Value))(l:List TK0)(s:WK)(hl:l.length≤100)(hp:s.p≤100)(hs: ∀t ∈ l,Fh t.s):Con prog G 39 [.p 0 0 0] (Aj l s) 1 (Is (.r (.string (Ae l s).1)) (Aj l (Ae l s).2) 1) No:=by
 rw[Ae]
 by_cases h0:s.e=0
 ·have d0:(s.e !=0)=false:=by simpa using h0
  have sc:=Bl G l s 6 hl hp;rw[if_neg (by simpa using h0)]
  cases hx:l[s.p]? with
  |none=>
   have h1:=List.getElem?_eq_none_iff.1 hx;have d1:decide ((s.p:Int)≥(l.length:Int))=true:=decide_eq_true (by omega);dsimp only;unfold Aj at sc ⊢;refine A8 func39 rfl (by kernel_rfl) (of_decide_eq_true (by kernel_rfl)) ?_;intro E hG hE;subst hG;simp only[Ai];(repeat' (first |refine A6 ?_ |refine A2 ?_ |refine A3 ?_ |refine A5 ?_ |((first |refine rR (fun K kp hK hkp=>?_) |refine rD (id:=3) AA 24 [0,1,2,3,4,5,6,7,8,9,10,11,12,13,14,15,16,17,18,19,20,21,22,23] (fun K kp hK hkp=>?_) |refine rD (id:=6) AA 12 [0,1,2,3,4,5,6,7,8,9,10,11] (fun K kp hK hkp=>?_) |refine oR [0] sc ?_ |refine iG ?_ |refine iD ?_);simp(implicitDefEqProofs:=false) (maxSteps:=2000000) (disch:=omega) only[go_sem,d0,d1];(repeat' (first |(refine hK _ ?_;clear hK hkp kp K) |(with_reducible refine And.intro ?_ ?_) |omega))) |((first |refine aG (fun h=>?_) (fun h=>?_) |refine aD (fun h=>?_) (fun h=>?_) |refine aX (fun h=>?_) (fun h=>?_))<;>simp only[h]) |refine A0 rfl ?_ |refine A1 rfl ?_ |((refine A4 rfl (fun h=>?_) (fun h=>?_)<;>try simp only[AK] at h)<;>(try (exfalso;omega))) |refine A7 ?_));(refine AB (by(simp(implicitDefEqProofs:=false) (maxSteps:=2000000) (disch:=omega) only[go_sem,results39,str]);rfl) ?_;refine(AC hE [0] rfl ?_ ?_).s<;>simp[AI,AH,lk,ren,renL,A9,AG,str])
  |some x=>
   have h1:=(List.getElem?_eq_some_iff.1 hx).1;have d1:decide ((s.p:Int)≥(l.length:Int))=false:=decide_eq_false (by omega);dsimp only;cases d2:(x.k !=1)
   ·rw[if_neg (by simpa using d2)]
    have nc:=Iz G x.s (hs x (List.mem_of_getElem? hx));cases d3:(Ac x.s !=0)
    ·rw[if_neg (by simpa using d3)]
     unfold Aj AF;refine A8 func39 rfl (by kernel_rfl) (of_decide_eq_true (by kernel_rfl)) ?_;intro E hG hE;subst hG;simp only[Ai];(repeat' (first |refine A6 ?_ |refine A2 ?_ |refine A3 ?_ |refine A5 ?_ |((first |refine rR (fun K kp hK hkp=>?_) |refine rD (id:=3) AA 24 [0,1,2,3,4,5,6,7,8,9,10,11,12,13,14,15,16,17,18,19,20,21,22,23] (fun K kp hK hkp=>?_) |refine rD (id:=6) AA 12 [0,1,2,3,4,5,6,7,8,9,10,11] (fun K kp hK hkp=>?_) |refine cR nc ?_ |refine cD nc ?_ |refine iG ?_ |refine iD ?_);simp(implicitDefEqProofs:=false) (maxSteps:=2000000) (disch:=omega) only[go_sem,d0,d1,hx,eT,d2,d3];(repeat' (first |(refine hK _ ?_;clear hK hkp kp K) |(with_reducible refine And.intro ?_ ?_) |omega))) |((first |refine aG (fun h=>?_) (fun h=>?_) |refine aD (fun h=>?_) (fun h=>?_) |refine aX (fun h=>?_) (fun h=>?_))<;>simp only[h]) |refine A0 rfl ?_ |refine A1 rfl ?_ |((refine A4 rfl (fun h=>?_) (fun h=>?_)<;>try simp only[AK] at h)<;>(try (exfalso;omega))) |refine A7 ?_));(refine AB (by(simp(implicitDefEqProofs:=false) (maxSteps:=2000000) (disch:=omega) only[go_sem,results39]);rfl) ?_;refine(AC hE [0] rfl ?_ ?_).s<;>simp[AI,AH,lk,ren,renL,A9,AG])
    ·rw[if_pos (by simpa using d3)]
     have s2:=Bl G l s (Ac x.s) hl hp;unfold Aj at s2 ⊢;refine A8 func39 rfl (by kernel_rfl) (of_decide_eq_true (by kernel_rfl)) ?_;intro E hG hE;subst hG;simp only[Ai];(repeat' (first |refine A6 ?_ |refine A2 ?_ |refine A3 ?_ |refine A5 ?_ |((first |refine rR (fun K kp hK hkp=>?_) |refine rD (id:=3) AA 24 [0,1,2,3,4,5,6,7,8,9,10,11,12,13,14,15,16,17,18,19,20,21,22,23] (fun K kp hK hkp=>?_) |refine rD (id:=6) AA 12 [0,1,2,3,4,5,6,7,8,9,10,11] (fun K kp hK hkp=>?_) |refine oR [0] s2 ?_ |refine cR nc ?_ |refine cD nc ?_ |refine iG ?_ |refine iD ?_);simp(implicitDefEqProofs:=false) (maxSteps:=2000000) (disch:=omega) only[go_sem,d0,d1,hx,eT,d2,d3];(repeat' (first |(refine hK _ ?_;clear hK hkp kp K) |(with_reducible refine And.intro ?_ ?_) |omega))) |((first |refine aG (fun h=>?_) (fun h=>?_) |refine aD (fun h=>?_) (fun h=>?_) |refine aX (fun h=>?_) (fun h=>?_))<;>simp only[h]) |refine A0 rfl ?_ |refine A1 rfl ?_ |((refine A4 rfl (fun h=>?_) (fun h=>?_)<;>try simp only[AK] at h)<;>(try (exfalso;omega))) |refine A7 ?_));(refine AB (by(simp(implicitDefEqProofs:=false) (maxSteps:=2000000) (disch:=omega) only[go_sem,results39,str]);rfl) ?_;refine(AC hE [0] rfl ?_ ?_).s<;>simp[AI,AH,lk,ren,renL,A9,AG,str])
   ·rw[if_pos (by simpa using d2)]
    unfold Aj at sc ⊢;refine A8 func39 rfl (by kernel_rfl) (of_decide_eq_true (by kernel_rfl)) ?_;intro E hG hE;subst hG;simp only[Ai];(repeat' (first |refine A6 ?_ |refine A2 ?_ |refine A3 ?_ |refine A5 ?_ |((first |refine rR (fun K kp hK hkp=>?_) |refine rD (id:=3) AA 24 [0,1,2,3,4,5,6,7,8,9,10,11,12,13,14,15,16,17,18,19,20,21,22,23] (fun K kp hK hkp=>?_) |refine rD (id:=6) AA 12 [0,1,2,3,4,5,6,7,8,9,10,11] (fun K kp hK hkp=>?_) |refine oR [0] sc ?_ |refine iG ?_ |refine iD ?_);simp(implicitDefEqProofs:=false) (maxSteps:=2000000) (disch:=omega) only[go_sem,d0,d1,hx,eT,d2];(repeat' (first |(refine hK _ ?_;clear hK hkp kp K) |(with_reducible refine And.intro ?_ ?_) |omega))) |((first |refine aG (fun h=>?_) (fun h=>?_) |refine aD (fun h=>?_) (fun h=>?_) |refine aX (fun h=>?_) (fun h=>?_))<;>simp only[h]) |refine A0 rfl ?_ |refine A1 rfl ?_ |((refine A4 rfl (fun h=>?_) (fun h=>?_)<;>try simp only[AK] at h)<;>(try (exfalso;omega))) |refine A7 ?_));(refine AB (by(simp(implicitDefEqProofs:=false) (maxSteps:=2000000) (disch:=omega) only[go_sem,results39,str]);rfl) ?_;refine(AC hE [0] rfl ?_ ?_).s<;>simp[AI,AH,lk,ren,renL,A9,AG,str])
 ·have d0:(s.e !=0)=true:=by simpa using h0
  rw[if_pos h0];unfold Aj;refine A8 func39 rfl (by kernel_rfl) (of_decide_eq_true (by kernel_rfl)) ?_;intro E hG hE;subst hG;simp only[Ai];(repeat' (first |refine A6 ?_ |refine A2 ?_ |refine A3 ?_ |refine A5 ?_ |((first |refine rR (fun K kp hK hkp=>?_) |refine rD (id:=3) AA 24 [0,1,2,3,4,5,6,7,8,9,10,11,12,13,14,15,16,17,18,19,20,21,22,23] (fun K kp hK hkp=>?_) |refine rD (id:=6) AA 12 [0,1,2,3,4,5,6,7,8,9,10,11] (fun K kp hK hkp=>?_) |refine iG ?_ |refine iD ?_);simp(implicitDefEqProofs:=false) (maxSteps:=2000000) (disch:=omega) only[go_sem,d0];(repeat' (first |(refine hK _ ?_;clear hK hkp kp K) |(with_reducible refine And.intro ?_ ?_) |omega))) |((first |refine aG (fun h=>?_) (fun h=>?_) |refine aD (fun h=>?_) (fun h=>?_) |refine aX (fun h=>?_) (fun h=>?_))<;>simp only[h]) |refine A0 rfl ?_ |refine A1 rfl ?_ |((refine A4 rfl (fun h=>?_) (fun h=>?_)<;>try simp only[AK] at h)<;>(try (exfalso;omega))) |refine A7 ?_));(refine AB (by(simp(implicitDefEqProofs:=false) (maxSteps:=2000000) (disch:=omega) only[go_sem,results39,str]);rfl) ?_;refine(AC hE [0] rfl ?_ ?_).s<;>simp[AI,AH,lk,ren,renL,A9,AG,str])
end Go.AM
