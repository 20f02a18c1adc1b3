/- Texts of the law ParseParses, part 5: lemmas; what is proved stands in the last text. -/
import Derived.Test.YtmgddlckgpfccaaDoorZz4
open Go.Proofs.Tryd
set_option linter.unusedSimpArgs false
set_option linter.unusedVariables false
set_option maxRecDepth 100000
namespace Go.AM
open Go Go.RowKit
section
variable {P:Program} {E:Env} {N:Nat} {st:AS} {ds:List (Option Nat)} {kp:AV→AS→Prop} {tail rest:List Oper} {K:AS→Prop} {d:Option Nat}
theorem Ny (σ:List Nat){f:Nat}{xs ys:List AV}{oc:List (Nat×Nd)}{res res':AV}{m:Nat}{st':AS}(hc:Con P E.G f ys oc σ.length No (Is res [] m))(hb:Dt σ st xs=some ys)(ho:AH σ st.o oc)(hall: ∀i,i<σ.length→ ∃nd,lk oc i=some nd)
  (hlt: ∀i ∈ σ,i<st.n) (hnd:σ.Nodup) (hbig:st.n≤1000000000) (hp:PT res) (hr:ren (fw σ st.n) res=res') (hs:{st with o:=Gw σ st.o,n:=st.n+(m - σ.length)}=st') (hk:kp res' st'):HB P E N ds kp rest st K f xs d:=
 (Ea hc hb ho hall hlt hnd hbig (fun _ _ _ h=>h.elim) (fun y o n ⟨h1,h2,h3⟩=>by subst h1 h2 h3 hr hs;exact⟨hp,(fun p hp=>by cases hp),hk⟩)).v
theorem oR (σ:List Nat){f:Nat}{xs ys:List AV}{oc os:List (Nat×Nd)}{res res':AV}{m:Nat}{st':AS}(hc:Con P E.G f ys oc σ.length (Is res os m) No)(hk:ex P E N ds kp rest (st'.put d res') K)
  (hb:Dt σ st xs=some ys:=by first |(simp[Dt,Ip,LY,Eg,D7,Fr,lk];first |done |rfl) |(simp[Dt,Ip,LY,Eg,D7,Fr,lk, *];first |done |rfl))
  (ho:AH σ st.o oc:=by first |(simp[AH,lk,A9,renL,ren,AG];first |done |rfl) |(simp[AH,lk,A9,renL,ren,AG, *];first |done |rfl))
  (hall: ∀i,i<σ.length→ ∃nd,lk oc i=some nd:=by(intro i hi;simp only[List.length_cons,List.length_nil] at hi;repeat' (first |omega |exact⟨_,rfl⟩ |(rcases i with _ |i))))
  (hlt: ∀i ∈ σ,i<st.n:=by simp) (hnd:σ.Nodup:=by simp) (hbig:st.n≤1000000000:=by simp) (hp:PT res:=by simp[-List.map_append]) (hp': ∀p ∈ os,E8 p.2:=by simp[-List.map_append])
  (hr:ren (fw σ st.n) res=res':=by(try simp only[Cx,fw,Gw,rm,List.map_cons,List.map_nil,List.foldl_cons,List.foldl_nil,List.getElem?_cons_zero,List.getElem?_cons_succ,List.getElem?_nil,List.length_cons,List.length_nil,Nat.zero_add,Nat.sub_self,Nat.add_zero,↓reduceIte,Nat.reduceEqDiff,reduceCtorEq,Nat.reduceAdd,Nat.reduceSub,List.cons_append,List.nil_append,ren,renL,A9]);rfl)
  (hs:{st with o:=Cx (fw σ st.n) os++Gw σ st.o,n:=st.n+(m - σ.length)}=st':=by(try simp only[Cx,fw,Gw,rm,List.map_cons,List.map_nil,List.foldl_cons,List.foldl_nil,List.getElem?_cons_zero,List.getElem?_cons_succ,List.getElem?_nil,List.length_cons,List.length_nil,Nat.zero_add,Nat.sub_self,Nat.add_zero,↓reduceIte,Nat.reduceEqDiff,reduceCtorEq,Nat.reduceAdd,Nat.reduceSub,List.cons_append,List.nil_append,ren,renL,A9]);rfl):HB P E N ds kp rest st K f xs d:=
 Nz σ hc hb ho hall hlt hnd hbig hp hp' hr hs hk
theorem AD {rs:List ResultVar}{Q:AV→List (Nat×Nd)→Nat→Prop}{x y:AV}{o:List (Nat×Nd)}{n:Nat}(he:EmbV E st x o n y):BS P E N rs Q (Is y o n) (.pan x) st:=⟨y,o,n,⟨rfl,rfl,rfl⟩,he⟩
end
def PQ {α:Type}(x:PR α)(f:α→Nat→AV)(g:α→Nat→List (Nat×Nd))(n:Nat):AV→List (Nat×Nd)→Nat→Prop:=match x with
 | .ok a p=>Is (f a p) (g a p) n
 | .bad _ _=>No
def Aa (e:Int)(p:Nat):AV:= .ifc 40 (.agg [.r (.int .i64 p),.r (.int .i64 e)])
theorem OW (e:Int)(p:Nat):PT (Aa e p):= .ifc _ _ (.agg _ (fun x hx=>by simp only[List.mem_cons,List.not_mem_nil,or_false] at hx;rcases hx with rfl |rfl<;>exact .r _))
section
variable {P:Program} {E:Env} {N:Nat} {st:AS} {ds:List (Option Nat)} {kp:AV→AS→Prop} {tail rest:List Oper} {K:AS→Prop} {d:Option Nat}
theorem oP (σ:List Nat){f:Nat}{xs ys:List AV}{oc:List (Nat×Nd)}{e:Int}{p m:Nat}{st':AS}{res':AV}(hc:Con P E.G f ys oc σ.length No (Is (Aa e p) [] m))(hk:kp res' st')
  (hb:Dt σ st xs=some ys:=by first |(simp[Dt,Ip,LY,Eg,D7,Fr,lk];first |done |rfl) |(simp[Dt,Ip,LY,Eg,D7,Fr,lk, *];first |done |rfl))
  (ho:AH σ st.o oc:=by first |(simp[AH,lk,A9,renL,ren,AG];first |done |rfl) |(simp[AH,lk,A9,renL,ren,AG, *];first |done |rfl))
  (hall: ∀i,i<σ.length→ ∃nd,lk oc i=some nd:=by(intro i hi;simp only[List.length_cons,List.length_nil] at hi;repeat' (first |omega |exact⟨_,rfl⟩ |(rcases i with _ |i))))
  (hlt: ∀i ∈ σ,i<st.n:=by simp) (hnd:σ.Nodup:=by simp) (hbig:st.n≤1000000000:=by simp)
  (hr:ren (fw σ st.n) (Aa e p)=res':=by(try simp only[Gw,rm,List.foldl_cons,List.foldl_nil,List.length_cons,List.length_nil,Nat.sub_self,Nat.add_zero,↓reduceIte,Nat.reduceEqDiff,Nat.reduceSub,Aa,ren,renL]);rfl)
  (hs:{st with o:=Gw σ st.o,n:=st.n+(m - σ.length)}=st':=by(try simp only[Gw,rm,List.foldl_cons,List.foldl_nil,List.length_cons,List.length_nil,Nat.sub_self,Nat.add_zero,↓reduceIte,Nat.reduceEqDiff,Nat.reduceSub,Aa,ren,renL]);rfl):HB P E N ds kp rest st K f xs d:=
 Ny σ hc hb ho hall hlt hnd hbig (OW _ _) hr hs hk
end
theorem BM {P:Program}{E:Env}{N:Nat}{rs:List ResultVar}{Q R:AV→List (Nat×Nd)→Nat→Prop}{st:AS}(h:BS P E N rs Q R .ret st):BS P E N rs Q R .normal st:=h
def PP {α:Type}(x:PR α)(k:Nat):AV→List (Nat×Nd)→Nat→Prop:=match x with
 | .ok _ _=>No
 | .bad e p=>Is (Aa e p) [] k
section
variable {P:Program} {G:List (Nat×List Value)} {fn:Nat} {xs:List AV} {o:List (Nat×Nd)} {n m k:Nat} {α:Type} {x:PR α} {f:α→Nat→AV} {g:α→Nat→List (Nat×Nd)}
theorem Con.ok {a:α}{p:Nat}(c:Con P G fn xs o n (PQ x f g m) (PP x k))(h:x= .ok a p):Con P G fn xs o n (Is (f a p) (g a p) m) No:=by subst h;exact c
theorem Con.bad {e:Int}{p:Nat}(c:Con P G fn xs o n (PQ x f g m) (PP x k))(h:x= .bad e p):Con P G fn xs o n No (Is (Aa e p) [] k):=by subst h;exact c
theorem Con.of_ok {a:α}{p:Nat}(h:x= .ok a p)(c:Con P G fn xs o n (Is (f a p) (g a p) m) No):Con P G fn xs o n (PQ x f g m) (PP x k):=by subst h;exact c
theorem Con.of_bad {e:Int}{p:Nat}(h:x= .bad e p)(c:Con P G fn xs o n No (Is (Aa e p) [] k)):Con P G fn xs o n (PQ x f g m) (PP x k):=by subst h;exact c
end
theorem Bg {P:Program}{E:Env}{N:Nat}{rs:List ResultVar}{α:Type}{a:α}{p:Nat}{f:α→Nat→AV}{g:α→Nat→List (Nat×Nd)}{m k:Nat}{st:AS}{ex:AExit}(h:BS P E N rs (Is (f a p) (g a p) m) No ex st):BS P E N rs (PQ (PR.ok a p) f g m) (PP (PR.ok a p) k) ex st:=h
theorem AO {P:Program}{E:Env}{N:Nat}{rs:List ResultVar}{α:Type}{e:Int}{p:Nat}{f:α→Nat→AV}{g:α→Nat→List (Nat×Nd)}{m k:Nat}{st:AS}{ex:AExit}(h:BS P E N rs No (Is (Aa e p) [] k) ex st):BS P E N rs (PQ (PR.bad (α:=α) e p) f g m) (PP (PR.bad (α:=α) e p) k) ex st:=h
theorem EI {E:Env}{N:Nat}{st:AS}(n j:Nat){T:TypeId}{c:List AV}{x x':AV}{st':AS}(h:lk st.o n=some (.box T c))(hj:c[j]?=some x)(hf:GL st x=some (x',st'))(h':lk st'.o n=some (.box T c)):Emb E N st (BO st' n (.box T (c.set j x'))):=by
 intro th z a w hs;obtain⟨L,h1,h2,h3⟩:=hs.mem.nds n _ h;obtain⟨hp,cells,fr,g1,g2,g3,g4⟩:=h2;obtain⟨y,hy,hr⟩:=g4.get hj;obtain⟨z',hz,hs',hr',hm,hn⟩:=FK x hs hr hf;refine⟨th,z',hs'.say h' fun L' hL' hA=>?_⟩;obtain⟨hp',cells',fr',k1,k2,k3,k4⟩:=hA;rw[h1] at hL';cases hL';rw[g1] at k1;cases k1;refine⟨hp',_,_,g1,k2,k3,k4.set_at fun u hu=>?_⟩;rw[hy] at hu;cases hu;exact hr'.pure th
def Bq (l:List TK0)(p m k:Nat):Nd:= .box 43 [.ro true 3 (l.map eT),.r (.int .i64 p),.s m 0 k]
def B4 (q:List Go.Proofs.YtmgddlckgpfccaaDoor.OP):Nd:= .lst 73 5 (q.map eO)
@[reducible] def BR (l:List TK0) (p:Nat) (q:List Go.Proofs.YtmgddlckgpfccaaDoor.OP):List (Nat×Nd):=[(0,Bq l p 1 q.length),(1,B4 q)]
end Go.AM
namespace Go.AM
open Go Go.RowKit
open Go.Proofs.YtmgddlckgpfccaaDoor (OP Ac AY AR str)
attribute [local irreducible] AWP BS
theorem DP (G:List (Nat×List Value))(l:List TK0)(p:Nat)(q:List OP)(e:Int)(hl:l.length≤100)(hp:p≤100):Con prog G 12 [.p 0 0 0,.r (.int .i64 e)] (BR l p q) 2 No (Is (Aa (if l.length≤p then 7 else e) p) [] 2):=by
 unfold BR Bq B4
 by_cases h1:l.length≤p
 ·have d1:decide ((p:Int)≥(l.length:Int))=true:=decide_eq_true (by omega)
  rw[if_pos h1];refine A8 func12 rfl (by kernel_rfl) (of_decide_eq_true (by kernel_rfl)) ?_;intro E hG hE;subst hG;simp only[Ai];(repeat' (first |refine A6 ?_ |refine A2 ?_ |refine A3 ?_ |refine A5 ?_ |((first |refine rR (fun K kp hK hkp=>?_) |refine rD (id:=0) AA 10 [0,1,2,3,4,5,6,7,8,9] (fun K kp hK hkp=>?_) |refine iG ?_ |refine iD ?_);simp(implicitDefEqProofs:=false) (maxSteps:=2000000) (disch:=omega) only[go_sem,d1];(repeat' (first |(refine hK _ ?_;clear hK hkp kp K) |(with_reducible refine And.intro ?_ ?_) |omega))) |((first |refine aG (fun h=>?_) (fun h=>?_) |refine aD (fun h=>?_) (fun h=>?_) |refine aX (fun h=>?_) (fun h=>?_))<;>simp only[h]) |refine A0 rfl ?_ |refine A1 rfl ?_ |((refine A4 rfl (fun h=>?_) (fun h=>?_)<;>try simp only[AK] at h)<;>(try (exfalso;omega))) |refine A7 ?_));(refine hkp _ _ ?_;clear hkp hK kp K;refine AD ?_;refine AC hE [0,1] rfl ?_ ?_<;>simp[AH,lk,ren,renL,A9,AG,Aa])
 ·have d1:decide ((p:Int)≥(l.length:Int))=false:=decide_eq_false (by omega)
  rw[if_neg h1];refine A8 func12 rfl (by kernel_rfl) (of_decide_eq_true (by kernel_rfl)) ?_;intro E hG hE;subst hG;simp only[Ai];(repeat' (first |refine A6 ?_ |refine A2 ?_ |refine A3 ?_ |refine A5 ?_ |((first |refine rR (fun K kp hK hkp=>?_) |refine rD (id:=0) AA 10 [0,1,2,3,4,5,6,7,8,9] (fun K kp hK hkp=>?_) |refine iG ?_ |refine iD ?_);simp(implicitDefEqProofs:=false) (maxSteps:=2000000) (disch:=omega) only[go_sem,d1];(repeat' (first |(refine hK _ ?_;clear hK hkp kp K) |(with_reducible refine And.intro ?_ ?_) |omega))) |((first |refine aG (fun h=>?_) (fun h=>?_) |refine aD (fun h=>?_) (fun h=>?_) |refine aX (fun h=>?_) (fun h=>?_))<;>simp only[h]) |refine A0 rfl ?_ |refine A1 rfl ?_ |((refine A4 rfl (fun h=>?_) (fun h=>?_)<;>try simp only[AK] at h)<;>(try (exfalso;omega))) |refine A7 ?_));(refine hkp _ _ ?_;clear hkp hK kp K;refine AD ?_;refine AC hE [0,1] rfl ?_ ?_<;>simp[AH,lk,ren,renL,A9,AG,Aa])
theorem Ou (G:List (Nat×List Value))(l:List TK0)(p:Nat)(q:List OP)(k:Int)(s:ByteArray)(hl:l.length≤100)(hp:p≤100):Con prog G 46 [.p 0 0 0,.r (.int .i64 k),.r (.string s)] (BR l p q) 2 (Is (.r (.bool (AP l p k s))) (BR l p q) 2) No:=by
 unfold BR Bq B4
 cases hx:l[p]? with
 |none=>
  have h1:=List.getElem?_eq_none_iff.1 hx;have d1:decide ((p:Int)<(l.length:Int))=false:=decide_eq_false (by omega)
  have ho:AP l p k s=false:=by rw[AP,hx]
  rw[ho];refine A8 func46 rfl (by kernel_rfl) (of_decide_eq_true (by kernel_rfl)) ?_;intro E hG hE;subst hG;simp only[Ai];(repeat' (first |refine A6 ?_ |refine A2 ?_ |refine A3 ?_ |refine A5 ?_ |((first |refine rR (fun K kp hK hkp=>?_) |refine rD (id:=1) AA 41 [0,1,2,3,4,5,6,7,8,9,10,11,12,13,14,15,16,17,18,19,20,21,22,23,24,25,26,27,28,29,30,31,32,33,34,35,36,37,38,39,40] (fun K kp hK hkp=>?_) |refine iG ?_ |refine iD ?_);simp(implicitDefEqProofs:=false) (maxSteps:=2000000) (disch:=omega) only[go_sem,d1];(repeat' (first |(refine hK _ ?_;clear hK hkp kp K) |(with_reducible refine And.intro ?_ ?_) |omega))) |((first |refine aG (fun h=>?_) (fun h=>?_) |refine aD (fun h=>?_) (fun h=>?_) |refine aX (fun h=>?_) (fun h=>?_))<;>simp only[h]) |refine A0 rfl ?_ |refine A1 rfl ?_ |((refine A4 rfl (fun h=>?_) (fun h=>?_)<;>try simp only[AK] at h)<;>(try (exfalso;omega))) |refine A7 ?_));(refine AB (by(simp(implicitDefEqProofs:=false) (maxSteps:=2000000) (disch:=omega) only[go_sem,results46]);rfl) ?_;refine(AC hE [0,1] rfl ?_ ?_).s<;>simp[AI,AH,lk,ren,renL,A9,AG])
 |some x=>
  have h1:=(List.getElem?_eq_some_iff.1 hx).1;have d1:decide ((p:Int)<(l.length:Int))=true:=decide_eq_true (by omega)
  have ho:AP l p k s=((x.k==k)&&(x.s.toList==s.toList)):=by rw[AP,hx]
  rw[ho];cases d2:(x.k==k)
  ·refine A8 func46 rfl (by kernel_rfl) (of_decide_eq_true (by kernel_rfl)) ?_;intro E hG hE;subst hG;simp only[Ai]
   (repeat' (first |refine A6 ?_ |refine A2 ?_ |refine A3 ?_ |refine A5 ?_ |((first |refine rR (fun K kp hK hkp=>?_) |refine rD (id:=1) AA 41 [0,1,2,3,4,5,6,7,8,9,10,11,12,13,14,15,16,17,18,19,20,21,22,23,24,25,26,27,28,29,30,31,32,33,34,35,36,37,38,39,40] (fun K kp hK hkp=>?_) |refine iG ?_ |refine iD ?_);simp(implicitDefEqProofs:=false) (maxSteps:=2000000) (disch:=omega) only[go_sem,d1,hx,eT,d2];(repeat' (first |(refine hK _ ?_;clear hK hkp kp K) |(with_reducible refine And.intro ?_ ?_) |omega))) |((first |refine aG (fun h=>?_) (fun h=>?_) |refine aD (fun h=>?_) (fun h=>?_) |refine aX (fun h=>?_) (fun h=>?_))<;>simp only[h]) |refine A0 rfl ?_ |refine A1 rfl ?_ |((refine A4 rfl (fun h=>?_) (fun h=>?_)<;>try simp only[AK] at h)<;>(try (exfalso;omega))) |refine A7 ?_));(refine AB (by(simp(implicitDefEqProofs:=false) (maxSteps:=2000000) (disch:=omega) only[go_sem,results46]);rfl) ?_;refine(AC hE [0,1] rfl ?_ ?_).s<;>simp[AI,AH,lk,ren,renL,A9,AG])
  ·refine A8 func46 rfl (by kernel_rfl) (of_decide_eq_true (by kernel_rfl)) ?_;intro E hG hE;subst hG;simp only[Ai]
   (repeat' (first |refine A6 ?_ |refine A2 ?_ |refine A3 ?_ |refine A5 ?_ |((first |refine rR (fun K kp hK hkp=>?_) |refine rD (id:=1) AA 41 [0,1,2,3,4,5,6,7,8,9,10,11,12,13,14,15,16,17,18,19,20,21,22,23,24,25,26,27,28,29,30,31,32,33,34,35,36,37,38,39,40] (fun K kp hK hkp=>?_) |refine iG ?_ |refine iD ?_);simp(implicitDefEqProofs:=false) (maxSteps:=2000000) (disch:=omega) only[go_sem,d1,hx,eT,d2];(repeat' (first |(refine hK _ ?_;clear hK hkp kp K) |(with_reducible refine And.intro ?_ ?_) |omega))) |((first |refine aG (fun h=>?_) (fun h=>?_) |refine aD (fun h=>?_) (fun h=>?_) |refine aX (fun h=>?_) (fun h=>?_))<;>simp only[h]) |refine A0 rfl ?_ |refine A1 rfl ?_ |((refine A4 rfl (fun h=>?_) (fun h=>?_)<;>try simp only[AK] at h)<;>(try (exfalso;omega))) |refine A7 ?_));(refine AB (by(simp(implicitDefEqProofs:=false) (maxSteps:=2000000) (disch:=omega) only[go_sem,results46]);rfl) ?_;refine(AC hE [0,1] rfl ?_ ?_).s<;>simp[AI,AH,lk,ren,renL,A9,AG])
theorem CT (G:List (Nat×List Value))(l:List TK0)(p:Nat)(q:List OP)(k:Int)(s:ByteArray)(hl:l.length≤100)(hp:p≤100)(ho:AP l p k s=false):Con prog G 24 [.p 0 0 0,.r (.int .i64 k),.r (.string s)] (BR l p q) 2 (Is (.r (.bool false)) (BR l p q) 2) No:=by
 have ic:=Ou G l p q k s hl hp;rw[ho] at ic;unfold BR Bq B4 at ic ⊢;refine A8 func24 rfl (by kernel_rfl) (of_decide_eq_true (by kernel_rfl)) ?_;intro E hG hE;subst hG;simp only[Ai];(repeat' (first |refine A6 ?_ |refine A2 ?_ |refine A3 ?_ |refine A5 ?_ |((first |refine rR (fun K kp hK hkp=>?_) |refine oR [0,1] ic ?_ |refine iG ?_);simp(implicitDefEqProofs:=false) (maxSteps:=2000000) (disch:=omega) only[go_sem];(repeat' (first |(refine hK _ ?_;clear hK hkp kp K) |(with_reducible refine And.intro ?_ ?_) |omega))) |((first |refine aG (fun h=>?_) (fun h=>?_) |refine aD (fun h=>?_) (fun h=>?_) |refine aX (fun h=>?_) (fun h=>?_))<;>simp only[h]) |refine A0 rfl ?_ |refine A1 rfl ?_ |((refine A4 rfl (fun h=>?_) (fun h=>?_)<;>try simp only[AK] at h)<;>(try (exfalso;omega))) |refine A7 ?_));(refine AB (by(simp(implicitDefEqProofs:=false) (maxSteps:=2000000) (disch:=omega) only[go_sem,results24]);rfl) ?_;refine(AC hE [0,1] rfl ?_ ?_).s<;>simp[AI,AH,lk,ren,renL,A9,AG])
theorem DX (G:List (Nat×List Value))(l:List TK0)(p:Nat)(q:List OP)(k:Int)(s:ByteArray)(hl:l.length≤100)(hp:p≤100)(ho:AP l p k s=true):Con prog G 24 [.p 0 0 0,.r (.int .i64 k),.r (.string s)] (BR l p q) 2 (Is (.r (.bool true)) (BR l (p+1) q) 2) No:=by
 have ic:=Ou G l p q k s hl hp;rw[ho] at ic;unfold BR Bq B4 at ic ⊢;refine A8 func24 rfl (by kernel_rfl) (of_decide_eq_true (by kernel_rfl)) ?_;intro E hG hE;subst hG;simp only[Ai];(repeat' (first |refine A6 ?_ |refine A2 ?_ |refine A3 ?_ |refine A5 ?_ |((first |refine rR (fun K kp hK hkp=>?_) |refine oR [0,1] ic ?_ |refine iG ?_);simp(implicitDefEqProofs:=false) (maxSteps:=2000000) (disch:=omega) only[go_sem];(repeat' (first |(refine hK _ ?_;clear hK hkp kp K) |(with_reducible refine And.intro ?_ ?_) |omega))) |((first |refine aG (fun h=>?_) (fun h=>?_) |refine aD (fun h=>?_) (fun h=>?_) |refine aX (fun h=>?_) (fun h=>?_))<;>simp only[h]) |refine A0 rfl ?_ |refine A1 rfl ?_ |((refine A4 rfl (fun h=>?_) (fun h=>?_)<;>try simp only[AK] at h)<;>(try (exfalso;omega))) |refine A7 ?_));(refine AB (by(simp(implicitDefEqProofs:=false) (maxSteps:=2000000) (disch:=omega) only[go_sem,results24]);rfl) ?_;refine(AC hE [0,1] rfl ?_ ?_).s<;>simp[AI,AH,lk,ren,renL,A9,AG])
theorem NV (G:List (Nat×List Value))(l:List TK0)(p:Nat)(q:List OP)(s:ByteArray)(hl:l.length≤100)(hp:p≤100):Con prog G 30 [.p 0 0 0,.r (.string s)] (BR l p q) 2
  (PQ (Ar l p s) (fun _ _=> .tup []) (fun _ p=>BR l p q) 2) (PP (Ar l p s) 2):=by
 cases ho:AP l p 4 s
 ·refine Con.of_bad (e:=if l.length≤p then 7 else 6) (p:=p) (by rw[Ar,ho];rfl) ?_
  have ec:=CT G l p q 4 s hl hp ho;have gc:=DP G l p q 6 hl hp;generalize (if l.length≤p then (7:Int) else 6)=e at gc ⊢;unfold BR Bq B4 at *;refine A8 func30 rfl (by kernel_rfl) (of_decide_eq_true (by kernel_rfl)) ?_;intro E hG hE;subst hG;simp only[Ai];(repeat' (first |refine A6 ?_ |refine A2 ?_ |refine A3 ?_ |refine A5 ?_ |((first |refine rR (fun K kp hK hkp=>?_) |refine oR [0,1] ec ?_ |refine iG ?_);simp(implicitDefEqProofs:=false) (maxSteps:=2000000) (disch:=omega) only[go_sem];(repeat' (first |(refine hK _ ?_;clear hK hkp kp K) |(with_reducible refine And.intro ?_ ?_) |omega))) |refine oP [0,1] gc ?_ |((first |refine aG (fun h=>?_) (fun h=>?_) |refine aD (fun h=>?_) (fun h=>?_) |refine aX (fun h=>?_) (fun h=>?_))<;>simp only[h]) |refine A0 rfl ?_ |refine A1 rfl ?_ |((refine A4 rfl (fun h=>?_) (fun h=>?_)<;>try simp only[AK] at h)<;>(try (exfalso;omega))) |refine A7 ?_));(refine hkp _ _ ?_;clear hkp hK kp K;refine AD ?_;refine AC hE [0,1] rfl ?_ ?_<;>simp[AH,lk,ren,renL,A9,AG,Aa])
 ·refine Con.of_ok (a:=()) (p:=p+1) (by rw[Ar,ho];rfl) ?_
  have ec:=DX G l p q 4 s hl hp ho;unfold BR Bq B4 at *;refine A8 func30 rfl (by kernel_rfl) (of_decide_eq_true (by kernel_rfl)) ?_;intro E hG hE;subst hG;simp only[Ai];(repeat' (first |refine A6 ?_ |refine A2 ?_ |refine A3 ?_ |refine A5 ?_ |((first |refine rR (fun K kp hK hkp=>?_) |refine oR [0,1] ec ?_ |refine iG ?_);simp(implicitDefEqProofs:=false) (maxSteps:=2000000) (disch:=omega) only[go_sem];(repeat' (first |(refine hK _ ?_;clear hK hkp kp K) |(with_reducible refine And.intro ?_ ?_) |omega))) |((first |refine aG (fun h=>?_) (fun h=>?_) |refine aD (fun h=>?_) (fun h=>?_) |refine aX (fun h=>?_) (fun h=>?_))<;>simp only[h]) |refine A0 rfl ?_ |refine A1 rfl ?_ |((refine A4 rfl (fun h=>?_) (fun h=>?_)<;>try simp only[AK] at h)<;>(try (exfalso;omega))) |refine A7 ?_));(refine BM ?_;(refine AB (by(simp(implicitDefEqProofs:=false) (maxSteps:=2000000) (disch:=omega) only[go_sem,results30]);rfl) ?_;refine(AC hE [0,1] rfl ?_ ?_).s<;>simp[AI,AH,lk,ren,renL,A9,AG]))
theorem NR {G:List (Nat×List Value)}(T:Tabs G)(l:List TK0)(p:Nat)(q:List OP)(hl:l.length≤100)(hp:p≤100)(hs: ∀t ∈ l,Fh t.s):Con prog G 26 [.p 0 0 0] (BR l p q) 2
  (PQ (D8 l p) (fun s _=> .r (.string s)) (fun _ p=>BR l p q) 2) (PP (D8 l p) 2):=by
 cases hx:l[p]? with
 |none=>
  have h1:=List.getElem?_eq_none_iff.1 hx;refine Con.of_bad (e:=if l.length≤p then 7 else 6) (p:=p) (by rw[D8,hx];rfl) ?_;have d1:decide ((p:Int)≥(l.length:Int))=true:=decide_eq_true (by omega);have gc:=DP G l p q 6 hl hp;generalize (if l.length≤p then (7:Int) else 6)=e at gc ⊢;unfold BR Bq B4 at *;refine A8 func26 rfl (by kernel_rfl) (of_decide_eq_true (by kernel_rfl)) ?_;intro E hG hE;subst hG;simp only[Ai];(repeat' (first |refine A6 ?_ |refine A2 ?_ |refine A3 ?_ |refine A5 ?_ |((first |refine rR (fun K kp hK hkp=>?_) |refine rD (id:=1) AA 24 [0,1,2,3,4,5,6,7,8,9,10,11,12,13,14,15,16,17,18,19,20,21,22,23] (fun K kp hK hkp=>?_) |refine rD (id:=3) AA 12 [0,1,2,3,4,5,6,7,8,9,10,11] (fun K kp hK hkp=>?_) |refine iG ?_ |refine iD ?_);simp(implicitDefEqProofs:=false) (maxSteps:=2000000) (disch:=omega) only[go_sem,d1];(repeat' (first |(refine hK _ ?_;clear hK hkp kp K) |(with_reducible refine And.intro ?_ ?_) |omega))) |refine oP [0,1] gc ?_ |((first |refine aG (fun h=>?_) (fun h=>?_) |refine aD (fun h=>?_) (fun h=>?_) |refine aX (fun h=>?_) (fun h=>?_))<;>simp only[h]) |refine A0 rfl ?_ |refine A1 rfl ?_ |((refine A4 rfl (fun h=>?_) (fun h=>?_)<;>try simp only[AK] at h)<;>(try (exfalso;omega))) |refine A7 ?_));(refine hkp _ _ ?_;clear hkp hK kp K;refine AD ?_;refine AC hE [0,1] rfl ?_ ?_<;>simp[AH,lk,ren,renL,A9,AG,Aa])
 |some x=>
  have h1:=(List.getElem?_eq_some_iff.1 hx).1;have d1:decide ((p:Int)≥(l.length:Int))=false:=decide_eq_false (by omega);cases d2:(x.k !=1)
  ·have hk: ¬x.k≠1:=by simpa using d2
   have nc:=Kz T x.s (hs x (List.mem_of_getElem? hx));cases d3:(Ac x.s !=0)
   ·have hn: ¬Ac x.s≠0:=by simpa using d3
    refine Con.of_ok (a:=x.s) (p:=p+1) (by rw[D8,hx];simp only[if_neg hk,if_neg hn]) ?_;unfold BR Bq B4 at *;refine A8 func26 rfl (by kernel_rfl) (of_decide_eq_true (by kernel_rfl)) ?_;intro E hG hE;subst hG;simp only[Ai];(repeat' (first |refine A6 ?_ |refine A2 ?_ |refine A3 ?_ |refine A5 ?_ |((first |refine rR (fun K kp hK hkp=>?_) |refine rD (id:=1) AA 24 [0,1,2,3,4,5,6,7,8,9,10,11,12,13,14,15,16,17,18,19,20,21,22,23] (fun K kp hK hkp=>?_) |refine rD (id:=3) AA 12 [0,1,2,3,4,5,6,7,8,9,10,11] (fun K kp hK hkp=>?_) |refine cR nc ?_ |refine cD nc ?_ |refine iG ?_ |refine iD ?_);simp(implicitDefEqProofs:=false) (maxSteps:=2000000) (disch:=omega) only[go_sem,d1,hx,eT,d2,d3];(repeat' (first |(refine hK _ ?_;clear hK hkp kp K) |(with_reducible refine And.intro ?_ ?_) |omega))) |((first |refine aG (fun h=>?_) (fun h=>?_) |refine aD (fun h=>?_) (fun h=>?_) |refine aX (fun h=>?_) (fun h=>?_))<;>simp only[h]) |refine A0 rfl ?_ |refine A1 rfl ?_ |((refine A4 rfl (fun h=>?_) (fun h=>?_)<;>try simp only[AK] at h)<;>(try (exfalso;omega))) |refine A7 ?_));(refine AB (by(simp(implicitDefEqProofs:=false) (maxSteps:=2000000) (disch:=omega) only[go_sem,results26]);rfl) ?_;refine(AC hE [0,1] rfl ?_ ?_).s<;>simp[AI,AH,lk,ren,renL,A9,AG])
   ·have hn:Ac x.s≠0:=by simpa using d3
    refine Con.of_bad (e:=if l.length≤p then 7 else Ac x.s) (p:=p) (by rw[D8,hx];simp only[if_neg hk,if_pos hn];rfl) ?_;have gc:=DP G l p q (Ac x.s) hl hp;generalize (if l.length≤p then (7:Int) else Ac x.s)=e at gc ⊢;unfold BR Bq B4 at *;refine A8 func26 rfl (by kernel_rfl) (of_decide_eq_true (by kernel_rfl)) ?_;intro E hG hE;subst hG;simp only[Ai];(repeat' (first |refine A6 ?_ |refine A2 ?_ |refine A3 ?_ |refine A5 ?_ |((first |refine rR (fun K kp hK hkp=>?_) |refine rD (id:=1) AA 24 [0,1,2,3,4,5,6,7,8,9,10,11,12,13,14,15,16,17,18,19,20,21,22,23] (fun K kp hK hkp=>?_) |refine rD (id:=3) AA 12 [0,1,2,3,4,5,6,7,8,9,10,11] (fun K kp hK hkp=>?_) |refine cR nc ?_ |refine cD nc ?_ |refine iG ?_ |refine iD ?_);simp(implicitDefEqProofs:=false) (maxSteps:=2000000) (disch:=omega) only[go_sem,d1,hx,eT,d2,d3];(repeat' (first |(refine hK _ ?_;clear hK hkp kp K) |(with_reducible refine And.intro ?_ ?_) |omega))) |refine oP [0,1] gc ?_ |((first |refine aG (fun h=>?_) (fun h=>?_) |refine aD (fun h=>?_) (fun h=>?_) |refine aX (fun h=>?_) (fun h=>?_))<;>simp only[h]) |refine A0 rfl ?_ |refine A1 rfl ?_ |((refine A4 rfl (fun h=>?_) (fun h=>?_)<;>try simp only[AK] at h)<;>(try (exfalso;omega))) |refine A7 ?_));(refine hkp _ _ ?_;clear hkp hK kp K;refine AD ?_;refine AC hE [0,1] rfl ?_ ?_<;>simp[AH,lk,ren,renL,A9,AG,Aa])
  ·have hk:x.k≠1:=by simpa using d2
   refine Con.of_bad (e:=if l.length≤p then 7 else 6) (p:=p) (by rw[D8,hx];simp only[if_pos hk];rfl) ?_;have gc:=DP G l p q 6 hl hp;generalize (if l.length≤p then (7:Int) else 6)=e at gc ⊢;unfold BR Bq B4 at *;refine A8 func26 rfl (by kernel_rfl) (of_decide_eq_true (by kernel_rfl)) ?_;intro E hG hE;subst hG;simp only[Ai];(repeat' (first |refine A6 ?_ |refine A2 ?_ |refine A3 ?_ |refine A5 ?_ |((first |refine rR (fun K kp hK hkp=>?_) |refine rD (id:=1) AA 24 [0,1,2,3,4,5,6,7,8,9,10,11,12,13,14,15,16,17,18,19,20,21,22,23] (fun K kp hK hkp=>?_) |refine rD (id:=3) AA 12 [0,1,2,3,4,5,6,7,8,9,10,11] (fun K kp hK hkp=>?_) |refine iG ?_ |refine iD ?_);simp(implicitDefEqProofs:=false) (maxSteps:=2000000) (disch:=omega) only[go_sem,d1,hx,eT,d2];(repeat' (first |(refine hK _ ?_;clear hK hkp kp K) |(with_reducible refine And.intro ?_ ?_) |omega))) |refine oP [0,1] gc ?_ |((first |refine aG (fun h=>?_) (fun h=>?_) |refine aD (fun h=>?_) (fun h=>?_) |refine aX (fun h=>?_) (fun h=>?_))<;>simp only[h]) |refine A0 rfl ?_ |refine A1 rfl ?_ |((refine A4 rfl (fun h=>?_) (fun h=>?_)<;>try simp only[AK] at h)<;>(try (exfalso;omega))) |refine A7 ?_));(refine hkp _ _ ?_;clear hkp hK kp K;refine AD ?_;refine AC hE [0,1] rfl ?_ ?_<;>simp[AH,lk,ren,renL,A9,AG,Aa])
end Go.AM
namespace Go.AM
open Go Go.RowKit
open Go.Proofs.YtmgddlckgpfccaaDoor (OP Ac AY AR str)
attribute [local irreducible] AWP BS
set_option maxHeartbeats 4000000 in
theorem Ca (G:List (Nat×List Value))(l:List TK0)(p:Nat)(q0 q:List OP)(o:OP)(hl:l.length≤100)(hp:p≤100)(h1:1≤p)(hq:q0.length+q.length≤40):Con prog G 58 [.p 0 0 0,.agg (eO o)] (BR l p (q0++q)) 2
  (PQ (C3 l p q0.length q o) (fun _ _=> .tup []) (fun r p=>[(0,Bq l p 2 (q0++r).length),(2,B4 (q0++r))]) 3) (PP (C3 l p q0.length q o) 2):=by
 have hlen:(q0++q).length=q0.length+q.length:=List.length_append
 by_cases hf:q0.length+q.length=40
 ·refine Con.of_bad (e:=if l.length≤p - 1 then 7 else 10) (p:=p - 1) (by rw[C3,if_pos hf];rfl) ?_
  have gc:=DP G l (p - 1) (q0++q) 10 hl (by omega)
  have e1:((p:Nat):Int) - 1=((p - 1:Nat):Int):=by omega
  generalize (if l.length≤p - 1 then (7:Int) else 10)=e at gc ⊢;generalize q0++q=z at *
  have d1:((z.length:Int)==40)=true:=by simp only[beq_iff_eq];omega
  unfold BR Bq B4 eO at *;refine A8 func58 rfl (by kernel_rfl) (of_decide_eq_true (by kernel_rfl)) ?_;intro E hG hE;subst hG;simp only[Ai];(repeat' (first |refine A6 ?_ |refine A2 ?_ |refine A3 ?_ |refine A5 ?_ |((first |refine rR (fun K kp hK hkp=>?_) |refine rX (id:=4) AA [] 11 [0,1,2,3,4,5,6,7,8,9,10] (fun K kp hK hkp=>?_) |refine iG ?_ |refine iD ?_ |refine iX ?_);simp(implicitDefEqProofs:=false) (maxSteps:=2000000) (disch:=omega) only[go_sem,d1,e1];(repeat' (first |(refine hK _ ?_;clear hK hkp kp K) |(with_reducible refine And.intro ?_ ?_) |omega))) |refine oP [0,1] gc ?_ |((first |refine aG (fun h=>?_) (fun h=>?_) |refine aD (fun h=>?_) (fun h=>?_) |refine aX (fun h=>?_) (fun h=>?_))<;>simp only[h]) |refine A0 rfl ?_ |refine A1 rfl ?_ |((refine A4 rfl (fun h=>?_) (fun h=>?_)<;>try simp only[AK] at h)<;>(try (exfalso;omega))) |refine A7 ?_));(refine hkp _ _ ?_;clear hkp hK kp K;refine AD ?_;refine AC hE [0,1] rfl ?_ ?_<;>simp[AH,lk,ren,renL,A9,AG,Aa])
 ·refine Con.of_ok (a:=q++[o]) (p:=p) (by rw[C3,if_neg hf]) ?_
  rw[←List.append_assoc];generalize q0++q=z at *
  have d1:((z.length:Int)==40)=false:=by simp only[beq_eq_false_iff_ne,ne_eq];omega
  unfold BR Bq B4 eO at *;refine A8 func58 rfl (by kernel_rfl) (of_decide_eq_true (by kernel_rfl)) ?_;intro E hG hE;subst hG;simp only[Ai];(repeat' (first |refine A6 ?_ |refine A2 ?_ |refine A3 ?_ |refine A5 ?_ |((first |refine rR (fun K kp hK hkp=>?_) |refine rX (id:=4) AA [1] 8 [0,1,2,3,4,5,6,7] (fun K kp hK hkp=>?_) |refine iG ?_ |refine iD ?_ |refine iX ?_);simp(implicitDefEqProofs:=false) (maxSteps:=2000000) (disch:=omega) only[go_sem,d1];(repeat' (first |(refine hK _ ?_;clear hK hkp kp K) |(with_reducible refine And.intro ?_ ?_) |omega))) |((first |refine aG (fun h=>?_) (fun h=>?_) |refine aD (fun h=>?_) (fun h=>?_) |refine aX (fun h=>?_) (fun h=>?_))<;>simp only[h]) |refine A0 rfl ?_ |refine A1 rfl ?_ |((refine A4 rfl (fun h=>?_) (fun h=>?_)<;>try simp only[AK] at h)<;>(try (exfalso;omega))) |refine A7 ?_));(refine BM ?_;(refine AB (by(simp(implicitDefEqProofs:=false) (maxSteps:=2000000) (disch:=omega) only[go_sem,results58]);rfl) ?_;refine(AC hE [0,1,4] rfl ?_ ?_).s<;>simp[AI,AH,lk,ren,renL,A9,AG]))
set_option maxHeartbeats 4000000 in
theorem L3 (G:List (Nat×List Value))(t:Bool)(l:List TK0)(p:Nat)(q:List OP)(s:ByteArray)(hl:l.length≤100)(hp:p≤100):Con prog G 25 [.p 0 0 0,.ro t 1 [Bc s]] (BR l p q) 2
  (PQ (BH l p [s]) (fun _ _=> .tup []) (fun _ p=>BR l p q) 2) (PP (BH l p [s]) 2):=by
 cases ho:AP l p 1 s
 ·refine Con.of_bad (e:=if l.length≤p then 7 else 6) (p:=p) (by rw[BH,ho];rfl) ?_
  have ec:=CT G l p q 1 s hl hp ho;have gc:=DP G l p q 6 hl hp;generalize (if l.length≤p then (7:Int) else 6)=e at gc ⊢;unfold BR Bq B4 at *;refine A8 func25 rfl (by kernel_rfl) (of_decide_eq_true (by kernel_rfl)) ?_;intro E hG hE;subst hG;simp only[Ai];(repeat' (first |refine A6 ?_ |refine A2 ?_ |refine A3 ?_ |refine A5 ?_ |((first |refine rR (fun K kp hK hkp=>?_) |refine iG ?_);simp(implicitDefEqProofs:=false) (maxSteps:=2000000) (disch:=omega) only[go_sem];(repeat' (first |(refine hK _ ?_;clear hK hkp kp K) |(with_reducible refine And.intro ?_ ?_) |omega))) |((first |refine aG (fun h=>?_) (fun h=>?_) |refine aD (fun h=>?_) (fun h=>?_) |refine aX (fun h=>?_) (fun h=>?_))<;>simp only[h]) |refine A0 rfl ?_ |refine A1 rfl ?_ |((refine A4 rfl (fun h=>?_) (fun h=>?_)<;>try simp only[AK] at h)<;>(try (exfalso;omega))) |refine A7 ?_));refine Ap (fun k:Nat=>⟨[(8,.r (.int .i64 k)),(7,.r (.int .i64 1)),(6,.ro t 1 [Bc s]),(0,.p 0 0 0)],[(0,.box 43 [.ro true 3 (l.map eT),.r (.int .i64 p),.s 1 0 q.length]),(1,.lst 73 5 (q.map eO))],2⟩) (fun k=>k=0) (fun k=>1 - k) 0 ?_ ?_ ?_
  ·rfl
  ·(refine Am hE [0,1] rfl ?_ ?_<;>simp[Bi,AH,lk,ren,renL,A9,AG]<;>(try omega))
  rintro k rfl;(repeat' (first |refine A6 ?_ |refine A2 ?_ |refine A3 ?_ |refine A5 ?_ |((first |refine rR (fun K kp hK hkp=>?_) |refine oR [0,1] ec ?_ |refine iG ?_);simp(implicitDefEqProofs:=false) (maxSteps:=2000000) (disch:=omega) only[go_sem,Bc];(repeat' (first |(refine hK _ ?_;clear hK hkp kp K) |(with_reducible refine And.intro ?_ ?_) |omega))) |refine oP [0,1] gc ?_ |((first |refine aG (fun h=>?_) (fun h=>?_) |refine aD (fun h=>?_) (fun h=>?_) |refine aX (fun h=>?_) (fun h=>?_))<;>simp only[h]) |refine A0 rfl ?_ |refine A1 rfl ?_ |((refine A4 rfl (fun h=>?_) (fun h=>?_)<;>try simp only[AK] at h)<;>(try (exfalso;omega))) |refine A7 ?_));(refine hkp _ _ ?_;clear hkp hK kp K;refine AD ?_;refine AC hE [0,1] rfl ?_ ?_<;>simp[AH,lk,ren,renL,A9,AG,Aa])
 ·refine Con.of_ok (a:=()) (p:=p+1) (by rw[BH,ho];rfl) ?_
  have ec:=DX G l p q 1 s hl hp ho;unfold BR Bq B4 at *;refine A8 func25 rfl (by kernel_rfl) (of_decide_eq_true (by kernel_rfl)) ?_;intro E hG hE;subst hG;simp only[Ai];(repeat' (first |refine A6 ?_ |refine A2 ?_ |refine A3 ?_ |refine A5 ?_ |((first |refine rR (fun K kp hK hkp=>?_) |refine iG ?_);simp(implicitDefEqProofs:=false) (maxSteps:=2000000) (disch:=omega) only[go_sem];(repeat' (first |(refine hK _ ?_;clear hK hkp kp K) |(with_reducible refine And.intro ?_ ?_) |omega))) |((first |refine aG (fun h=>?_) (fun h=>?_) |refine aD (fun h=>?_) (fun h=>?_) |refine aX (fun h=>?_) (fun h=>?_))<;>simp only[h]) |refine A0 rfl ?_ |refine A1 rfl ?_ |((refine A4 rfl (fun h=>?_) (fun h=>?_)<;>try simp only[AK] at h)<;>(try (exfalso;omega))) |refine A7 ?_));refine Ap (fun k:Nat=>⟨[(8,.r (.int .i64 k)),(7,.r (.int .i64 1)),(6,.ro t 1 [Bc s]),(0,.p 0 0 0)],[(0,.box 43 [.ro true 3 (l.map eT),.r (.int .i64 (p+k:Nat)),.s 1 0 q.length]),(1,.lst 73 5 (q.map eO))],2⟩) (fun k=>k≤1) (fun k=>1 - k) 0 ?_ ?_ ?_
  ·exact Nat.zero_le _
  ·(refine Am hE [0,1] rfl ?_ ?_<;>simp[Bi,AH,lk,ren,renL,A9,AG]<;>(try omega))
  rintro k hk
  rcases Nat.lt_or_eq_of_le hk with h |rfl
  ·obtain rfl:k=0:=by omega
   simp only[Nat.add_zero];(repeat' (first |refine A6 ?_ |refine A2 ?_ |refine A3 ?_ |refine A5 ?_ |((first |refine rR (fun K kp hK hkp=>?_) |refine oR [0,1] ec ?_ |refine iG ?_);simp(implicitDefEqProofs:=false) (maxSteps:=2000000) (disch:=omega) only[go_sem,Bc];(repeat' (first |(refine hK _ ?_;clear hK hkp kp K) |(with_reducible refine And.intro ?_ ?_) |omega))) |((first |refine aG (fun h=>?_) (fun h=>?_) |refine aD (fun h=>?_) (fun h=>?_) |refine aX (fun h=>?_) (fun h=>?_))<;>simp only[h]) |refine A0 rfl ?_ |refine A1 rfl ?_ |((refine A4 rfl (fun h=>?_) (fun h=>?_)<;>try simp only[AK] at h)<;>(try (exfalso;omega))) |refine A7 ?_))
   ((first |(refine Ba (1) ?_ ?_ ?_) |(refine BT (1) ?_ ?_ ?_) |(refine nextE (1) ?_ ?_ ?_));rotate_left;(·(try dsimp only);(first |omega |(simp only[List.length_drop,List.length_cons,List.length_append];omega) |(simp;done) |(simp;omega)));(·(refine Am hE [0,1] rfl ?_ ?_<;>simp[Bi,AH,lk,ren,renL,A9,AG,Bc]<;>(try omega))))
   exact Nat.le_refl _
  ·(repeat' (first |refine A6 ?_ |refine A2 ?_ |refine A3 ?_ |refine A5 ?_ |((first |refine rR (fun K kp hK hkp=>?_) |refine iG ?_);simp(implicitDefEqProofs:=false) (maxSteps:=2000000) (disch:=omega) only[go_sem];(repeat' (first |(refine hK _ ?_;clear hK hkp kp K) |(with_reducible refine And.intro ?_ ?_) |omega))) |((first |refine aG (fun h=>?_) (fun h=>?_) |refine aD (fun h=>?_) (fun h=>?_) |refine aX (fun h=>?_) (fun h=>?_))<;>simp only[h]) |refine A0 rfl ?_ |refine A1 rfl ?_ |((refine A4 rfl (fun h=>?_) (fun h=>?_)<;>try simp only[AK] at h)<;>(try (exfalso;omega))) |refine A7 ?_))
   (refine BM ?_;(refine AB (by(simp(implicitDefEqProofs:=false) (maxSteps:=2000000) (disch:=omega) only[go_sem,results25]);rfl) ?_;refine(AC hE [0,1] rfl ?_ ?_).s<;>simp[AI,AH,lk,ren,renL,A9,AG]))
def Cy (o:Option V)(_:Nat):AV:=match o with
 |some v=> .tup [.agg (eV v),.r (.bool true)]
 |none=> .tup [.agg (eV ⟨0,0,str []⟩),.r (.bool false)]
structure TokOk (t:TK0):Prop where
 s:Fh t.s
 lo:t.k=2→0≤t.n
 hi:t.n≤9223372036854775807
set_option maxHeartbeats 8000000 in
theorem Om (G:List (Nat×List Value))(l:List TK0)(p:Nat)(q:List OP)(hl:l.length≤100)(hp:p≤100)(h:AP l p 1 Ah=true∨AP l p 1 BW=true∨AP l p 1 BD=true):Con prog G 50 [.p 0 0 0] (BR l p q) 2
  (PQ (Bj l p) Cy (fun _ p=>BR l p q) 2) (PP (Bj l p) 2):=by
 cases h1:AP l p 1 Ah
 ·have e1:=CT G l p q 1 Ah hl hp h1
  simp only[Ah,str] at e1;cases h2:AP l p 1 BW
  ·have e2:=CT G l p q 1 BW hl hp h2
   simp only[BW,str] at e2
   have h3:AP l p 1 BD=true:=by simpa[h1,h2] using h
   have e3:=DX G l p q 1 BD hl hp h3;simp only[BD,str] at e3;refine Con.of_ok (a:=some ⟨1,0,str []⟩) (p:=p+1) (by rw[Bj,h1,h2,h3];rfl) ?_;unfold BR Bq B4 Cy at *;refine A8 func50 rfl (by kernel_rfl) (of_decide_eq_true (by kernel_rfl)) ?_;intro E hG hE;subst hG;simp only[Ai];(repeat' (first |refine A6 ?_ |refine A2 ?_ |refine A3 ?_ |refine A5 ?_ |((first |refine rR (fun K kp hK hkp=>?_) |refine rD (id:=7) AA 25 [0,1,2,3,4,5,6,7,8,9,10,11,12,13,14,15,16,17,18,19,20,21,22,23,24] (fun K kp hK hkp=>?_) |refine rD (id:=8) AA 13 [0,1,2,3,4,5,6,7,8,9,10,11,12] (fun K kp hK hkp=>?_) |refine rD (id:=11) AA 13 [0,1,2,3,4,5,6,7,8,9,10,11,12] (fun K kp hK hkp=>?_) |refine rD (id:=15) AA 24 [0,1,2,3,4,5,6,7,8,9,10,11,12,13,14,15,16,17,18,19,20,21,22,23] (fun K kp hK hkp=>?_) |refine rD (id:=17) AA 15 [0,1,2,3,4,5,6,7,8,9,10,11,12,13,14] (fun K kp hK hkp=>?_) |refine oR [0,1] e1 ?_ |refine oR [0,1] e2 ?_ |refine oR [0,1] e3 ?_ |refine iG ?_ |refine iD ?_);simp(implicitDefEqProofs:=false) (maxSteps:=2000000) (disch:=omega) only[go_sem];(repeat' (first |(refine hK _ ?_;clear hK hkp kp K) |(with_reducible refine And.intro ?_ ?_) |omega))) |((first |refine aG (fun h=>?_) (fun h=>?_) |refine aD (fun h=>?_) (fun h=>?_) |refine aX (fun h=>?_) (fun h=>?_))<;>simp only[h]) |refine A0 rfl ?_ |refine A1 rfl ?_ |((refine A4 rfl (fun h=>?_) (fun h=>?_)<;>try simp only[AK] at h)<;>(try (exfalso;omega))) |refine A7 ?_));(refine AB (by(simp(implicitDefEqProofs:=false) (maxSteps:=2000000) (disch:=omega) only[go_sem,results50,eV,str]);rfl) ?_;refine(AC hE [0,1] rfl ?_ ?_).s<;>simp[AI,AH,lk,ren,renL,A9,AG,eV,str])
  ·have e2:=DX G l p q 1 BW hl hp h2
   simp only[BW,str] at e2;refine Con.of_ok (a:=some ⟨1,1,str []⟩) (p:=p+1) (by rw[Bj,h1,h2];rfl) ?_;unfold BR Bq B4 Cy at *;refine A8 func50 rfl (by kernel_rfl) (of_decide_eq_true (by kernel_rfl)) ?_;intro E hG hE;subst hG;simp only[Ai];(repeat' (first |refine A6 ?_ |refine A2 ?_ |refine A3 ?_ |refine A5 ?_ |((first |refine rR (fun K kp hK hkp=>?_) |refine rD (id:=7) AA 25 [0,1,2,3,4,5,6,7,8,9,10,11,12,13,14,15,16,17,18,19,20,21,22,23,24] (fun K kp hK hkp=>?_) |refine rD (id:=8) AA 13 [0,1,2,3,4,5,6,7,8,9,10,11,12] (fun K kp hK hkp=>?_) |refine rD (id:=11) AA 13 [0,1,2,3,4,5,6,7,8,9,10,11,12] (fun K kp hK hkp=>?_) |refine rD (id:=15) AA 24 [0,1,2,3,4,5,6,7,8,9,10,11,12,13,14,15,16,17,18,19,20,21,22,23] (fun K kp hK hkp=>?_) |refine rD (id:=17) AA 15 [0,1,2,3,4,5,6,7,8,9,10,11,12,13,14] (fun K kp hK hkp=>?_) |refine oR [0,1] e1 ?_ |refine oR [0,1] e2 ?_ |refine iG ?_ |refine iD ?_);simp(implicitDefEqProofs:=false) (maxSteps:=2000000) (disch:=omega) only[go_sem];(repeat' (first |(refine hK _ ?_;clear hK hkp kp K) |(with_reducible refine And.intro ?_ ?_) |omega))) |((first |refine aG (fun h=>?_) (fun h=>?_) |refine aD (fun h=>?_) (fun h=>?_) |refine aX (fun h=>?_) (fun h=>?_))<;>simp only[h]) |refine A0 rfl ?_ |refine A1 rfl ?_ |((refine A4 rfl (fun h=>?_) (fun h=>?_)<;>try simp only[AK] at h)<;>(try (exfalso;omega))) |refine A7 ?_));(refine AB (by(simp(implicitDefEqProofs:=false) (maxSteps:=2000000) (disch:=omega) only[go_sem,results50,eV,str]);rfl) ?_;refine(AC hE [0,1] rfl ?_ ?_).s<;>simp[AI,AH,lk,ren,renL,A9,AG,eV,str])
 ·have e1:=DX G l p q 1 Ah hl hp h1
  simp only[Ah,str] at e1;refine Con.of_ok (a:=some ⟨0,0,str []⟩) (p:=p+1) (by rw[Bj,h1];rfl) ?_;unfold BR Bq B4 Cy at *;refine A8 func50 rfl (by kernel_rfl) (of_decide_eq_true (by kernel_rfl)) ?_;intro E hG hE;subst hG;simp only[Ai];(repeat' (first |refine A6 ?_ |refine A2 ?_ |refine A3 ?_ |refine A5 ?_ |((first |refine rR (fun K kp hK hkp=>?_) |refine rD (id:=7) AA 25 [0,1,2,3,4,5,6,7,8,9,10,11,12,13,14,15,16,17,18,19,20,21,22,23,24] (fun K kp hK hkp=>?_) |refine rD (id:=8) AA 13 [0,1,2,3,4,5,6,7,8,9,10,11,12] (fun K kp hK hkp=>?_) |refine rD (id:=11) AA 13 [0,1,2,3,4,5,6,7,8,9,10,11,12] (fun K kp hK hkp=>?_) |refine rD (id:=15) AA 24 [0,1,2,3,4,5,6,7,8,9,10,11,12,13,14,15,16,17,18,19,20,21,22,23] (fun K kp hK hkp=>?_) |refine rD (id:=17) AA 15 [0,1,2,3,4,5,6,7,8,9,10,11,12,13,14] (fun K kp hK hkp=>?_) |refine oR [0,1] e1 ?_ |refine iG ?_ |refine iD ?_);simp(implicitDefEqProofs:=false) (maxSteps:=2000000) (disch:=omega) only[go_sem];(repeat' (first |(refine hK _ ?_;clear hK hkp kp K) |(with_reducible refine And.intro ?_ ?_) |omega))) |((first |refine aG (fun h=>?_) (fun h=>?_) |refine aD (fun h=>?_) (fun h=>?_) |refine aX (fun h=>?_) (fun h=>?_))<;>simp only[h]) |refine A0 rfl ?_ |refine A1 rfl ?_ |((refine A4 rfl (fun h=>?_) (fun h=>?_)<;>try simp only[AK] at h)<;>(try (exfalso;omega))) |refine A7 ?_));(refine AB (by(simp(implicitDefEqProofs:=false) (maxSteps:=2000000) (disch:=omega) only[go_sem,results50,eV,str]);rfl) ?_;refine(AC hE [0,1] rfl ?_ ?_).s<;>simp[AI,AH,lk,ren,renL,A9,AG,eV,str])
set_option maxHeartbeats 8000000 in
theorem On (G:List (Nat×List Value))(l:List TK0)(p:Nat)(q:List OP)(x:TK0)(hx:l[p]?=some x)(hl:l.length≤100)(hp:p≤100)(h1:AP l p 1 Ah=false)(h2:AP l p 1 BW=false)(h3:AP l p 1 BD=false)(hk:x.k=3):Con prog G 50 [.p 0 0 0] (BR l p q) 2
  (PQ (Bj l p) Cy (fun _ p=>BR l p q) 2) (PP (Bj l p) 2):=by
 have e1:=CT G l p q 1 Ah hl hp h1;simp only[Ah,str] at e1;have e2:=CT G l p q 1 BW hl hp h2;simp only[BW,str] at e2;have e3:=CT G l p q 1 BD hl hp h3;simp only[BD,str] at e3;have hlt:=(List.getElem?_eq_some_iff.1 hx).1;have d1:decide ((p:Int)<(l.length:Int))=true:=decide_eq_true (by omega)
 have d2:(x.k==3)=true:=by simpa using hk
 have ht:CS l p=some x.s:=by rw[CS,hx];exact if_pos hk
 by_cases hs:20<x.s.size
 ·have d3:decide ((x.s.size:Int)>20)=true:=decide_eq_true (by omega)
  refine Con.of_bad (e:=if l.length≤p then 7 else 1) (p:=p) (by rw[Bj,h1,h2,h3,ht];simp only[Bool.false_eq_true,if_false,if_pos hs];rfl) ?_;have gc:=DP G l p q 1 hl hp;generalize (if l.length≤p then (7:Int) else 1)=e at gc ⊢;unfold BR Bq B4 at *;refine A8 func50 rfl (by kernel_rfl) (of_decide_eq_true (by kernel_rfl)) ?_;intro E hG hE;subst hG;simp only[Ai];(repeat' (first |refine A6 ?_ |refine A2 ?_ |refine A3 ?_ |refine A5 ?_ |((first |refine rR (fun K kp hK hkp=>?_) |refine rD (id:=7) AA 25 [0,1,2,3,4,5,6,7,8,9,10,11,12,13,14,15,16,17,18,19,20,21,22,23,24] (fun K kp hK hkp=>?_) |refine rD (id:=8) AA 13 [0,1,2,3,4,5,6,7,8,9,10,11,12] (fun K kp hK hkp=>?_) |refine rD (id:=11) AA 13 [0,1,2,3,4,5,6,7,8,9,10,11,12] (fun K kp hK hkp=>?_) |refine rD (id:=15) AA 24 [0,1,2,3,4,5,6,7,8,9,10,11,12,13,14,15,16,17,18,19,20,21,22,23] (fun K kp hK hkp=>?_) |refine rD (id:=17) AA 15 [0,1,2,3,4,5,6,7,8,9,10,11,12,13,14] (fun K kp hK hkp=>?_) |refine oR [0,1] e1 ?_ |refine oR [0,1] e2 ?_ |refine oR [0,1] e3 ?_ |refine iG ?_ |refine iD ?_);simp(implicitDefEqProofs:=false) (maxSteps:=2000000) (disch:=omega) only[go_sem,d1,hx,eT,d2,d3];(repeat' (first |(refine hK _ ?_;clear hK hkp kp K) |(with_reducible refine And.intro ?_ ?_) |omega))) |refine oP [0,1] gc ?_ |((first |refine aG (fun h=>?_) (fun h=>?_) |refine aD (fun h=>?_) (fun h=>?_) |refine aX (fun h=>?_) (fun h=>?_))<;>simp only[h]) |refine A0 rfl ?_ |refine A1 rfl ?_ |((refine A4 rfl (fun h=>?_) (fun h=>?_)<;>try simp only[AK] at h)<;>(try (exfalso;omega))) |refine A7 ?_));(refine hkp _ _ ?_;clear hkp hK kp K;refine AD ?_;refine AC hE [0,1] rfl ?_ ?_<;>simp[AH,lk,ren,renL,A9,AG,Aa])
 ·have d3:decide ((x.s.size:Int)>20)=false:=decide_eq_false (by omega)
  have z1:((p:Int)+1) - 1=(p:Int):=by omega
  refine Con.of_ok (a:=some ⟨3,0,x.s⟩) (p:=p+1) (by rw[Bj,h1,h2,h3,ht];simp only[Bool.false_eq_true,if_false,if_neg hs]) ?_;unfold BR Bq B4 Cy at *;refine A8 func50 rfl (by kernel_rfl) (of_decide_eq_true (by kernel_rfl)) ?_;intro E hG hE;subst hG;simp only[Ai];(repeat' (first |refine A6 ?_ |refine A2 ?_ |refine A3 ?_ |refine A5 ?_ |((first |refine rR (fun K kp hK hkp=>?_) |refine rD (id:=7) AA 25 [0,1,2,3,4,5,6,7,8,9,10,11,12,13,14,15,16,17,18,19,20,21,22,23,24] (fun K kp hK hkp=>?_) |refine rD (id:=8) AA 13 [0,1,2,3,4,5,6,7,8,9,10,11,12] (fun K kp hK hkp=>?_) |refine rU (id:=11) AA 13 [⟨0,0,[],[]⟩,⟨0,0,[0],[]⟩,⟨0,0,[0,1],[]⟩,⟨0,0,[0,1,2],[]⟩,⟨0,0,[],[]⟩,⟨0,0,[4],[]⟩,⟨0,0,[4,5],[]⟩,⟨0,0,[4,5,6],[]⟩,⟨0,0,[4,5,6,7],[]⟩,⟨0,0,[0,1,2,3,4,5,6,7,8],[]⟩,⟨0,0,[0,1,2,3,4,5,6,7,8,9],[]⟩,⟨0,0,[0,1,2,3,4,5,6,7,8,9,10],[]⟩,⟨0,0,[0,1,2,3,4,5,6,7,8,9,10,11],[]⟩] 0 [64,65,66,67,68,69,70,71,72,73,74,75,76] [] (fun K kp hK hkp=>?_) |refine rD (id:=15) AA 24 [0,1,2,3,4,5,6,7,8,9,10,11,12,13,14,15,16,17,18,19,20,21,22,23] (fun K kp hK hkp=>?_) |refine rD (id:=17) AA 15 [0,1,2,3,4,5,6,7,8,9,10,11,12,13,14] (fun K kp hK hkp=>?_) |refine oR [0,1] e1 ?_ |refine oR [0,1] e2 ?_ |refine oR [0,1] e3 ?_ |refine iG ?_ |refine iD ?_);simp(implicitDefEqProofs:=false) (maxSteps:=2000000) (disch:=omega) only[go_sem,d1,hx,eT,d2,d3,z1];(repeat' (first |(refine hK _ ?_;clear hK hkp kp K) |(with_reducible refine And.intro ?_ ?_) |omega))) |((first |refine aG (fun h=>?_) (fun h=>?_) |refine aD (fun h=>?_) (fun h=>?_) |refine aX (fun h=>?_) (fun h=>?_))<;>simp only[h]) |refine A0 rfl ?_ |refine A1 rfl ?_ |((refine A4 rfl (fun h=>?_) (fun h=>?_)<;>try simp only[AK] at h)<;>(try (exfalso;omega))) |refine A7 ?_));(refine AB (by(simp(implicitDefEqProofs:=false) (maxSteps:=2000000) (disch:=omega) only[go_sem,results50,eV,str]);rfl) ?_;refine(AC hE [0,1] rfl ?_ ?_).s<;>simp[AI,AH,lk,ren,renL,A9,AG,eV,str])
end Go.AM
namespace Go.AM
open Go Go.RowKit
open Go.Proofs.YtmgddlckgpfccaaDoor (OP Ac AY AR str)
attribute [local irreducible] AWP BS
theorem DD {l:List TK0}{p:Nat}{n:Int}(h:Bw l p=some n): ∃t,l[p]?=some t∧t.k=2∧t.n=n:=by
 unfold Bw at h
 cases hx:l[p]? with
 |none=>rw[hx] at h;cases h
 |some t=>
  rw[hx] at h;dsimp only at h;split at h
  ·rename_i h2;cases h;exact⟨t,rfl,h2,rfl⟩
  ·cases h
theorem Cn {l:List TK0}{p:Nat}{x:TK0}(h:Bw l p=none)(hx:l[p]?=some x):(x.k==2)=false:=by
 unfold Bw at h;rw[hx] at h;dsimp only at h;split at h
 ·cases h
 ·simpa using ‹_›
theorem DC {l:List TK0}{p:Nat}{x:TK0}(h:CS l p=none)(hx:l[p]?=some x):(x.k==3)=false:=by
 unfold CS at h;rw[hx] at h;dsimp only at h;split at h
 ·cases h
 ·simpa using ‹_›
set_option maxHeartbeats 8000000 in
theorem NY (G:List (Nat×List Value))(l:List TK0)(p:Nat)(q:List OP)(hk: ∀t ∈ l,TokOk t)(hl:l.length≤100)(hp:p≤100)(h1:AP l p 1 Ah=false)(h2:AP l p 1 BW=false)(h3:AP l p 1 BD=false)(ht:CS l p=none)(hm:AP l p 4 B7=true):Con prog G 50 [.p 0 0 0] (BR l p q) 2
  (PQ (Bj l p) Cy (fun _ p=>BR l p q) 2) (PP (Bj l p) 2):=by
 have e1:=CT G l p q 1 Ah hl hp h1;simp only[Ah,str] at e1;have e2:=CT G l p q 1 BW hl hp h2;simp only[BW,str] at e2;have e3:=CT G l p q 1 BD hl hp h3;simp only[BD,str] at e3;have e4:=DX G l p q 4 B7 hl hp hm;simp only[B7,str] at e4;have hlt:=Aq hm;have d1:decide ((p:Int)<(l.length:Int))=true:=decide_eq_true (by omega);obtain⟨x,hx⟩: ∃x,l[p]?=some x:=⟨_,List.getElem?_eq_getElem hlt⟩;have d2:=DC ht hx
 have dm:decide ((-1:Int)<0)=true:=by decide
 cases hn:Bw l (p+1) with
 |none=>
  refine Con.of_bad (e:=if l.length≤p+1 then 7 else 6) (p:=p+1) (by rw[Bj,h1,h2,h3,ht,hm];simp only[Bool.false_eq_true,if_false,if_true,hn];rfl) ?_;have gc:=DP G l (p+1) q 6 hl (by omega);generalize (if l.length≤p+1 then (7:Int) else 6)=e at gc ⊢
  cases hy:l[p+1]? with
  |none=>
   have:=List.getElem?_eq_none_iff.1 hy;have d3:decide (((p+1:Nat):Int)<(l.length:Int))=false:=decide_eq_false (by omega);unfold BR Bq B4 at *;refine A8 func50 rfl (by kernel_rfl) (of_decide_eq_true (by kernel_rfl)) ?_;intro E hG hE;subst hG;simp only[Ai];(repeat' (first |refine A6 ?_ |refine A2 ?_ |refine A3 ?_ |refine A5 ?_ |((first |refine rR (fun K kp hK hkp=>?_) |refine rD (id:=7) AA 25 [0,1,2,3,4,5,6,7,8,9,10,11,12,13,14,15,16,17,18,19,20,21,22,23,24] (fun K kp hK hkp=>?_) |refine rD (id:=8) AA 13 [0,1,2,3,4,5,6,7,8,9,10,11,12] (fun K kp hK hkp=>?_) |refine rU (id:=11) AA 13 [⟨0,0,[],[]⟩,⟨0,0,[0],[]⟩,⟨0,0,[0,1],[]⟩,⟨0,0,[0,1,2],[]⟩,⟨0,0,[],[]⟩,⟨0,0,[4],[]⟩,⟨0,0,[4,5],[]⟩,⟨0,0,[4,5,6],[]⟩,⟨0,0,[4,5,6,7],[]⟩,⟨0,0,[0,1,2,3,4,5,6,7,8],[]⟩,⟨0,0,[0,1,2,3,4,5,6,7,8,9],[]⟩,⟨0,0,[0,1,2,3,4,5,6,7,8,9,10],[]⟩,⟨0,0,[0,1,2,3,4,5,6,7,8,9,10,11],[]⟩] 0 [64,65,66,67,68,69,70,71,72,73,74,75,76] [] (fun K kp hK hkp=>?_) |refine rD (id:=15) AA 24 [0,1,2,3,4,5,6,7,8,9,10,11,12,13,14,15,16,17,18,19,20,21,22,23] (fun K kp hK hkp=>?_) |refine rU (id:=17) AA 15 [⟨0,0,[],[]⟩,⟨0,0,[],[]⟩,⟨0,0,[1],[]⟩,⟨0,0,[1,2],[]⟩,⟨0,0,[1,2,3],[]⟩,⟨0,0,[],[]⟩,⟨0,0,[5],[]⟩,⟨0,0,[5,6],[]⟩,⟨0,0,[5,6,7],[]⟩,⟨0,0,[5,6,7,8],[]⟩,⟨0,0,[1,2,3,4,5,6,7,8,9],[]⟩,⟨0,0,[1,2,3,4,5,6,7,8,9,10],[]⟩,⟨0,0,[1,2,3,4,5,6,7,8,9,10,11],[]⟩,⟨0,0,[0,1,2,3,4,5,6,7,8,9,10,11,12],[]⟩,⟨0,0,[0,1,2,3,4,5,6,7,8,9,10,11,12,13],[]⟩] 0 [110,111,112,113,114,115,116,117,118,119,120,121,122,123,124] [] (fun K kp hK hkp=>?_) |refine oR [0,1] e1 ?_ |refine oR [0,1] e2 ?_ |refine oR [0,1] e3 ?_ |refine oR [0,1] e4 ?_ |refine iG ?_ |refine iD ?_);simp(implicitDefEqProofs:=false) (maxSteps:=2000000) (disch:=omega) only[go_sem,d1,hx,eT,d2,d3,dm];(repeat' (first |(refine hK _ ?_;clear hK hkp kp K) |(with_reducible refine And.intro ?_ ?_) |omega))) |refine oP [0,1] gc ?_ |((first |refine aG (fun h=>?_) (fun h=>?_) |refine aD (fun h=>?_) (fun h=>?_) |refine aX (fun h=>?_) (fun h=>?_))<;>simp only[h]) |refine A0 rfl ?_ |refine A1 rfl ?_ |((refine A4 rfl (fun h=>?_) (fun h=>?_)<;>try simp only[AK] at h)<;>(try (exfalso;omega))) |refine A7 ?_));(refine hkp _ _ ?_;clear hkp hK kp K;refine AD ?_;refine AC hE [0,1] rfl ?_ ?_<;>simp[AH,lk,ren,renL,A9,AG,Aa])
  |some y=>
   have:=(List.getElem?_eq_some_iff.1 hy).1;have d3:decide (((p+1:Nat):Int)<(l.length:Int))=true:=decide_eq_true (by omega);have d4:=Cn hn hy;unfold BR Bq B4 at *;refine A8 func50 rfl (by kernel_rfl) (of_decide_eq_true (by kernel_rfl)) ?_;intro E hG hE;subst hG;simp only[Ai];(repeat' (first |refine A6 ?_ |refine A2 ?_ |refine A3 ?_ |refine A5 ?_ |((first |refine rR (fun K kp hK hkp=>?_) |refine rD (id:=7) AA 25 [0,1,2,3,4,5,6,7,8,9,10,11,12,13,14,15,16,17,18,19,20,21,22,23,24] (fun K kp hK hkp=>?_) |refine rD (id:=8) AA 13 [0,1,2,3,4,5,6,7,8,9,10,11,12] (fun K kp hK hkp=>?_) |refine rU (id:=11) AA 13 [⟨0,0,[],[]⟩,⟨0,0,[0],[]⟩,⟨0,0,[0,1],[]⟩,⟨0,0,[0,1,2],[]⟩,⟨0,0,[],[]⟩,⟨0,0,[4],[]⟩,⟨0,0,[4,5],[]⟩,⟨0,0,[4,5,6],[]⟩,⟨0,0,[4,5,6,7],[]⟩,⟨0,0,[0,1,2,3,4,5,6,7,8],[]⟩,⟨0,0,[0,1,2,3,4,5,6,7,8,9],[]⟩,⟨0,0,[0,1,2,3,4,5,6,7,8,9,10],[]⟩,⟨0,0,[0,1,2,3,4,5,6,7,8,9,10,11],[]⟩] 0 [64,65,66,67,68,69,70,71,72,73,74,75,76] [] (fun K kp hK hkp=>?_) |refine rD (id:=15) AA 24 [0,1,2,3,4,5,6,7,8,9,10,11,12,13,14,15,16,17,18,19,20,21,22,23] (fun K kp hK hkp=>?_) |refine rU (id:=17) AA 15 [⟨0,0,[],[]⟩,⟨0,0,[],[]⟩,⟨0,0,[1],[]⟩,⟨0,0,[1,2],[]⟩,⟨0,0,[1,2,3],[]⟩,⟨0,0,[],[]⟩,⟨0,0,[5],[]⟩,⟨0,0,[5,6],[]⟩,⟨0,0,[5,6,7],[]⟩,⟨0,0,[5,6,7,8],[]⟩,⟨0,0,[1,2,3,4,5,6,7,8,9],[]⟩,⟨0,0,[1,2,3,4,5,6,7,8,9,10],[]⟩,⟨0,0,[1,2,3,4,5,6,7,8,9,10,11],[]⟩,⟨0,0,[0,1,2,3,4,5,6,7,8,9,10,11,12],[]⟩,⟨0,0,[0,1,2,3,4,5,6,7,8,9,10,11,12,13],[]⟩] 0 [110,111,112,113,114,115,116,117,118,119,120,121,122,123,124] [] (fun K kp hK hkp=>?_) |refine oR [0,1] e1 ?_ |refine oR [0,1] e2 ?_ |refine oR [0,1] e3 ?_ |refine oR [0,1] e4 ?_ |refine iG ?_ |refine iD ?_);simp(implicitDefEqProofs:=false) (maxSteps:=2000000) (disch:=omega) only[go_sem,d1,hx,eT,d2,d3,hy,d4,dm];(repeat' (first |(refine hK _ ?_;clear hK hkp kp K) |(with_reducible refine And.intro ?_ ?_) |omega))) |refine oP [0,1] gc ?_ |((first |refine aG (fun h=>?_) (fun h=>?_) |refine aD (fun h=>?_) (fun h=>?_) |refine aX (fun h=>?_) (fun h=>?_))<;>simp only[h]) |refine A0 rfl ?_ |refine A1 rfl ?_ |((refine A4 rfl (fun h=>?_) (fun h=>?_)<;>try simp only[AK] at h)<;>(try (exfalso;omega))) |refine A7 ?_));(refine hkp _ _ ?_;clear hkp hK kp K;refine AD ?_;refine AC hE [0,1] rfl ?_ ?_<;>simp[AH,lk,ren,renL,A9,AG,Aa])
 |some n=>
  obtain⟨y,hy,hyk,rfl⟩:=DD hn;have hyo:=hk y (List.mem_of_getElem? hy);have hy0:=hyo.lo hyk;have hy1:=hyo.hi;have:=(List.getElem?_eq_some_iff.1 hy).1;have d3:decide (((p+1:Nat):Int)<(l.length:Int))=true:=decide_eq_true (by omega)
  have d4:(y.k==2)=true:=by simpa using hyk
  have z1:((p+1:Nat):Int)+1=((p+2:Nat):Int):=by omega
  have z2:((p+2:Nat):Int) - 1=((p+1:Nat):Int):=by omega
  have z3:(-1:Int) * y.n= -y.n:=by omega
  refine Con.of_ok (a:=some ⟨2,-y.n,str []⟩) (p:=p+2) (by rw[Bj,h1,h2,h3,ht,hm];simp only[Bool.false_eq_true,if_false,if_true,hn]) ?_;unfold BR Bq B4 Cy at *;refine A8 func50 rfl (by kernel_rfl) (of_decide_eq_true (by kernel_rfl)) ?_;intro E hG hE;subst hG;simp only[Ai];(repeat' (first |refine A6 ?_ |refine A2 ?_ |refine A3 ?_ |refine A5 ?_ |((first |refine rR (fun K kp hK hkp=>?_) |refine rD (id:=7) AA 25 [0,1,2,3,4,5,6,7,8,9,10,11,12,13,14,15,16,17,18,19,20,21,22,23,24] (fun K kp hK hkp=>?_) |refine rD (id:=8) AA 13 [0,1,2,3,4,5,6,7,8,9,10,11,12] (fun K kp hK hkp=>?_) |refine rU (id:=11) AA 13 [⟨0,0,[],[]⟩,⟨0,0,[0],[]⟩,⟨0,0,[0,1],[]⟩,⟨0,0,[0,1,2],[]⟩,⟨0,0,[],[]⟩,⟨0,0,[4],[]⟩,⟨0,0,[4,5],[]⟩,⟨0,0,[4,5,6],[]⟩,⟨0,0,[4,5,6,7],[]⟩,⟨0,0,[0,1,2,3,4,5,6,7,8],[]⟩,⟨0,0,[0,1,2,3,4,5,6,7,8,9],[]⟩,⟨0,0,[0,1,2,3,4,5,6,7,8,9,10],[]⟩,⟨0,0,[0,1,2,3,4,5,6,7,8,9,10,11],[]⟩] 0 [64,65,66,67,68,69,70,71,72,73,74,75,76] [] (fun K kp hK hkp=>?_) |refine rD (id:=15) AA 24 [0,1,2,3,4,5,6,7,8,9,10,11,12,13,14,15,16,17,18,19,20,21,22,23] (fun K kp hK hkp=>?_) |refine rU (id:=17) AA 15 [⟨0,0,[],[]⟩,⟨0,0,[],[]⟩,⟨0,0,[1],[]⟩,⟨0,0,[1,2],[]⟩,⟨0,0,[1,2,3],[]⟩,⟨0,0,[],[]⟩,⟨0,0,[5],[]⟩,⟨0,0,[5,6],[]⟩,⟨0,0,[5,6,7],[]⟩,⟨0,0,[5,6,7,8],[]⟩,⟨0,0,[1,2,3,4,5,6,7,8,9],[]⟩,⟨0,0,[1,2,3,4,5,6,7,8,9,10],[]⟩,⟨0,0,[1,2,3,4,5,6,7,8,9,10,11],[]⟩,⟨0,0,[0,1,2,3,4,5,6,7,8,9,10,11,12],[]⟩,⟨0,0,[0,1,2,3,4,5,6,7,8,9,10,11,12,13],[]⟩] 0 [110,111,112,113,114,115,116,117,118,119,120,121,122,123,124] [] (fun K kp hK hkp=>?_) |refine oR [0,1] e1 ?_ |refine oR [0,1] e2 ?_ |refine oR [0,1] e3 ?_ |refine oR [0,1] e4 ?_ |refine iG ?_ |refine iD ?_);simp(implicitDefEqProofs:=false) (maxSteps:=2000000) (disch:=omega) only[go_sem,d1,hx,eT,d2,d3,hy,d4,dm,z1,z2,z3];(repeat' (first |(refine hK _ ?_;clear hK hkp kp K) |(with_reducible refine And.intro ?_ ?_) |omega))) |((first |refine aG (fun h=>?_) (fun h=>?_) |refine aD (fun h=>?_) (fun h=>?_) |refine aX (fun h=>?_) (fun h=>?_))<;>simp only[h]) |refine A0 rfl ?_ |refine A1 rfl ?_ |((refine A4 rfl (fun h=>?_) (fun h=>?_)<;>try simp only[AK] at h)<;>(try (exfalso;omega))) |refine A7 ?_));(refine AB (by(simp(implicitDefEqProofs:=false) (maxSteps:=2000000) (disch:=omega) only[go_sem,results50,eV,str]);rfl) ?_;refine(AC hE [0,1] rfl ?_ ?_).s<;>simp[AI,AH,lk,ren,renL,A9,AG,eV,str])
set_option maxHeartbeats 8000000 in
theorem Pu (G:List (Nat×List Value))(l:List TK0)(p:Nat)(q:List OP)(hk: ∀t ∈ l,TokOk t)(hl:l.length≤100)(hp:p≤100)(h1:AP l p 1 Ah=false)(h2:AP l p 1 BW=false)(h3:AP l p 1 BD=false)(ht:CS l p=none)(hm:AP l p 4 B7=false):Con prog G 50 [.p 0 0 0] (BR l p q) 2
  (PQ (Bj l p) Cy (fun _ p=>BR l p q) 2) (PP (Bj l p) 2):=by
 have e1:=CT G l p q 1 Ah hl hp h1;simp only[Ah,str] at e1;have e2:=CT G l p q 1 BW hl hp h2;simp only[BW,str] at e2;have e3:=CT G l p q 1 BD hl hp h3;simp only[BD,str] at e3;have e4:=CT G l p q 4 B7 hl hp hm;simp only[B7,str] at e4
 have dm:decide ((1:Int)<0)=false:=by decide
 cases hn:Bw l p with
 |none=>
  refine Con.of_ok (a:=none) (p:=p) (by rw[Bj,h1,h2,h3,ht,hm];simp only[Bool.false_eq_true,if_false,hn]) ?_
  cases hy:l[p]? with
  |none=>
   have:=List.getElem?_eq_none_iff.1 hy;have d3:decide ((p:Int)<(l.length:Int))=false:=decide_eq_false (by omega);unfold BR Bq B4 Cy at *;refine A8 func50 rfl (by kernel_rfl) (of_decide_eq_true (by kernel_rfl)) ?_;intro E hG hE;subst hG;simp only[Ai];(repeat' (first |refine A6 ?_ |refine A2 ?_ |refine A3 ?_ |refine A5 ?_ |((first |refine rR (fun K kp hK hkp=>?_) |refine rD (id:=7) AA 25 [0,1,2,3,4,5,6,7,8,9,10,11,12,13,14,15,16,17,18,19,20,21,22,23,24] (fun K kp hK hkp=>?_) |refine rD (id:=8) AA 13 [0,1,2,3,4,5,6,7,8,9,10,11,12] (fun K kp hK hkp=>?_) |refine rU (id:=11) AA 13 [⟨0,0,[],[]⟩,⟨0,0,[0],[]⟩,⟨0,0,[0,1],[]⟩,⟨0,0,[0,1,2],[]⟩,⟨0,0,[],[]⟩,⟨0,0,[4],[]⟩,⟨0,0,[4,5],[]⟩,⟨0,0,[4,5,6],[]⟩,⟨0,0,[4,5,6,7],[]⟩,⟨0,0,[0,1,2,3,4,5,6,7,8],[]⟩,⟨0,0,[0,1,2,3,4,5,6,7,8,9],[]⟩,⟨0,0,[0,1,2,3,4,5,6,7,8,9,10],[]⟩,⟨0,0,[0,1,2,3,4,5,6,7,8,9,10,11],[]⟩] 0 [64,65,66,67,68,69,70,71,72,73,74,75,76] [] (fun K kp hK hkp=>?_) |refine rD (id:=15) AA 24 [0,1,2,3,4,5,6,7,8,9,10,11,12,13,14,15,16,17,18,19,20,21,22,23] (fun K kp hK hkp=>?_) |refine rU (id:=17) AA 15 [⟨0,0,[],[]⟩,⟨0,0,[],[]⟩,⟨0,0,[1],[]⟩,⟨0,0,[1,2],[]⟩,⟨0,0,[1,2,3],[]⟩,⟨0,0,[],[]⟩,⟨0,0,[5],[]⟩,⟨0,0,[5,6],[]⟩,⟨0,0,[5,6,7],[]⟩,⟨0,0,[5,6,7,8],[]⟩,⟨0,0,[1,2,3,4,5,6,7,8,9],[]⟩,⟨0,0,[1,2,3,4,5,6,7,8,9,10],[]⟩,⟨0,0,[1,2,3,4,5,6,7,8,9,10,11],[]⟩,⟨0,0,[0,1,2,3,4,5,6,7,8,9,10,11,12],[]⟩,⟨0,0,[0,1,2,3,4,5,6,7,8,9,10,11,12,13],[]⟩] 0 [110,111,112,113,114,115,116,117,118,119,120,121,122,123,124] [] (fun K kp hK hkp=>?_) |refine oR [0,1] e1 ?_ |refine oR [0,1] e2 ?_ |refine oR [0,1] e3 ?_ |refine oR [0,1] e4 ?_ |refine iG ?_ |refine iD ?_);simp(implicitDefEqProofs:=false) (maxSteps:=2000000) (disch:=omega) only[go_sem,eT,d3,dm];(repeat' (first |(refine hK _ ?_;clear hK hkp kp K) |(with_reducible refine And.intro ?_ ?_) |omega))) |((first |refine aG (fun h=>?_) (fun h=>?_) |refine aD (fun h=>?_) (fun h=>?_) |refine aX (fun h=>?_) (fun h=>?_))<;>simp only[h]) |refine A0 rfl ?_ |refine A1 rfl ?_ |((refine A4 rfl (fun h=>?_) (fun h=>?_)<;>try simp only[AK] at h)<;>(try (exfalso;omega))) |refine A7 ?_));(refine AB (by(simp(implicitDefEqProofs:=false) (maxSteps:=2000000) (disch:=omega) only[go_sem,results50,eV,str]);rfl) ?_;refine(AC hE [0,1] rfl ?_ ?_).s<;>simp[AI,AH,lk,ren,renL,A9,AG,eV,str])
  |some y=>
   have:=(List.getElem?_eq_some_iff.1 hy).1;have d3:decide ((p:Int)<(l.length:Int))=true:=decide_eq_true (by omega);have d2:=DC ht hy;have d4:=Cn hn hy;unfold BR Bq B4 Cy at *;refine A8 func50 rfl (by kernel_rfl) (of_decide_eq_true (by kernel_rfl)) ?_;intro E hG hE;subst hG;simp only[Ai];(repeat' (first |refine A6 ?_ |refine A2 ?_ |refine A3 ?_ |refine A5 ?_ |((first |refine rR (fun K kp hK hkp=>?_) |refine rD (id:=7) AA 25 [0,1,2,3,4,5,6,7,8,9,10,11,12,13,14,15,16,17,18,19,20,21,22,23,24] (fun K kp hK hkp=>?_) |refine rD (id:=8) AA 13 [0,1,2,3,4,5,6,7,8,9,10,11,12] (fun K kp hK hkp=>?_) |refine rU (id:=11) AA 13 [⟨0,0,[],[]⟩,⟨0,0,[0],[]⟩,⟨0,0,[0,1],[]⟩,⟨0,0,[0,1,2],[]⟩,⟨0,0,[],[]⟩,⟨0,0,[4],[]⟩,⟨0,0,[4,5],[]⟩,⟨0,0,[4,5,6],[]⟩,⟨0,0,[4,5,6,7],[]⟩,⟨0,0,[0,1,2,3,4,5,6,7,8],[]⟩,⟨0,0,[0,1,2,3,4,5,6,7,8,9],[]⟩,⟨0,0,[0,1,2,3,4,5,6,7,8,9,10],[]⟩,⟨0,0,[0,1,2,3,4,5,6,7,8,9,10,11],[]⟩] 0 [64,65,66,67,68,69,70,71,72,73,74,75,76] [] (fun K kp hK hkp=>?_) |refine rD (id:=15) AA 24 [0,1,2,3,4,5,6,7,8,9,10,11,12,13,14,15,16,17,18,19,20,21,22,23] (fun K kp hK hkp=>?_) |refine rU (id:=17) AA 15 [⟨0,0,[],[]⟩,⟨0,0,[],[]⟩,⟨0,0,[1],[]⟩,⟨0,0,[1,2],[]⟩,⟨0,0,[1,2,3],[]⟩,⟨0,0,[],[]⟩,⟨0,0,[5],[]⟩,⟨0,0,[5,6],[]⟩,⟨0,0,[5,6,7],[]⟩,⟨0,0,[5,6,7,8],[]⟩,⟨0,0,[1,2,3,4,5,6,7,8,9],[]⟩,⟨0,0,[1,2,3,4,5,6,7,8,9,10],[]⟩,⟨0,0,[1,2,3,4,5,6,7,8,9,10,11],[]⟩,⟨0,0,[0,1,2,3,4,5,6,7,8,9,10,11,12],[]⟩,⟨0,0,[0,1,2,3,4,5,6,7,8,9,10,11,12,13],[]⟩] 0 [110,111,112,113,114,115,116,117,118,119,120,121,122,123,124] [] (fun K kp hK hkp=>?_) |refine oR [0,1] e1 ?_ |refine oR [0,1] e2 ?_ |refine oR [0,1] e3 ?_ |refine oR [0,1] e4 ?_ |refine iG ?_ |refine iD ?_);simp(implicitDefEqProofs:=false) (maxSteps:=2000000) (disch:=omega) only[go_sem,eT,d2,d3,hy,d4,dm];(repeat' (first |(refine hK _ ?_;clear hK hkp kp K) |(with_reducible refine And.intro ?_ ?_) |omega))) |((first |refine aG (fun h=>?_) (fun h=>?_) |refine aD (fun h=>?_) (fun h=>?_) |refine aX (fun h=>?_) (fun h=>?_))<;>simp only[h]) |refine A0 rfl ?_ |refine A1 rfl ?_ |((refine A4 rfl (fun h=>?_) (fun h=>?_)<;>try simp only[AK] at h)<;>(try (exfalso;omega))) |refine A7 ?_));(refine AB (by(simp(implicitDefEqProofs:=false) (maxSteps:=2000000) (disch:=omega) only[go_sem,results50,eV,str]);rfl) ?_;refine(AC hE [0,1] rfl ?_ ?_).s<;>simp[AI,AH,lk,ren,renL,A9,AG,eV,str])
 |some n=>
  obtain⟨y,hy,hyk,rfl⟩:=DD hn;have hyo:=hk y (List.mem_of_getElem? hy);have hy0:=hyo.lo hyk;have hy1:=hyo.hi;have:=(List.getElem?_eq_some_iff.1 hy).1;have d3:decide ((p:Int)<(l.length:Int))=true:=decide_eq_true (by omega);have d2:=DC ht hy
  have d4:(y.k==2)=true:=by simpa using hyk
  have z1:((p:Int)+1) - 1=(p:Int):=by omega
  have z3:(1:Int) * y.n=y.n:=by omega
  refine Con.of_ok (a:=some ⟨2,y.n,str []⟩) (p:=p+1) (by rw[Bj,h1,h2,h3,ht,hm];simp only[Bool.false_eq_true,if_false,hn]) ?_;unfold BR Bq B4 Cy at *;refine A8 func50 rfl (by kernel_rfl) (of_decide_eq_true (by kernel_rfl)) ?_;intro E hG hE;subst hG;simp only[Ai];(repeat' (first |refine A6 ?_ |refine A2 ?_ |refine A3 ?_ |refine A5 ?_ |((first |refine rR (fun K kp hK hkp=>?_) |refine rD (id:=7) AA 25 [0,1,2,3,4,5,6,7,8,9,10,11,12,13,14,15,16,17,18,19,20,21,22,23,24] (fun K kp hK hkp=>?_) |refine rD (id:=8) AA 13 [0,1,2,3,4,5,6,7,8,9,10,11,12] (fun K kp hK hkp=>?_) |refine rU (id:=11) AA 13 [⟨0,0,[],[]⟩,⟨0,0,[0],[]⟩,⟨0,0,[0,1],[]⟩,⟨0,0,[0,1,2],[]⟩,⟨0,0,[],[]⟩,⟨0,0,[4],[]⟩,⟨0,0,[4,5],[]⟩,⟨0,0,[4,5,6],[]⟩,⟨0,0,[4,5,6,7],[]⟩,⟨0,0,[0,1,2,3,4,5,6,7,8],[]⟩,⟨0,0,[0,1,2,3,4,5,6,7,8,9],[]⟩,⟨0,0,[0,1,2,3,4,5,6,7,8,9,10],[]⟩,⟨0,0,[0,1,2,3,4,5,6,7,8,9,10,11],[]⟩] 0 [64,65,66,67,68,69,70,71,72,73,74,75,76] [] (fun K kp hK hkp=>?_) |refine rD (id:=15) AA 24 [0,1,2,3,4,5,6,7,8,9,10,11,12,13,14,15,16,17,18,19,20,21,22,23] (fun K kp hK hkp=>?_) |refine rU (id:=17) AA 15 [⟨0,0,[],[]⟩,⟨0,0,[],[]⟩,⟨0,0,[1],[]⟩,⟨0,0,[1,2],[]⟩,⟨0,0,[1,2,3],[]⟩,⟨0,0,[],[]⟩,⟨0,0,[5],[]⟩,⟨0,0,[5,6],[]⟩,⟨0,0,[5,6,7],[]⟩,⟨0,0,[5,6,7,8],[]⟩,⟨0,0,[1,2,3,4,5,6,7,8,9],[]⟩,⟨0,0,[1,2,3,4,5,6,7,8,9,10],[]⟩,⟨0,0,[1,2,3,4,5,6,7,8,9,10,11],[]⟩,⟨0,0,[0,1,2,3,4,5,6,7,8,9,10,11,12],[]⟩,⟨0,0,[0,1,2,3,4,5,6,7,8,9,10,11,12,13],[]⟩] 0 [110,111,112,113,114,115,116,117,118,119,120,121,122,123,124] [] (fun K kp hK hkp=>?_) |refine oR [0,1] e1 ?_ |refine oR [0,1] e2 ?_ |refine oR [0,1] e3 ?_ |refine oR [0,1] e4 ?_ |refine iG ?_ |refine iD ?_);simp(implicitDefEqProofs:=false) (maxSteps:=2000000) (disch:=omega) only[go_sem,eT,d2,d3,hy,d4,dm,z1,z3];(repeat' (first |(refine hK _ ?_;clear hK hkp kp K) |(with_reducible refine And.intro ?_ ?_) |omega))) |((first |refine aG (fun h=>?_) (fun h=>?_) |refine aD (fun h=>?_) (fun h=>?_) |refine aX (fun h=>?_) (fun h=>?_))<;>simp only[h]) |refine A0 rfl ?_ |refine A1 rfl ?_ |((refine A4 rfl (fun h=>?_) (fun h=>?_)<;>try simp only[AK] at h)<;>(try (exfalso;omega))) |refine A7 ?_));(refine AB (by(simp(implicitDefEqProofs:=false) (maxSteps:=2000000) (disch:=omega) only[go_sem,results50,eV,str]);rfl) ?_;refine(AC hE [0,1] rfl ?_ ?_).s<;>simp[AI,AH,lk,ren,renL,A9,AG,eV,str])
theorem L7 (G:List (Nat×List Value))(l:List TK0)(p:Nat)(q:List OP)(hk: ∀t ∈ l,TokOk t)(hl:l.length≤100)(hp:p≤100):Con prog G 50 [.p 0 0 0] (BR l p q) 2
  (PQ (Bj l p) Cy (fun _ p=>BR l p q) 2) (PP (Bj l p) 2):=by
 by_cases h:AP l p 1 Ah=true∨AP l p 1 BW=true∨AP l p 1 BD=true
 ·exact Om G l p q hl hp h
 simp only[not_or,Bool.not_eq_true] at h;obtain⟨h1,h2,h3⟩:=h
 cases ht:CS l p with
 |some s=>
  obtain⟨x,hx,hx3⟩: ∃x,l[p]?=some x∧x.k=3:=by
   unfold CS at ht;split at ht
   ·rename_i t hx;split at ht
    ·exact⟨t,hx,by assumption⟩
    ·cases ht
   ·cases ht
  exact On G l p q x hx hl hp h1 h2 h3 hx3
 |none=>
  cases hm:AP l p 4 B7
  ·exact Pu G l p q hk hl hp h1 h2 h3 ht hm
  ·exact NY G l p q hk hl hp h1 h2 h3 ht hm
end Go.AM
namespace Go.AM
open Go Go.RowKit
open Go.Proofs.YtmgddlckgpfccaaDoor (OP Ac AY AR str)
attribute [local irreducible] AWP BS
theorem LT {n:Nat}{AQ:AExit→AS→Prop}{st:AS}(h:AQ .normal st):Gn n AQ .normal st:=h
def Df (G:List (Nat×List Value))(l:List TK0)(fn f n:Nat):Prop:= ∀(p:Nat)(q0:List OP)(x:PR (List OP)),Cr l f n p q0.length []=some x→p≤l.length→q0.length≤40→
 Con prog G fn [.p 0 0 0] (BR l p q0) 2 (PQ x (fun _ _=> .tup []) (fun r p=>[(0,Bq l p 2 (q0++r).length),(2,B4 (q0++r))]) 3) (PP x 2)
theorem HY {l:List TK0}{f n p c:Nat}{r:List OP}(h:n<6)(h2:n≠2)(h3:n≠3):Cr l (f+1) n p c r=match Cr l f (n+1) p c [] with
 |some (.ok q p)=>Cr l f (n+7) p c q
 |x=>x:=by rw[Cr,if_neg (by omega),if_neg h2,if_neg h3,if_pos h];rfl
theorem G9 {l:List TK0}{f n p c:Nat}{r:List OP}:Cr l (f+1) (n+7) p c r=match Er l n p with
 |none=>some (.ok r p)
 |some k=>(match Cr l f (n+1) (p+1) (c+r.length) [] with
  |some (.ok q p)=>(match C3 l p c (r++q) (Ay k) with
   | .ok r' p=>Cr l f (n+7) p c r'
   | .bad e p=>some (.bad e p))
  |x=>x):=by rw[Cr,if_neg (by omega),if_neg (by omega),if_neg (by omega),if_neg (by omega),Nat.add_sub_cancel];rfl
theorem CQ {l:List TK0}{f n p c:Nat}{r:List OP}{x:PR (List OP)}(h:Cr l f n p c r=some x)(hp:p≤l.length)(hn:n≤13)(hr:7≤n→c+r.length≤40)(hc:c≤40):Tw l n p c x:=(HV l f n p c r x h hp hn hr hc).1
set_option maxHeartbeats 8000000 in
theorem Jv {G:List (Nat×List Value)}{l:List TK0}(hl:l.length≤100)(F:Nat)(IH: ∀g,g≤F→Df G l 70 g 6):Df G l 68 (F+1) 5:=by
 intro p q0 x hx hp hq;rw[HY (by omega) (by omega) (by omega)] at hx
 cases hy:Cr l F 6 p q0.length [] with
 |none=>rw[hy] at hx;cases hx
 |some y=>
  rw[hy] at hx;have b0:=CQ hy hp (by omega) (fun h=>by omega) hq;have c0:=IH F (Nat.le_refl _) p q0 y hy hp hq
  cases y with
  |bad e p1=>
   cases hx;refine Con.of_bad rfl ?_;have c0:=c0.bad rfl;unfold BR Bq B4 at c0 ⊢;refine A8 func68 rfl (by kernel_rfl) (of_decide_eq_true (by kernel_rfl)) ?_;intro E hG hE;subst hG;simp only[Ai];(repeat' (first |refine A6 ?_ |refine A2 ?_ |refine A3 ?_ |refine A5 ?_ |((first |refine rR (fun K kp hK hkp=>?_) |refine iG ?_);simp(implicitDefEqProofs:=false) (maxSteps:=2000000) (disch:=omega) only[go_sem];(repeat' (first |(refine hK _ ?_;clear hK hkp kp K) |(with_reducible refine And.intro ?_ ?_) |omega))) |refine oP [0,1] c0 ?_ |((first |refine aG (fun h=>?_) (fun h=>?_) |refine aD (fun h=>?_) (fun h=>?_) |refine aX (fun h=>?_) (fun h=>?_))<;>simp only[h]) |refine A0 rfl ?_ |refine A1 rfl ?_ |((refine A4 rfl (fun h=>?_) (fun h=>?_)<;>try simp only[AK] at h)<;>(try (exfalso;omega))) |refine A7 ?_));(refine hkp _ _ ?_;clear hkp hK kp K;refine AD ?_;refine AC hE [0,1] rfl ?_ ?_<;>simp[AH,lk,ren,renL,A9,AG,Aa])
  |ok q1 p1=>
   have c0:=c0.ok rfl;(try dsimp only at c0);obtain⟨b1,_,_,b2⟩:=b0 q1 p1 rfl;dsimp only at hx;obtain⟨t1,ht1⟩: ∃t1,t1=q0++q1:=⟨_,rfl⟩;rw[←ht1] at c0;unfold BR Bq B4 at c0 ⊢;refine A8 func68 rfl (by kernel_rfl) (of_decide_eq_true (by kernel_rfl)) ?_;intro E hG hE;subst hG;simp only[Ai];(repeat' (first |refine A6 ?_ |refine A2 ?_ |refine A3 ?_ |refine A5 ?_ |((first |refine rR (fun K kp hK hkp=>?_) |refine oR [0,1] c0 ?_ |refine iG ?_);simp(implicitDefEqProofs:=false) (maxSteps:=2000000) (disch:=omega) only[go_sem];(repeat' (first |(refine hK _ ?_;clear hK hkp kp K) |(with_reducible refine And.intro ?_ ?_) |omega))) |((first |refine aG (fun h=>?_) (fun h=>?_) |refine aD (fun h=>?_) (fun h=>?_) |refine aX (fun h=>?_) (fun h=>?_))<;>simp only[h]) |refine A0 rfl ?_ |refine A1 rfl ?_ |((refine A4 rfl (fun h=>?_) (fun h=>?_)<;>try simp only[AK] at h)<;>(try (exfalso;omega))) |refine A7 ?_));refine Ap (fun z:Nat×Nat×List OP=>⟨[(0,.p 0 0 0)],[(0,.box 43 [.ro true 3 (l.map eT),.r (.int .i64 z.2.1),.s 2 0 z.2.2.length]),(2,.lst 73 5 (z.2.2.map eO))],3⟩) (fun z=>z.1≤F∧z.2.1≤l.length∧ ∃r,z.2.2=q0++r∧Cr l z.1 (5+7) z.2.1 q0.length r=some x∧q0.length+r.length≤40) (fun z=>z.1) (F,p1,t1) ?_ ?_ ?_
   ·exact⟨Nat.le_refl _,b1,q1,ht1,hx,b2⟩
   ·(refine Am hE [0,1,2] rfl ?_ ?_<;>simp[Bi,AH,lk,ren,renL,A9,AG]<;>(try omega))
   clear c0 hx hy b0 ht1;rintro⟨g,p2,t⟩ ⟨h1,h3,r,ht,h2,h4⟩;dsimp only at h1 h2 h3 h4 ht ⊢
   have hlr:t.length=q0.length+r.length:=by rw[ht];exact List.length_append
   cases g with
   |zero=>cases h2
   |succ g=>
   rw[G9] at h2
   cases ho:Er l 5 p2 with
   |none=>
    rw[ho] at h2;cases h2;change (if AP l p2 4 BQ=true then some (10:Int) else none)=none at ho
    have hon0:AP l p2 4 BQ=false:=by
     cases h9:AP l p2 4 BQ
     ·rfl
     ·rw[if_pos h9] at ho;cases ho
    have ec0:=CT E.G l p2 t 4 BQ hl (by omega) hon0;simp only[BQ,str] at ec0;unfold BR Bq B4 at ec0;(repeat' (first |refine A6 ?_ |refine A2 ?_ |refine A3 ?_ |refine A5 ?_ |((first |refine rR (fun K kp hK hkp=>?_) |refine oR [0,2] ec0 ?_ |refine iG ?_);simp(implicitDefEqProofs:=false) (maxSteps:=2000000) (disch:=omega) only[go_sem];(repeat' (first |(refine hK _ ?_;clear hK hkp kp K) |(with_reducible refine And.intro ?_ ?_) |omega))) |((first |refine aG (fun h=>?_) (fun h=>?_) |refine aD (fun h=>?_) (fun h=>?_) |refine aX (fun h=>?_) (fun h=>?_))<;>simp only[h]) |refine A0 rfl ?_ |refine A1 rfl ?_ |((refine A4 rfl (fun h=>?_) (fun h=>?_)<;>try simp only[AK] at h)<;>(try (exfalso;omega))) |refine A7 ?_));refine Bg ?_;rw[←ht];(refine BM ?_;(refine AB (by(simp(implicitDefEqProofs:=false) (maxSteps:=2000000) (disch:=omega) only[go_sem,results68]);rfl) ?_;refine(AC hE [0,1,2] rfl ?_ ?_).s<;>simp[AI,AH,lk,ren,renL,A9,AG]))
   |some k=>
    obtain⟨hlt,_⟩:=Cc ho;rw[ho] at h2;dsimp only at h2;change (if AP l p2 4 BQ=true then some (10:Int) else none)=some k at ho;cases hon0:AP l p2 4 BQ
    ·rw[if_neg (by rw[hon0];decide)] at ho
     cases ho
    ·rw[if_pos hon0] at ho
     cases ho;have ec0:=DX E.G l p2 t 4 BQ hl (by omega) hon0;simp only[BQ,str] at ec0;unfold BR Bq B4 at ec0
     cases hz:Cr l g 6 (p2+1) (q0.length+r.length) [] with
     |none=>rw[hz] at h2;cases h2
     |some z=>
      rw[hz] at h2;have b3:=CQ hz hlt (by omega) (fun h=>by omega) h4;have c1:=IH g (by omega) (p2+1) t z (by rw[hlr];exact hz) hlt (by omega)
      cases z with
      |bad e p3=>
       cases h2;have c1:=c1.bad rfl;unfold BR Bq B4 at c1;(repeat' (first |refine A6 ?_ |refine A2 ?_ |refine A3 ?_ |refine A5 ?_ |((first |refine rR (fun K kp hK hkp=>?_) |refine oR [0,2] ec0 ?_ |refine iG ?_);simp(implicitDefEqProofs:=false) (maxSteps:=2000000) (disch:=omega) only[go_sem];(repeat' (first |(refine hK _ ?_;clear hK hkp kp K) |(with_reducible refine And.intro ?_ ?_) |omega))) |refine oP [0,2] c1 ?_ |((first |refine aG (fun h=>?_) (fun h=>?_) |refine aD (fun h=>?_) (fun h=>?_) |refine aX (fun h=>?_) (fun h=>?_))<;>simp only[h]) |refine A0 rfl ?_ |refine A1 rfl ?_ |((refine A4 rfl (fun h=>?_) (fun h=>?_)<;>try simp only[AK] at h)<;>(try (exfalso;omega))) |refine A7 ?_));(refine hkp _ _ ?_;clear hkp hK kp K;refine AO (AD ?_);refine AC hE [0,1] rfl ?_ ?_<;>simp[AH,lk,ren,renL,A9,AG,Aa])
      |ok q2 p3=>
       have c1:=c1.ok rfl;(try dsimp only at c1);obtain⟨b4,b5,_,b6⟩:=b3 q2 p3 rfl;have b5:=b5 (by omega);dsimp only at h2;obtain⟨z2,e2⟩: ∃z2,z2=t++q2:=⟨_,rfl⟩
       have e3:q0++(r++q2)=z2:=by rw[e2,ht,List.append_assoc]
       have pc:=Ca E.G l p3 q0 (r++q2) (Ay 10) hl (by omega) (by omega) (by rw[List.length_append];omega);have ea:eO (Ay 10)=[.r (.int .i64 10),.r (.int .i64 0),.r (.int .i64 0),.r (.string ⟨#[]⟩),.r (.string ⟨#[]⟩)]:=rfl;rw[←e2] at c1;rw[e3,ea] at pc
       cases hput:C3 l p3 q0.length (r++q2) (Ay 10) with
       |bad e p4=>
        rw[hput] at h2 pc;cases h2;have pc:=pc.bad rfl;unfold BR Bq B4 at c1 pc;(repeat' (first |refine A6 ?_ |refine A2 ?_ |refine A3 ?_ |refine A5 ?_ |((first |refine rR (fun K kp hK hkp=>?_) |refine oR [0,2] ec0 ?_ |refine oR [0,2] c1 ?_ |refine iG ?_);simp(implicitDefEqProofs:=false) (maxSteps:=2000000) (disch:=omega) only[go_sem];(repeat' (first |(refine hK _ ?_;clear hK hkp kp K) |(with_reducible refine And.intro ?_ ?_) |omega))) |refine oP [0,3] pc ?_ |((first |refine aG (fun h=>?_) (fun h=>?_) |refine aD (fun h=>?_) (fun h=>?_) |refine aX (fun h=>?_) (fun h=>?_))<;>simp only[h]) |refine A0 rfl ?_ |refine A1 rfl ?_ |((refine A4 rfl (fun h=>?_) (fun h=>?_)<;>try simp only[AK] at h)<;>(try (exfalso;omega))) |refine A7 ?_));(refine hkp _ _ ?_;clear hkp hK kp K;refine AO (AD ?_);refine AC hE [0,1] rfl ?_ ?_<;>simp[AH,lk,ren,renL,A9,AG,Aa])
       |ok r' p4=>
        obtain⟨hr',rfl,h5⟩:=BV hput;rw[hput] at h2 pc;have pc:=pc.ok rfl;(try dsimp only at pc);dsimp only at h2;obtain⟨z3,e4⟩: ∃z3,z3=q0++r':=⟨_,rfl⟩;rw[←e4] at pc;unfold BR Bq B4 at c1 pc;(repeat' (first |refine A6 ?_ |refine A2 ?_ |refine A3 ?_ |refine A5 ?_ |((first |refine rR (fun K kp hK hkp=>?_) |refine oR [0,2] ec0 ?_ |refine oR [0,2] c1 ?_ |refine oR [0,3] pc ?_ |refine iG ?_);simp(implicitDefEqProofs:=false) (maxSteps:=2000000) (disch:=omega) only[go_sem];(repeat' (first |(refine hK _ ?_;clear hK hkp kp K) |(with_reducible refine And.intro ?_ ?_) |omega))) |((first |refine aG (fun h=>?_) (fun h=>?_) |refine aD (fun h=>?_) (fun h=>?_) |refine aX (fun h=>?_) (fun h=>?_))<;>simp only[h]) |refine A0 rfl ?_ |refine A1 rfl ?_ |((refine A4 rfl (fun h=>?_) (fun h=>?_)<;>try simp only[AK] at h)<;>(try (exfalso;omega))) |refine A7 ?_))
        ((first |(refine Ba ((g,p4,z3)) ?_ ?_ ?_) |(refine BT ((g,p4,z3)) ?_ ?_ ?_) |(refine nextE ((g,p4,z3)) ?_ ?_ ?_));rotate_left;(·(try dsimp only);(first |omega |(simp only[List.length_drop,List.length_cons,List.length_append];omega) |(simp;done) |(simp;omega)));(·(refine Am hE [0,1,4] rfl ?_ ?_<;>simp[Bi,AH,lk,ren,renL,A9,AG]<;>(try omega))))
        refine⟨by omega,b4,r',e4,h2,?_⟩;rw[hr'];simp only[List.length_append,List.length_cons,List.length_nil] at h5 ⊢;omega
set_option maxHeartbeats 8000000 in
theorem PM {G:List (Nat×List Value)}{l:List TK0}(hl:l.length≤100)(F:Nat)(IH: ∀g,g≤F→Df G l 64 g 2):Df G l 57 (F+1) 1:=by
 intro p q0 x hx hp hq;rw[HY (by omega) (by omega) (by omega)] at hx
 cases hy:Cr l F 2 p q0.length [] with
 |none=>rw[hy] at hx;cases hx
 |some y=>
  rw[hy] at hx;have b0:=CQ hy hp (by omega) (fun h=>by omega) hq;have c0:=IH F (Nat.le_refl _) p q0 y hy hp hq
  cases y with
  |bad e p1=>
   cases hx;refine Con.of_bad rfl ?_;have c0:=c0.bad rfl;unfold BR Bq B4 at c0 ⊢;refine A8 func57 rfl (by kernel_rfl) (of_decide_eq_true (by kernel_rfl)) ?_;intro E hG hE;subst hG;simp only[Ai];(repeat' (first |refine A6 ?_ |refine A2 ?_ |refine A3 ?_ |refine A5 ?_ |((first |refine rR (fun K kp hK hkp=>?_) |refine iG ?_);simp(implicitDefEqProofs:=false) (maxSteps:=2000000) (disch:=omega) only[go_sem];(repeat' (first |(refine hK _ ?_;clear hK hkp kp K) |(with_reducible refine And.intro ?_ ?_) |omega))) |refine oP [0,1] c0 ?_ |((first |refine aG (fun h=>?_) (fun h=>?_) |refine aD (fun h=>?_) (fun h=>?_) |refine aX (fun h=>?_) (fun h=>?_))<;>simp only[h]) |refine A0 rfl ?_ |refine A1 rfl ?_ |((refine A4 rfl (fun h=>?_) (fun h=>?_)<;>try simp only[AK] at h)<;>(try (exfalso;omega))) |refine A7 ?_));(refine hkp _ _ ?_;clear hkp hK kp K;refine AD ?_;refine AC hE [0,1] rfl ?_ ?_<;>simp[AH,lk,ren,renL,A9,AG,Aa])
  |ok q1 p1=>
   have c0:=c0.ok rfl;(try dsimp only at c0);obtain⟨b1,_,_,b2⟩:=b0 q1 p1 rfl;dsimp only at hx;obtain⟨t1,ht1⟩: ∃t1,t1=q0++q1:=⟨_,rfl⟩;rw[←ht1] at c0;unfold BR Bq B4 at c0 ⊢;refine A8 func57 rfl (by kernel_rfl) (of_decide_eq_true (by kernel_rfl)) ?_;intro E hG hE;subst hG;simp only[Ai];(repeat' (first |refine A6 ?_ |refine A2 ?_ |refine A3 ?_ |refine A5 ?_ |((first |refine rR (fun K kp hK hkp=>?_) |refine oR [0,1] c0 ?_ |refine iG ?_);simp(implicitDefEqProofs:=false) (maxSteps:=2000000) (disch:=omega) only[go_sem];(repeat' (first |(refine hK _ ?_;clear hK hkp kp K) |(with_reducible refine And.intro ?_ ?_) |omega))) |((first |refine aG (fun h=>?_) (fun h=>?_) |refine aD (fun h=>?_) (fun h=>?_) |refine aX (fun h=>?_) (fun h=>?_))<;>simp only[h]) |refine A0 rfl ?_ |refine A1 rfl ?_ |((refine A4 rfl (fun h=>?_) (fun h=>?_)<;>try simp only[AK] at h)<;>(try (exfalso;omega))) |refine A7 ?_));refine Ap (fun z:Nat×Nat×List OP=>⟨[(0,.p 0 0 0)],[(0,.box 43 [.ro true 3 (l.map eT),.r (.int .i64 z.2.1),.s 2 0 z.2.2.length]),(2,.lst 73 5 (z.2.2.map eO))],3⟩) (fun z=>z.1≤F∧z.2.1≤l.length∧ ∃r,z.2.2=q0++r∧Cr l z.1 (1+7) z.2.1 q0.length r=some x∧q0.length+r.length≤40) (fun z=>z.1) (F,p1,t1) ?_ ?_ ?_
   ·exact⟨Nat.le_refl _,b1,q1,ht1,hx,b2⟩
   ·(refine Am hE [0,1,2] rfl ?_ ?_<;>simp[Bi,AH,lk,ren,renL,A9,AG]<;>(try omega))
   clear c0 hx hy b0 ht1;rintro⟨g,p2,t⟩ ⟨h1,h3,r,ht,h2,h4⟩;dsimp only at h1 h2 h3 h4 ht ⊢
   have hlr:t.length=q0.length+r.length:=by rw[ht];exact List.length_append
   cases g with
   |zero=>cases h2
   |succ g=>
   rw[G9] at h2
   cases ho:Er l 1 p2 with
   |none=>
    rw[ho] at h2;cases h2;change (if AP l p2 1 FT=true then some (3:Int) else none)=none at ho
    have hon0:AP l p2 1 FT=false:=by
     cases h9:AP l p2 1 FT
     ·rfl
     ·rw[if_pos h9] at ho;cases ho
    have ec0:=CT E.G l p2 t 1 FT hl (by omega) hon0;simp only[FT,str] at ec0;unfold BR Bq B4 at ec0;(repeat' (first |refine A6 ?_ |refine A2 ?_ |refine A3 ?_ |refine A5 ?_ |((first |refine rR (fun K kp hK hkp=>?_) |refine oR [0,2] ec0 ?_ |refine iG ?_);simp(implicitDefEqProofs:=false) (maxSteps:=2000000) (disch:=omega) only[go_sem];(repeat' (first |(refine hK _ ?_;clear hK hkp kp K) |(with_reducible refine And.intro ?_ ?_) |omega))) |((first |refine aG (fun h=>?_) (fun h=>?_) |refine aD (fun h=>?_) (fun h=>?_) |refine aX (fun h=>?_) (fun h=>?_))<;>simp only[h]) |refine A0 rfl ?_ |refine A1 rfl ?_ |((refine A4 rfl (fun h=>?_) (fun h=>?_)<;>try simp only[AK] at h)<;>(try (exfalso;omega))) |refine A7 ?_));refine Bg ?_;rw[←ht];(refine BM ?_;(refine AB (by(simp(implicitDefEqProofs:=false) (maxSteps:=2000000) (disch:=omega) only[go_sem,results57]);rfl) ?_;refine(AC hE [0,1,2] rfl ?_ ?_).s<;>simp[AI,AH,lk,ren,renL,A9,AG]))
   |some k=>
    obtain⟨hlt,_⟩:=Cc ho;rw[ho] at h2;dsimp only at h2;change (if AP l p2 1 FT=true then some (3:Int) else none)=some k at ho;cases hon0:AP l p2 1 FT
    ·rw[if_neg (by rw[hon0];decide)] at ho
     cases ho
    ·rw[if_pos hon0] at ho
     cases ho;have ec0:=DX E.G l p2 t 1 FT hl (by omega) hon0;simp only[FT,str] at ec0;unfold BR Bq B4 at ec0
     cases hz:Cr l g 2 (p2+1) (q0.length+r.length) [] with
     |none=>rw[hz] at h2;cases h2
     |some z=>
      rw[hz] at h2;have b3:=CQ hz hlt (by omega) (fun h=>by omega) h4;have c1:=IH g (by omega) (p2+1) t z (by rw[hlr];exact hz) hlt (by omega)
      cases z with
      |bad e p3=>
       cases h2;have c1:=c1.bad rfl;unfold BR Bq B4 at c1;(repeat' (first |refine A6 ?_ |refine A2 ?_ |refine A3 ?_ |refine A5 ?_ |((first |refine rR (fun K kp hK hkp=>?_) |refine oR [0,2] ec0 ?_ |refine iG ?_);simp(implicitDefEqProofs:=false) (maxSteps:=2000000) (disch:=omega) only[go_sem];(repeat' (first |(refine hK _ ?_;clear hK hkp kp K) |(with_reducible refine And.intro ?_ ?_) |omega))) |refine oP [0,2] c1 ?_ |((first |refine aG (fun h=>?_) (fun h=>?_) |refine aD (fun h=>?_) (fun h=>?_) |refine aX (fun h=>?_) (fun h=>?_))<;>simp only[h]) |refine A0 rfl ?_ |refine A1 rfl ?_ |((refine A4 rfl (fun h=>?_) (fun h=>?_)<;>try simp only[AK] at h)<;>(try (exfalso;omega))) |refine A7 ?_));(refine hkp _ _ ?_;clear hkp hK kp K;refine AO (AD ?_);refine AC hE [0,1] rfl ?_ ?_<;>simp[AH,lk,ren,renL,A9,AG,Aa])
      |ok q2 p3=>
       have c1:=c1.ok rfl;(try dsimp only at c1);obtain⟨b4,b5,_,b6⟩:=b3 q2 p3 rfl;have b5:=b5 (by omega);dsimp only at h2;obtain⟨z2,e2⟩: ∃z2,z2=t++q2:=⟨_,rfl⟩
       have e3:q0++(r++q2)=z2:=by rw[e2,ht,List.append_assoc]
       have pc:=Ca E.G l p3 q0 (r++q2) (Ay 3) hl (by omega) (by omega) (by rw[List.length_append];omega);have ea:eO (Ay 3)=[.r (.int .i64 3),.r (.int .i64 0),.r (.int .i64 0),.r (.string ⟨#[]⟩),.r (.string ⟨#[]⟩)]:=rfl;rw[←e2] at c1;rw[e3,ea] at pc
       cases hput:C3 l p3 q0.length (r++q2) (Ay 3) with
       |bad e p4=>
        rw[hput] at h2 pc;cases h2;have pc:=pc.bad rfl;unfold BR Bq B4 at c1 pc;(repeat' (first |refine A6 ?_ |refine A2 ?_ |refine A3 ?_ |refine A5 ?_ |((first |refine rR (fun K kp hK hkp=>?_) |refine oR [0,2] ec0 ?_ |refine oR [0,2] c1 ?_ |refine iG ?_);simp(implicitDefEqProofs:=false) (maxSteps:=2000000) (disch:=omega) only[go_sem];(repeat' (first |(refine hK _ ?_;clear hK hkp kp K) |(with_reducible refine And.intro ?_ ?_) |omega))) |refine oP [0,3] pc ?_ |((first |refine aG (fun h=>?_) (fun h=>?_) |refine aD (fun h=>?_) (fun h=>?_) |refine aX (fun h=>?_) (fun h=>?_))<;>simp only[h]) |refine A0 rfl ?_ |refine A1 rfl ?_ |((refine A4 rfl (fun h=>?_) (fun h=>?_)<;>try simp only[AK] at h)<;>(try (exfalso;omega))) |refine A7 ?_));(refine hkp _ _ ?_;clear hkp hK kp K;refine AO (AD ?_);refine AC hE [0,1] rfl ?_ ?_<;>simp[AH,lk,ren,renL,A9,AG,Aa])
       |ok r' p4=>
        obtain⟨hr',rfl,h5⟩:=BV hput;rw[hput] at h2 pc;have pc:=pc.ok rfl;(try dsimp only at pc);dsimp only at h2;obtain⟨z3,e4⟩: ∃z3,z3=q0++r':=⟨_,rfl⟩;rw[←e4] at pc;unfold BR Bq B4 at c1 pc;(repeat' (first |refine A6 ?_ |refine A2 ?_ |refine A3 ?_ |refine A5 ?_ |((first |refine rR (fun K kp hK hkp=>?_) |refine oR [0,2] ec0 ?_ |refine oR [0,2] c1 ?_ |refine oR [0,3] pc ?_ |refine iG ?_);simp(implicitDefEqProofs:=false) (maxSteps:=2000000) (disch:=omega) only[go_sem];(repeat' (first |(refine hK _ ?_;clear hK hkp kp K) |(with_reducible refine And.intro ?_ ?_) |omega))) |((first |refine aG (fun h=>?_) (fun h=>?_) |refine aD (fun h=>?_) (fun h=>?_) |refine aX (fun h=>?_) (fun h=>?_))<;>simp only[h]) |refine A0 rfl ?_ |refine A1 rfl ?_ |((refine A4 rfl (fun h=>?_) (fun h=>?_)<;>try simp only[AK] at h)<;>(try (exfalso;omega))) |refine A7 ?_))
        ((first |(refine Ba ((g,p4,z3)) ?_ ?_ ?_) |(refine BT ((g,p4,z3)) ?_ ?_ ?_) |(refine nextE ((g,p4,z3)) ?_ ?_ ?_));rotate_left;(·(try dsimp only);(first |omega |(simp only[List.length_drop,List.length_cons,List.length_append];omega) |(simp;done) |(simp;omega)));(·(refine Am hE [0,1,4] rfl ?_ ?_<;>simp[Bi,AH,lk,ren,renL,A9,AG]<;>(try omega))))
        refine⟨by omega,b4,r',e4,h2,?_⟩;rw[hr'];simp only[List.length_append,List.length_cons,List.length_nil] at h5 ⊢;omega
set_option maxHeartbeats 8000000 in
theorem Pl {G:List (Nat×List Value)}{l:List TK0}(hl:l.length≤100)(F:Nat)(IH: ∀g,g≤F→Df G l 57 g 1):Df G l 51 (F+1) 0:=by
 intro p q0 x hx hp hq;rw[HY (by omega) (by omega) (by omega)] at hx
 cases hy:Cr l F 1 p q0.length [] with
 |none=>rw[hy] at hx;cases hx
 |some y=>
  rw[hy] at hx;have b0:=CQ hy hp (by omega) (fun h=>by omega) hq;have c0:=IH F (Nat.le_refl _) p q0 y hy hp hq
  cases y with
  |bad e p1=>
   cases hx;refine Con.of_bad rfl ?_;have c0:=c0.bad rfl;unfold BR Bq B4 at c0 ⊢;refine A8 func51 rfl (by kernel_rfl) (of_decide_eq_true (by kernel_rfl)) ?_;intro E hG hE;subst hG;simp only[Ai];(repeat' (first |refine A6 ?_ |refine A2 ?_ |refine A3 ?_ |refine A5 ?_ |((first |refine rR (fun K kp hK hkp=>?_) |refine iG ?_);simp(implicitDefEqProofs:=false) (maxSteps:=2000000) (disch:=omega) only[go_sem];(repeat' (first |(refine hK _ ?_;clear hK hkp kp K) |(with_reducible refine And.intro ?_ ?_) |omega))) |refine oP [0,1] c0 ?_ |((first |refine aG (fun h=>?_) (fun h=>?_) |refine aD (fun h=>?_) (fun h=>?_) |refine aX (fun h=>?_) (fun h=>?_))<;>simp only[h]) |refine A0 rfl ?_ |refine A1 rfl ?_ |((refine A4 rfl (fun h=>?_) (fun h=>?_)<;>try simp only[AK] at h)<;>(try (exfalso;omega))) |refine A7 ?_));(refine hkp _ _ ?_;clear hkp hK kp K;refine AD ?_;refine AC hE [0,1] rfl ?_ ?_<;>simp[AH,lk,ren,renL,A9,AG,Aa])
  |ok q1 p1=>
   have c0:=c0.ok rfl;(try dsimp only at c0);obtain⟨b1,_,_,b2⟩:=b0 q1 p1 rfl;dsimp only at hx;obtain⟨t1,ht1⟩: ∃t1,t1=q0++q1:=⟨_,rfl⟩;rw[←ht1] at c0;unfold BR Bq B4 at c0 ⊢;refine A8 func51 rfl (by kernel_rfl) (of_decide_eq_true (by kernel_rfl)) ?_;intro E hG hE;subst hG;simp only[Ai];(repeat' (first |refine A6 ?_ |refine A2 ?_ |refine A3 ?_ |refine A5 ?_ |((first |refine rR (fun K kp hK hkp=>?_) |refine oR [0,1] c0 ?_ |refine iG ?_);simp(implicitDefEqProofs:=false) (maxSteps:=2000000) (disch:=omega) only[go_sem];(repeat' (first |(refine hK _ ?_;clear hK hkp kp K) |(with_reducible refine And.intro ?_ ?_) |omega))) |((first |refine aG (fun h=>?_) (fun h=>?_) |refine aD (fun h=>?_) (fun h=>?_) |refine aX (fun h=>?_) (fun h=>?_))<;>simp only[h]) |refine A0 rfl ?_ |refine A1 rfl ?_ |((refine A4 rfl (fun h=>?_) (fun h=>?_)<;>try simp only[AK] at h)<;>(try (exfalso;omega))) |refine A7 ?_));refine Ap (fun z:Nat×Nat×List OP=>⟨[(0,.p 0 0 0)],[(0,.box 43 [.ro true 3 (l.map eT),.r (.int .i64 z.2.1),.s 2 0 z.2.2.length]),(2,.lst 73 5 (z.2.2.map eO))],3⟩) (fun z=>z.1≤F∧z.2.1≤l.length∧ ∃r,z.2.2=q0++r∧Cr l z.1 (0+7) z.2.1 q0.length r=some x∧q0.length+r.length≤40) (fun z=>z.1) (F,p1,t1) ?_ ?_ ?_
   ·exact⟨Nat.le_refl _,b1,q1,ht1,hx,b2⟩
   ·(refine Am hE [0,1,2] rfl ?_ ?_<;>simp[Bi,AH,lk,ren,renL,A9,AG]<;>(try omega))
   clear c0 hx hy b0 ht1;rintro⟨g,p2,t⟩ ⟨h1,h3,r,ht,h2,h4⟩;dsimp only at h1 h2 h3 h4 ht ⊢
   have hlr:t.length=q0.length+r.length:=by rw[ht];exact List.length_append
   cases g with
   |zero=>cases h2
   |succ g=>
   rw[G9] at h2
   cases ho:Er l 0 p2 with
   |none=>
    rw[ho] at h2;cases h2;change (if AP l p2 1 LX=true then some (4:Int) else none)=none at ho
    have hon0:AP l p2 1 LX=false:=by
     cases h9:AP l p2 1 LX
     ·rfl
     ·rw[if_pos h9] at ho;cases ho
    have ec0:=CT E.G l p2 t 1 LX hl (by omega) hon0;simp only[LX,str] at ec0;unfold BR Bq B4 at ec0;(repeat' (first |refine A6 ?_ |refine A2 ?_ |refine A3 ?_ |refine A5 ?_ |((first |refine rR (fun K kp hK hkp=>?_) |refine oR [0,2] ec0 ?_ |refine iG ?_);simp(implicitDefEqProofs:=false) (maxSteps:=2000000) (disch:=omega) only[go_sem];(repeat' (first |(refine hK _ ?_;clear hK hkp kp K) |(with_reducible refine And.intro ?_ ?_) |omega))) |((first |refine aG (fun h=>?_) (fun h=>?_) |refine aD (fun h=>?_) (fun h=>?_) |refine aX (fun h=>?_) (fun h=>?_))<;>simp only[h]) |refine A0 rfl ?_ |refine A1 rfl ?_ |((refine A4 rfl (fun h=>?_) (fun h=>?_)<;>try simp only[AK] at h)<;>(try (exfalso;omega))) |refine A7 ?_));refine Bg ?_;rw[←ht];(refine BM ?_;(refine AB (by(simp(implicitDefEqProofs:=false) (maxSteps:=2000000) (disch:=omega) only[go_sem,results51]);rfl) ?_;refine(AC hE [0,1,2] rfl ?_ ?_).s<;>simp[AI,AH,lk,ren,renL,A9,AG]))
   |some k=>
    obtain⟨hlt,_⟩:=Cc ho;rw[ho] at h2;dsimp only at h2;change (if AP l p2 1 LX=true then some (4:Int) else none)=some k at ho;cases hon0:AP l p2 1 LX
    ·rw[if_neg (by rw[hon0];decide)] at ho
     cases ho
    ·rw[if_pos hon0] at ho
     cases ho;have ec0:=DX E.G l p2 t 1 LX hl (by omega) hon0;simp only[LX,str] at ec0;unfold BR Bq B4 at ec0
     cases hz:Cr l g 1 (p2+1) (q0.length+r.length) [] with
     |none=>rw[hz] at h2;cases h2
     |some z=>
      rw[hz] at h2;have b3:=CQ hz hlt (by omega) (fun h=>by omega) h4;have c1:=IH g (by omega) (p2+1) t z (by rw[hlr];exact hz) hlt (by omega)
      cases z with
      |bad e p3=>
       cases h2;have c1:=c1.bad rfl;unfold BR Bq B4 at c1;(repeat' (first |refine A6 ?_ |refine A2 ?_ |refine A3 ?_ |refine A5 ?_ |((first |refine rR (fun K kp hK hkp=>?_) |refine oR [0,2] ec0 ?_ |refine iG ?_);simp(implicitDefEqProofs:=false) (maxSteps:=2000000) (disch:=omega) only[go_sem];(repeat' (first |(refine hK _ ?_;clear hK hkp kp K) |(with_reducible refine And.intro ?_ ?_) |omega))) |refine oP [0,2] c1 ?_ |((first |refine aG (fun h=>?_) (fun h=>?_) |refine aD (fun h=>?_) (fun h=>?_) |refine aX (fun h=>?_) (fun h=>?_))<;>simp only[h]) |refine A0 rfl ?_ |refine A1 rfl ?_ |((refine A4 rfl (fun h=>?_) (fun h=>?_)<;>try simp only[AK] at h)<;>(try (exfalso;omega))) |refine A7 ?_));(refine hkp _ _ ?_;clear hkp hK kp K;refine AO (AD ?_);refine AC hE [0,1] rfl ?_ ?_<;>simp[AH,lk,ren,renL,A9,AG,Aa])
      |ok q2 p3=>
       have c1:=c1.ok rfl;(try dsimp only at c1);obtain⟨b4,b5,_,b6⟩:=b3 q2 p3 rfl;have b5:=b5 (by omega);dsimp only at h2;obtain⟨z2,e2⟩: ∃z2,z2=t++q2:=⟨_,rfl⟩
       have e3:q0++(r++q2)=z2:=by rw[e2,ht,List.append_assoc]
       have pc:=Ca E.G l p3 q0 (r++q2) (Ay 4) hl (by omega) (by omega) (by rw[List.length_append];omega);have ea:eO (Ay 4)=[.r (.int .i64 4),.r (.int .i64 0),.r (.int .i64 0),.r (.string ⟨#[]⟩),.r (.string ⟨#[]⟩)]:=rfl;rw[←e2] at c1;rw[e3,ea] at pc
       cases hput:C3 l p3 q0.length (r++q2) (Ay 4) with
       |bad e p4=>
        rw[hput] at h2 pc;cases h2;have pc:=pc.bad rfl;unfold BR Bq B4 at c1 pc;(repeat' (first |refine A6 ?_ |refine A2 ?_ |refine A3 ?_ |refine A5 ?_ |((first |refine rR (fun K kp hK hkp=>?_) |refine oR [0,2] ec0 ?_ |refine oR [0,2] c1 ?_ |refine iG ?_);simp(implicitDefEqProofs:=false) (maxSteps:=2000000) (disch:=omega) only[go_sem];(repeat' (first |(refine hK _ ?_;clear hK hkp kp K) |(with_reducible refine And.intro ?_ ?_) |omega))) |refine oP [0,3] pc ?_ |((first |refine aG (fun h=>?_) (fun h=>?_) |refine aD (fun h=>?_) (fun h=>?_) |refine aX (fun h=>?_) (fun h=>?_))<;>simp only[h]) |refine A0 rfl ?_ |refine A1 rfl ?_ |((refine A4 rfl (fun h=>?_) (fun h=>?_)<;>try simp only[AK] at h)<;>(try (exfalso;omega))) |refine A7 ?_));(refine hkp _ _ ?_;clear hkp hK kp K;refine AO (AD ?_);refine AC hE [0,1] rfl ?_ ?_<;>simp[AH,lk,ren,renL,A9,AG,Aa])
       |ok r' p4=>
        obtain⟨hr',rfl,h5⟩:=BV hput;rw[hput] at h2 pc;have pc:=pc.ok rfl;(try dsimp only at pc);dsimp only at h2;obtain⟨z3,e4⟩: ∃z3,z3=q0++r':=⟨_,rfl⟩;rw[←e4] at pc;unfold BR Bq B4 at c1 pc;(repeat' (first |refine A6 ?_ |refine A2 ?_ |refine A3 ?_ |refine A5 ?_ |((first |refine rR (fun K kp hK hkp=>?_) |refine oR [0,2] ec0 ?_ |refine oR [0,2] c1 ?_ |refine oR [0,3] pc ?_ |refine iG ?_);simp(implicitDefEqProofs:=false) (maxSteps:=2000000) (disch:=omega) only[go_sem];(repeat' (first |(refine hK _ ?_;clear hK hkp kp K) |(with_reducible refine And.intro ?_ ?_) |omega))) |((first |refine aG (fun h=>?_) (fun h=>?_) |refine aD (fun h=>?_) (fun h=>?_) |refine aX (fun h=>?_) (fun h=>?_))<;>simp only[h]) |refine A0 rfl ?_ |refine A1 rfl ?_ |((refine A4 rfl (fun h=>?_) (fun h=>?_)<;>try simp only[AK] at h)<;>(try (exfalso;omega))) |refine A7 ?_))
        ((first |(refine Ba ((g,p4,z3)) ?_ ?_ ?_) |(refine BT ((g,p4,z3)) ?_ ?_ ?_) |(refine nextE ((g,p4,z3)) ?_ ?_ ?_));rotate_left;(·(try dsimp only);(first |omega |(simp only[List.length_drop,List.length_cons,List.length_append];omega) |(simp;done) |(simp;omega)));(·(refine Am hE [0,1,4] rfl ?_ ?_<;>simp[Bi,AH,lk,ren,renL,A9,AG]<;>(try omega))))
        refine⟨by omega,b4,r',e4,h2,?_⟩;rw[hr'];simp only[List.length_append,List.length_cons,List.length_nil] at h5 ⊢;omega
set_option maxHeartbeats 8000000 in
theorem OG {G:List (Nat×List Value)}{l:List TK0}(hl:l.length≤100)(F:Nat)(IH: ∀g,g≤F→Df G l 68 g 5):Df G l 66 (F+1) 4:=by
 intro p q0 x hx hp hq;rw[HY (by omega) (by omega) (by omega)] at hx
 cases hy:Cr l F 5 p q0.length [] with
 |none=>rw[hy] at hx;cases hx
 |some y=>
  rw[hy] at hx;have b0:=CQ hy hp (by omega) (fun h=>by omega) hq;have c0:=IH F (Nat.le_refl _) p q0 y hy hp hq
  cases y with
  |bad e p1=>
   cases hx;refine Con.of_bad rfl ?_;have c0:=c0.bad rfl;unfold BR Bq B4 at c0 ⊢;refine A8 func66 rfl (by kernel_rfl) (of_decide_eq_true (by kernel_rfl)) ?_;intro E hG hE;subst hG;simp only[Ai];(repeat' (first |refine A6 ?_ |refine A2 ?_ |refine A3 ?_ |refine A5 ?_ |((first |refine rR (fun K kp hK hkp=>?_) |refine iG ?_);simp(implicitDefEqProofs:=false) (maxSteps:=2000000) (disch:=omega) only[go_sem];(repeat' (first |(refine hK _ ?_;clear hK hkp kp K) |(with_reducible refine And.intro ?_ ?_) |omega))) |refine oP [0,1] c0 ?_ |((first |refine aG (fun h=>?_) (fun h=>?_) |refine aD (fun h=>?_) (fun h=>?_) |refine aX (fun h=>?_) (fun h=>?_))<;>simp only[h]) |refine A0 rfl ?_ |refine A1 rfl ?_ |((refine A4 rfl (fun h=>?_) (fun h=>?_)<;>try simp only[AK] at h)<;>(try (exfalso;omega))) |refine A7 ?_));(refine hkp _ _ ?_;clear hkp hK kp K;refine AD ?_;refine AC hE [0,1] rfl ?_ ?_<;>simp[AH,lk,ren,renL,A9,AG,Aa])
  |ok q1 p1=>
   have c0:=c0.ok rfl;(try dsimp only at c0);obtain⟨b1,_,_,b2⟩:=b0 q1 p1 rfl;dsimp only at hx;obtain⟨t1,ht1⟩: ∃t1,t1=q0++q1:=⟨_,rfl⟩;rw[←ht1] at c0;unfold BR Bq B4 at c0 ⊢;refine A8 func66 rfl (by kernel_rfl) (of_decide_eq_true (by kernel_rfl)) ?_;intro E hG hE;subst hG;simp only[Ai];(repeat' (first |refine A6 ?_ |refine A2 ?_ |refine A3 ?_ |refine A5 ?_ |((first |refine rR (fun K kp hK hkp=>?_) |refine oR [0,1] c0 ?_ |refine iG ?_);simp(implicitDefEqProofs:=false) (maxSteps:=2000000) (disch:=omega) only[go_sem];(repeat' (first |(refine hK _ ?_;clear hK hkp kp K) |(with_reducible refine And.intro ?_ ?_) |omega))) |((first |refine aG (fun h=>?_) (fun h=>?_) |refine aD (fun h=>?_) (fun h=>?_) |refine aX (fun h=>?_) (fun h=>?_))<;>simp only[h]) |refine A0 rfl ?_ |refine A1 rfl ?_ |((refine A4 rfl (fun h=>?_) (fun h=>?_)<;>try simp only[AK] at h)<;>(try (exfalso;omega))) |refine A7 ?_));refine Ap (fun z:Nat×Nat×List OP=>⟨[(0,.p 0 0 0)],[(0,.box 43 [.ro true 3 (l.map eT),.r (.int .i64 z.2.1),.s 2 0 z.2.2.length]),(2,.lst 73 5 (z.2.2.map eO))],3⟩) (fun z=>z.1≤F∧z.2.1≤l.length∧ ∃r,z.2.2=q0++r∧Cr l z.1 (4+7) z.2.1 q0.length r=some x∧q0.length+r.length≤40) (fun z=>z.1) (F,p1,t1) ?_ ?_ ?_
   ·exact⟨Nat.le_refl _,b1,q1,ht1,hx,b2⟩
   ·(refine Am hE [0,1,2] rfl ?_ ?_<;>simp[Bi,AH,lk,ren,renL,A9,AG]<;>(try omega))
   clear c0 hx hy b0 ht1;rintro⟨g,p2,t⟩ ⟨h1,h3,r,ht,h2,h4⟩;dsimp only at h1 h2 h3 h4 ht ⊢
   have hlr:t.length=q0.length+r.length:=by rw[ht];exact List.length_append
   cases g with
   |zero=>cases h2
   |succ g=>
   rw[G9] at h2
   cases ho:Er l 4 p2 with
   |none=>
    rw[ho] at h2;cases h2;change (if AP l p2 4 DA=true then some (8:Int) else if AP l p2 4 B7=true then some (9:Int) else none)=none at ho
    have hon0:AP l p2 4 DA=false:=by
     cases h9:AP l p2 4 DA
     ·rfl
     ·rw[if_pos h9] at ho;cases ho
    have ec0:=CT E.G l p2 t 4 DA hl (by omega) hon0;simp only[DA,str] at ec0;unfold BR Bq B4 at ec0
    have hon1:AP l p2 4 B7=false:=by
     cases h9:AP l p2 4 B7
     ·rfl
     ·rw[if_neg (by rw[hon0];decide),if_pos h9] at ho;cases ho
    have ec1:=CT E.G l p2 t 4 B7 hl (by omega) hon1;simp only[B7,str] at ec1;unfold BR Bq B4 at ec1;(repeat' (first |refine A6 ?_ |refine A2 ?_ |refine A3 ?_ |refine A5 ?_ |((first |refine rR (fun K kp hK hkp=>?_) |refine oR [0,2] ec0 ?_ |refine oR [0,2] ec1 ?_ |refine iG ?_);simp(implicitDefEqProofs:=false) (maxSteps:=2000000) (disch:=omega) only[go_sem];(repeat' (first |(refine hK _ ?_;clear hK hkp kp K) |(with_reducible refine And.intro ?_ ?_) |omega))) |((first |refine aG (fun h=>?_) (fun h=>?_) |refine aD (fun h=>?_) (fun h=>?_) |refine aX (fun h=>?_) (fun h=>?_))<;>simp only[h]) |refine A0 rfl ?_ |refine A1 rfl ?_ |((refine A4 rfl (fun h=>?_) (fun h=>?_)<;>try simp only[AK] at h)<;>(try (exfalso;omega))) |refine A7 ?_));refine Bg ?_;rw[←ht];(refine AB (by(simp(implicitDefEqProofs:=false) (maxSteps:=2000000) (disch:=omega) only[go_sem,results66]);rfl) ?_;refine(AC hE [0,1,2] rfl ?_ ?_).s<;>simp[AI,AH,lk,ren,renL,A9,AG])
   |some k=>
    obtain⟨hlt,_⟩:=Cc ho;rw[ho] at h2;dsimp only at h2;change (if AP l p2 4 DA=true then some (8:Int) else if AP l p2 4 B7=true then some (9:Int) else none)=some k at ho;cases hon0:AP l p2 4 DA
    ·rw[if_neg (by rw[hon0];decide)] at ho
     have ec0:=CT E.G l p2 t 4 DA hl (by omega) hon0;simp only[DA,str] at ec0;unfold BR Bq B4 at ec0;cases hon1:AP l p2 4 B7
     ·rw[if_neg (by rw[hon1];decide)] at ho
      cases ho
     ·rw[if_pos hon1] at ho
      cases ho;have ec1:=DX E.G l p2 t 4 B7 hl (by omega) hon1;simp only[B7,str] at ec1;unfold BR Bq B4 at ec1
      cases hz:Cr l g 5 (p2+1) (q0.length+r.length) [] with
      |none=>rw[hz] at h2;cases h2
      |some z=>
       rw[hz] at h2;have b3:=CQ hz hlt (by omega) (fun h=>by omega) h4;have c1:=IH g (by omega) (p2+1) t z (by rw[hlr];exact hz) hlt (by omega)
       cases z with
       |bad e p3=>
        cases h2;have c1:=c1.bad rfl;unfold BR Bq B4 at c1;(repeat' (first |refine A6 ?_ |refine A2 ?_ |refine A3 ?_ |refine A5 ?_ |((first |refine rR (fun K kp hK hkp=>?_) |refine oR [0,2] ec0 ?_ |refine oR [0,2] ec1 ?_ |refine iG ?_);simp(implicitDefEqProofs:=false) (maxSteps:=2000000) (disch:=omega) only[go_sem];(repeat' (first |(refine hK _ ?_;clear hK hkp kp K) |(with_reducible refine And.intro ?_ ?_) |omega))) |refine oP [0,2] c1 ?_ |((first |refine aG (fun h=>?_) (fun h=>?_) |refine aD (fun h=>?_) (fun h=>?_) |refine aX (fun h=>?_) (fun h=>?_))<;>simp only[h]) |refine A0 rfl ?_ |refine A1 rfl ?_ |((refine A4 rfl (fun h=>?_) (fun h=>?_)<;>try simp only[AK] at h)<;>(try (exfalso;omega))) |refine A7 ?_));(refine hkp _ _ ?_;clear hkp hK kp K;refine AO (AD ?_);refine AC hE [0,1] rfl ?_ ?_<;>simp[AH,lk,ren,renL,A9,AG,Aa])
       |ok q2 p3=>
        have c1:=c1.ok rfl;(try dsimp only at c1);obtain⟨b4,b5,_,b6⟩:=b3 q2 p3 rfl;have b5:=b5 (by omega);dsimp only at h2;obtain⟨z2,e2⟩: ∃z2,z2=t++q2:=⟨_,rfl⟩
        have e3:q0++(r++q2)=z2:=by rw[e2,ht,List.append_assoc]
        have pc:=Ca E.G l p3 q0 (r++q2) (Ay 9) hl (by omega) (by omega) (by rw[List.length_append];omega);have ea:eO (Ay 9)=[.r (.int .i64 9),.r (.int .i64 0),.r (.int .i64 0),.r (.string ⟨#[]⟩),.r (.string ⟨#[]⟩)]:=rfl;rw[←e2] at c1;rw[e3,ea] at pc
        cases hput:C3 l p3 q0.length (r++q2) (Ay 9) with
        |bad e p4=>
         rw[hput] at h2 pc;cases h2;have pc:=pc.bad rfl;unfold BR Bq B4 at c1 pc;(repeat' (first |refine A6 ?_ |refine A2 ?_ |refine A3 ?_ |refine A5 ?_ |((first |refine rR (fun K kp hK hkp=>?_) |refine oR [0,2] ec0 ?_ |refine oR [0,2] ec1 ?_ |refine oR [0,2] c1 ?_ |refine iG ?_);simp(implicitDefEqProofs:=false) (maxSteps:=2000000) (disch:=omega) only[go_sem];(repeat' (first |(refine hK _ ?_;clear hK hkp kp K) |(with_reducible refine And.intro ?_ ?_) |omega))) |refine oP [0,3] pc ?_ |((first |refine aG (fun h=>?_) (fun h=>?_) |refine aD (fun h=>?_) (fun h=>?_) |refine aX (fun h=>?_) (fun h=>?_))<;>simp only[h]) |refine A0 rfl ?_ |refine A1 rfl ?_ |((refine A4 rfl (fun h=>?_) (fun h=>?_)<;>try simp only[AK] at h)<;>(try (exfalso;omega))) |refine A7 ?_));(refine hkp _ _ ?_;clear hkp hK kp K;refine AO (AD ?_);refine AC hE [0,1] rfl ?_ ?_<;>simp[AH,lk,ren,renL,A9,AG,Aa])
        |ok r' p4=>
         obtain⟨hr',rfl,h5⟩:=BV hput;rw[hput] at h2 pc;have pc:=pc.ok rfl;(try dsimp only at pc);dsimp only at h2;obtain⟨z3,e4⟩: ∃z3,z3=q0++r':=⟨_,rfl⟩;rw[←e4] at pc;unfold BR Bq B4 at c1 pc;(repeat' (first |refine A6 ?_ |refine A2 ?_ |refine A3 ?_ |refine A5 ?_ |((first |refine rR (fun K kp hK hkp=>?_) |refine oR [0,2] ec0 ?_ |refine oR [0,2] ec1 ?_ |refine oR [0,2] c1 ?_ |refine oR [0,3] pc ?_ |refine iG ?_);simp(implicitDefEqProofs:=false) (maxSteps:=2000000) (disch:=omega) only[go_sem];(repeat' (first |(refine hK _ ?_;clear hK hkp kp K) |(with_reducible refine And.intro ?_ ?_) |omega))) |((first |refine aG (fun h=>?_) (fun h=>?_) |refine aD (fun h=>?_) (fun h=>?_) |refine aX (fun h=>?_) (fun h=>?_))<;>simp only[h]) |refine A0 rfl ?_ |refine A1 rfl ?_ |((refine A4 rfl (fun h=>?_) (fun h=>?_)<;>try simp only[AK] at h)<;>(try (exfalso;omega))) |refine A7 ?_));refine LT ?_
         ((first |(refine Ba ((g,p4,z3)) ?_ ?_ ?_) |(refine BT ((g,p4,z3)) ?_ ?_ ?_) |(refine nextE ((g,p4,z3)) ?_ ?_ ?_));rotate_left;(·(try dsimp only);(first |omega |(simp only[List.length_drop,List.length_cons,List.length_append];omega) |(simp;done) |(simp;omega)));(·(refine Am hE [0,1,4] rfl ?_ ?_<;>simp[Bi,AH,lk,ren,renL,A9,AG]<;>(try omega))))
         refine⟨by omega,b4,r',e4,h2,?_⟩;rw[hr'];simp only[List.length_append,List.length_cons,List.length_nil] at h5 ⊢;omega
    ·rw[if_pos hon0] at ho
     cases ho;have ec0:=DX E.G l p2 t 4 DA hl (by omega) hon0;simp only[DA,str] at ec0;unfold BR Bq B4 at ec0
     cases hz:Cr l g 5 (p2+1) (q0.length+r.length) [] with
     |none=>rw[hz] at h2;cases h2
     |some z=>
      rw[hz] at h2;have b3:=CQ hz hlt (by omega) (fun h=>by omega) h4;have c1:=IH g (by omega) (p2+1) t z (by rw[hlr];exact hz) hlt (by omega)
      cases z with
      |bad e p3=>
       cases h2;have c1:=c1.bad rfl;unfold BR Bq B4 at c1;(repeat' (first |refine A6 ?_ |refine A2 ?_ |refine A3 ?_ |refine A5 ?_ |((first |refine rR (fun K kp hK hkp=>?_) |refine oR [0,2] ec0 ?_ |refine iG ?_);simp(implicitDefEqProofs:=false) (maxSteps:=2000000) (disch:=omega) only[go_sem];(repeat' (first |(refine hK _ ?_;clear hK hkp kp K) |(with_reducible refine And.intro ?_ ?_) |omega))) |refine oP [0,2] c1 ?_ |((first |refine aG (fun h=>?_) (fun h=>?_) |refine aD (fun h=>?_) (fun h=>?_) |refine aX (fun h=>?_) (fun h=>?_))<;>simp only[h]) |refine A0 rfl ?_ |refine A1 rfl ?_ |((refine A4 rfl (fun h=>?_) (fun h=>?_)<;>try simp only[AK] at h)<;>(try (exfalso;omega))) |refine A7 ?_));(refine hkp _ _ ?_;clear hkp hK kp K;refine AO (AD ?_);refine AC hE [0,1] rfl ?_ ?_<;>simp[AH,lk,ren,renL,A9,AG,Aa])
      |ok q2 p3=>
       have c1:=c1.ok rfl;(try dsimp only at c1);obtain⟨b4,b5,_,b6⟩:=b3 q2 p3 rfl;have b5:=b5 (by omega);dsimp only at h2;obtain⟨z2,e2⟩: ∃z2,z2=t++q2:=⟨_,rfl⟩
       have e3:q0++(r++q2)=z2:=by rw[e2,ht,List.append_assoc]
       have pc:=Ca E.G l p3 q0 (r++q2) (Ay 8) hl (by omega) (by omega) (by rw[List.length_append];omega);have ea:eO (Ay 8)=[.r (.int .i64 8),.r (.int .i64 0),.r (.int .i64 0),.r (.string ⟨#[]⟩),.r (.string ⟨#[]⟩)]:=rfl;rw[←e2] at c1;rw[e3,ea] at pc
       cases hput:C3 l p3 q0.length (r++q2) (Ay 8) with
       |bad e p4=>
        rw[hput] at h2 pc;cases h2;have pc:=pc.bad rfl;unfold BR Bq B4 at c1 pc;(repeat' (first |refine A6 ?_ |refine A2 ?_ |refine A3 ?_ |refine A5 ?_ |((first |refine rR (fun K kp hK hkp=>?_) |refine oR [0,2] ec0 ?_ |refine oR [0,2] c1 ?_ |refine iG ?_);simp(implicitDefEqProofs:=false) (maxSteps:=2000000) (disch:=omega) only[go_sem];(repeat' (first |(refine hK _ ?_;clear hK hkp kp K) |(with_reducible refine And.intro ?_ ?_) |omega))) |refine oP [0,3] pc ?_ |((first |refine aG (fun h=>?_) (fun h=>?_) |refine aD (fun h=>?_) (fun h=>?_) |refine aX (fun h=>?_) (fun h=>?_))<;>simp only[h]) |refine A0 rfl ?_ |refine A1 rfl ?_ |((refine A4 rfl (fun h=>?_) (fun h=>?_)<;>try simp only[AK] at h)<;>(try (exfalso;omega))) |refine A7 ?_));(refine hkp _ _ ?_;clear hkp hK kp K;refine AO (AD ?_);refine AC hE [0,1] rfl ?_ ?_<;>simp[AH,lk,ren,renL,A9,AG,Aa])
       |ok r' p4=>
        obtain⟨hr',rfl,h5⟩:=BV hput;rw[hput] at h2 pc;have pc:=pc.ok rfl;(try dsimp only at pc);dsimp only at h2;obtain⟨z3,e4⟩: ∃z3,z3=q0++r':=⟨_,rfl⟩;rw[←e4] at pc;unfold BR Bq B4 at c1 pc;(repeat' (first |refine A6 ?_ |refine A2 ?_ |refine A3 ?_ |refine A5 ?_ |((first |refine rR (fun K kp hK hkp=>?_) |refine oR [0,2] ec0 ?_ |refine oR [0,2] c1 ?_ |refine oR [0,3] pc ?_ |refine iG ?_);simp(implicitDefEqProofs:=false) (maxSteps:=2000000) (disch:=omega) only[go_sem];(repeat' (first |(refine hK _ ?_;clear hK hkp kp K) |(with_reducible refine And.intro ?_ ?_) |omega))) |((first |refine aG (fun h=>?_) (fun h=>?_) |refine aD (fun h=>?_) (fun h=>?_) |refine aX (fun h=>?_) (fun h=>?_))<;>simp only[h]) |refine A0 rfl ?_ |refine A1 rfl ?_ |((refine A4 rfl (fun h=>?_) (fun h=>?_)<;>try simp only[AK] at h)<;>(try (exfalso;omega))) |refine A7 ?_));refine LT ?_
        ((first |(refine Ba ((g,p4,z3)) ?_ ?_ ?_) |(refine BT ((g,p4,z3)) ?_ ?_ ?_) |(refine nextE ((g,p4,z3)) ?_ ?_ ?_));rotate_left;(·(try dsimp only);(first |omega |(simp only[List.length_drop,List.length_cons,List.length_append];omega) |(simp;done) |(simp;omega)));(·(refine Am hE [0,1,4] rfl ?_ ?_<;>simp[Bi,AH,lk,ren,renL,A9,AG]<;>(try omega))))
        refine⟨by omega,b4,r',e4,h2,?_⟩;rw[hr'];simp only[List.length_append,List.length_cons,List.length_nil] at h5 ⊢;omega
end Go.AM
namespace Go.AM
open Go Go.RowKit
open Go.Proofs.YtmgddlckgpfccaaDoor (OP Ac AY AR str)
attribute [local irreducible] AWP BS
theorem QF {l:List TK0}{f p c:Nat}{r:List OP}:Cr l (f+1) 2 p c r=if AP l p 1 Bz=true then (match Cr l f 2 (p+1) c [] with
 |some (.ok q p)=>some (C3 l p c q (Ay 5))
 |x=>x) else Cr l f 3 p c []:=by rw[Cr,if_neg (by omega),if_pos rfl];rfl
theorem P7 {l:List TK0}{f p c:Nat}{r:List OP}:Cr l (f+1) 6 p c r=match Bj l p with
 | .bad e p=>some (.bad e p)
 | .ok (some v) p=>some (C3 l p c [] (I7 v))
 | .ok none _=>
   if AP l p 4 Ax=true then (match Cr l f 0 (p+1) c [] with
    |some (.ok q p)=>some (if AP l p 4 AW=true then .ok q (p+1) else BP l p 6)
    |x=>x)
   else (match D8 l p with
    | .bad e p=>some (.bad e p)
    | .ok s p=>some (C3 l p c [] (HL s))):=by rw[Cr,if_pos rfl];rfl
set_option maxHeartbeats 8000000 in
theorem Og {G:List (Nat×List Value)}{l:List TK0}(hl:l.length≤100)(F:Nat)(I2:Df G l 64 F 2)(I3:Df G l 65 F 3):Df G l 64 (F+1) 2:=by
 intro p q0 x hx hp hq;rw[QF] at hx;cases hon:AP l p 1 Bz
 ·rw[hon] at hx
  have ec:=CT G l p q0 1 Bz hl (by omega) hon;simp only[Bz,str] at ec;have c3:=I3 p q0 x hx hp hq
  cases x with
  |bad e p1=>
   refine Con.of_bad rfl ?_;have c3:=c3.bad rfl;unfold BR Bq B4 at c3 ec ⊢;refine A8 func64 rfl (by kernel_rfl) (of_decide_eq_true (by kernel_rfl)) ?_;intro E hG hE;subst hG;simp only[Ai];(repeat' (first |refine A6 ?_ |refine A2 ?_ |refine A3 ?_ |refine A5 ?_ |((first |refine rR (fun K kp hK hkp=>?_) |refine oR [0,1] ec ?_ |refine iG ?_);simp(implicitDefEqProofs:=false) (maxSteps:=2000000) (disch:=omega) only[go_sem];(repeat' (first |(refine hK _ ?_;clear hK hkp kp K) |(with_reducible refine And.intro ?_ ?_) |omega))) |refine oP [0,1] c3 ?_ |((first |refine aG (fun h=>?_) (fun h=>?_) |refine aD (fun h=>?_) (fun h=>?_) |refine aX (fun h=>?_) (fun h=>?_))<;>simp only[h]) |refine A0 rfl ?_ |refine A1 rfl ?_ |((refine A4 rfl (fun h=>?_) (fun h=>?_)<;>try simp only[AK] at h)<;>(try (exfalso;omega))) |refine A7 ?_));(refine hkp _ _ ?_;clear hkp hK kp K;refine AD ?_;refine AC hE [0,1] rfl ?_ ?_<;>simp[AH,lk,ren,renL,A9,AG,Aa])
  |ok q1 p1=>
   refine Con.of_ok rfl ?_;have c3:=c3.ok rfl;(try dsimp only at c3);obtain⟨t1,ht1⟩: ∃t1,t1=q0++q1:=⟨_,rfl⟩;(try dsimp only);rw[←ht1] at c3 ⊢;unfold BR Bq B4 at c3 ec ⊢;refine A8 func64 rfl (by kernel_rfl) (of_decide_eq_true (by kernel_rfl)) ?_;intro E hG hE;subst hG;simp only[Ai];(repeat' (first |refine A6 ?_ |refine A2 ?_ |refine A3 ?_ |refine A5 ?_ |((first |refine rR (fun K kp hK hkp=>?_) |refine oR [0,1] ec ?_ |refine oR [0,1] c3 ?_ |refine iG ?_);simp(implicitDefEqProofs:=false) (maxSteps:=2000000) (disch:=omega) only[go_sem];(repeat' (first |(refine hK _ ?_;clear hK hkp kp K) |(with_reducible refine And.intro ?_ ?_) |omega))) |((first |refine aG (fun h=>?_) (fun h=>?_) |refine aD (fun h=>?_) (fun h=>?_) |refine aX (fun h=>?_) (fun h=>?_))<;>simp only[h]) |refine A0 rfl ?_ |refine A1 rfl ?_ |((refine A4 rfl (fun h=>?_) (fun h=>?_)<;>try simp only[AK] at h)<;>(try (exfalso;omega))) |refine A7 ?_));(refine BM ?_;(refine AB (by(simp(implicitDefEqProofs:=false) (maxSteps:=2000000) (disch:=omega) only[go_sem,results64]);rfl) ?_;refine(AC hE [0,1,2] rfl ?_ ?_).s<;>simp[AI,AH,lk,ren,renL,A9,AG]))
 ·have hlt:=Aq hon
  rw[hon,if_pos rfl] at hx;have ec:=DX G l p q0 1 Bz hl (by omega) hon;simp only[Bz,str] at ec
  cases hy:Cr l F 2 (p+1) q0.length [] with
  |none=>rw[hy] at hx;cases hx
  |some y=>
   rw[hy] at hx;have b0:=CQ hy hlt (by omega) (fun h=>by omega) hq;have c0:=I2 (p+1) q0 y hy hlt hq
   cases y with
   |bad e p1=>
    cases hx;refine Con.of_bad rfl ?_;have c0:=c0.bad rfl;unfold BR Bq B4 at c0 ec ⊢;refine A8 func64 rfl (by kernel_rfl) (of_decide_eq_true (by kernel_rfl)) ?_;intro E hG hE;subst hG;simp only[Ai];(repeat' (first |refine A6 ?_ |refine A2 ?_ |refine A3 ?_ |refine A5 ?_ |((first |refine rR (fun K kp hK hkp=>?_) |refine oR [0,1] ec ?_ |refine iG ?_);simp(implicitDefEqProofs:=false) (maxSteps:=2000000) (disch:=omega) only[go_sem];(repeat' (first |(refine hK _ ?_;clear hK hkp kp K) |(with_reducible refine And.intro ?_ ?_) |omega))) |refine oP [0,1] c0 ?_ |((first |refine aG (fun h=>?_) (fun h=>?_) |refine aD (fun h=>?_) (fun h=>?_) |refine aX (fun h=>?_) (fun h=>?_))<;>simp only[h]) |refine A0 rfl ?_ |refine A1 rfl ?_ |((refine A4 rfl (fun h=>?_) (fun h=>?_)<;>try simp only[AK] at h)<;>(try (exfalso;omega))) |refine A7 ?_));(refine hkp _ _ ?_;clear hkp hK kp K;refine AD ?_;refine AC hE [0,1] rfl ?_ ?_<;>simp[AH,lk,ren,renL,A9,AG,Aa])
   |ok q1 p1=>
    have c0:=c0.ok rfl;(try dsimp only at c0);obtain⟨b1,b2,_,b3⟩:=b0 q1 p1 rfl;have b2:=b2 (by omega);cases hx;obtain⟨t1,ht1⟩: ∃t1,t1=q0++q1:=⟨_,rfl⟩;have pc:=Ca G l p1 q0 q1 (Ay 5) hl (by omega) (by omega) b3;have ea:eO (Ay 5)=[.r (.int .i64 5),.r (.int .i64 0),.r (.int .i64 0),.r (.string ⟨#[]⟩),.r (.string ⟨#[]⟩)]:=rfl;rw[←ht1] at c0 pc;rw[ea] at pc
    cases hput:C3 l p1 q0.length q1 (Ay 5) with
    |bad e p4=>
     rw[hput] at pc;refine Con.of_bad rfl ?_;have pc:=pc.bad rfl;unfold BR Bq B4 at c0 pc ec ⊢;refine A8 func64 rfl (by kernel_rfl) (of_decide_eq_true (by kernel_rfl)) ?_;intro E hG hE;subst hG;simp only[Ai];(repeat' (first |refine A6 ?_ |refine A2 ?_ |refine A3 ?_ |refine A5 ?_ |((first |refine rR (fun K kp hK hkp=>?_) |refine oR [0,1] ec ?_ |refine oR [0,1] c0 ?_ |refine iG ?_);simp(implicitDefEqProofs:=false) (maxSteps:=2000000) (disch:=omega) only[go_sem];(repeat' (first |(refine hK _ ?_;clear hK hkp kp K) |(with_reducible refine And.intro ?_ ?_) |omega))) |refine oP [0,2] pc ?_ |((first |refine aG (fun h=>?_) (fun h=>?_) |refine aD (fun h=>?_) (fun h=>?_) |refine aX (fun h=>?_) (fun h=>?_))<;>simp only[h]) |refine A0 rfl ?_ |refine A1 rfl ?_ |((refine A4 rfl (fun h=>?_) (fun h=>?_)<;>try simp only[AK] at h)<;>(try (exfalso;omega))) |refine A7 ?_));(refine hkp _ _ ?_;clear hkp hK kp K;refine AD ?_;refine AC hE [0,1] rfl ?_ ?_<;>simp[AH,lk,ren,renL,A9,AG,Aa])
    |ok r' p4=>
     rw[hput] at pc;refine Con.of_ok rfl ?_;have pc:=pc.ok rfl;(try dsimp only at pc);(try dsimp only);generalize q0++r'=z3 at pc ⊢;unfold BR Bq B4 at c0 pc ec ⊢;refine A8 func64 rfl (by kernel_rfl) (of_decide_eq_true (by kernel_rfl)) ?_;intro E hG hE;subst hG;simp only[Ai];(repeat' (first |refine A6 ?_ |refine A2 ?_ |refine A3 ?_ |refine A5 ?_ |((first |refine rR (fun K kp hK hkp=>?_) |refine oR [0,1] ec ?_ |refine oR [0,1] c0 ?_ |refine oR [0,2] pc ?_ |refine iG ?_);simp(implicitDefEqProofs:=false) (maxSteps:=2000000) (disch:=omega) only[go_sem];(repeat' (first |(refine hK _ ?_;clear hK hkp kp K) |(with_reducible refine And.intro ?_ ?_) |omega))) |((first |refine aG (fun h=>?_) (fun h=>?_) |refine aD (fun h=>?_) (fun h=>?_) |refine aX (fun h=>?_) (fun h=>?_))<;>simp only[h]) |refine A0 rfl ?_ |refine A1 rfl ?_ |((refine A4 rfl (fun h=>?_) (fun h=>?_)<;>try simp only[AK] at h)<;>(try (exfalso;omega))) |refine A7 ?_));(refine AB (by(simp(implicitDefEqProofs:=false) (maxSteps:=2000000) (disch:=omega) only[go_sem,results64]);rfl) ?_;refine(AC hE [0,1,3] rfl ?_ ?_).s<;>simp[AI,AH,lk,ren,renL,A9,AG])
set_option maxHeartbeats 8000000 in
theorem Jw {G:List (Nat×List Value)}(T:Tabs G){l:List TK0}(hk: ∀t ∈ l,TokOk t)(hl:l.length≤100)(F:Nat)(I0:Df G l 51 F 0):Df G l 70 (F+1) 6:=by
 intro p q0 x hx hp hq;rw[P7] at hx;have lc:=L7 G l p q0 hk hl (by omega)
 cases hlit:Bj l p with
 |bad e p1=>
  rw[hlit] at hx lc;cases hx;refine Con.of_bad rfl ?_;have lc:=lc.bad rfl;unfold BR Bq B4 at lc ⊢;refine A8 func70 rfl (by kernel_rfl) (of_decide_eq_true (by kernel_rfl)) ?_;intro E hG hE;subst hG;simp only[Ai];(repeat' (first |refine A6 ?_ |refine A2 ?_ |refine A3 ?_ |refine A5 ?_ |((first |refine rR (fun K kp hK hkp=>?_) |refine iG ?_);simp(implicitDefEqProofs:=false) (maxSteps:=2000000) (disch:=omega) only[go_sem];(repeat' (first |(refine hK _ ?_;clear hK hkp kp K) |(with_reducible refine And.intro ?_ ?_) |omega))) |refine oP [0,1] lc ?_ |((first |refine aG (fun h=>?_) (fun h=>?_) |refine aD (fun h=>?_) (fun h=>?_) |refine aX (fun h=>?_) (fun h=>?_))<;>simp only[h]) |refine A0 rfl ?_ |refine A1 rfl ?_ |((refine A4 rfl (fun h=>?_) (fun h=>?_)<;>try simp only[AK] at h)<;>(try (exfalso;omega))) |refine A7 ?_));(refine hkp _ _ ?_;clear hkp hK kp K;refine AD ?_;refine AC hE [0,1] rfl ?_ ?_<;>simp[AH,lk,ren,renL,A9,AG,Aa])
 |ok o p1=>
  have hok:=HU hlit;rw[hlit] at hx lc;have lc:=lc.ok rfl;(try dsimp only at lc)
  cases o with
  |some v=>
   rcases hok with ⟨h,_⟩ |⟨_,_,h1,h2⟩
   ·cases h
   cases hx;have pc:=Ca G l p1 q0 [] (I7 v) hl (by omega) (by omega) (by simpa using hq);have ea:eO (I7 v)=[.r (.int .i64 1),.r (.int .i64 v.k),.r (.int .i64 v.n),.r (.string v.s),.r (.string ⟨#[]⟩)]:=rfl;rw[ea,List.append_nil] at pc;simp only[Cy,eV] at lc
   cases hput:C3 l p1 q0.length [] (I7 v) with
   |bad e p4=>
    rw[hput] at pc;refine Con.of_bad rfl ?_;have pc:=pc.bad rfl;unfold BR Bq B4 at lc pc ⊢;refine A8 func70 rfl (by kernel_rfl) (of_decide_eq_true (by kernel_rfl)) ?_;intro E hG hE;subst hG;simp only[Ai];(repeat' (first |refine A6 ?_ |refine A2 ?_ |refine A3 ?_ |refine A5 ?_ |((first |refine rR (fun K kp hK hkp=>?_) |refine oR [0,1] lc ?_ |refine iG ?_);simp(implicitDefEqProofs:=false) (maxSteps:=2000000) (disch:=omega) only[go_sem];(repeat' (first |(refine hK _ ?_;clear hK hkp kp K) |(with_reducible refine And.intro ?_ ?_) |omega))) |refine oP [0,1] pc ?_ |((first |refine aG (fun h=>?_) (fun h=>?_) |refine aD (fun h=>?_) (fun h=>?_) |refine aX (fun h=>?_) (fun h=>?_))<;>simp only[h]) |refine A0 rfl ?_ |refine A1 rfl ?_ |((refine A4 rfl (fun h=>?_) (fun h=>?_)<;>try simp only[AK] at h)<;>(try (exfalso;omega))) |refine A7 ?_));(refine hkp _ _ ?_;clear hkp hK kp K;refine AD ?_;refine AC hE [0,1] rfl ?_ ?_<;>simp[AH,lk,ren,renL,A9,AG,Aa])
   |ok r' p4=>
    rw[hput] at pc;refine Con.of_ok rfl ?_;have pc:=pc.ok rfl;(try dsimp only at pc);(try dsimp only);generalize q0++r'=z3 at pc ⊢;unfold BR Bq B4 at lc pc ⊢;refine A8 func70 rfl (by kernel_rfl) (of_decide_eq_true (by kernel_rfl)) ?_;intro E hG hE;subst hG;simp only[Ai];(repeat' (first |refine A6 ?_ |refine A2 ?_ |refine A3 ?_ |refine A5 ?_ |((first |refine rR (fun K kp hK hkp=>?_) |refine oR [0,1] lc ?_ |refine oR [0,1] pc ?_ |refine iG ?_);simp(implicitDefEqProofs:=false) (maxSteps:=2000000) (disch:=omega) only[go_sem];(repeat' (first |(refine hK _ ?_;clear hK hkp kp K) |(with_reducible refine And.intro ?_ ?_) |omega))) |((first |refine aG (fun h=>?_) (fun h=>?_) |refine aD (fun h=>?_) (fun h=>?_) |refine aX (fun h=>?_) (fun h=>?_))<;>simp only[h]) |refine A0 rfl ?_ |refine A1 rfl ?_ |((refine A4 rfl (fun h=>?_) (fun h=>?_)<;>try simp only[AK] at h)<;>(try (exfalso;omega))) |refine A7 ?_));(refine AB (by(simp(implicitDefEqProofs:=false) (maxSteps:=2000000) (disch:=omega) only[go_sem,results70]);rfl) ?_;refine(AC hE [0,1,3] rfl ?_ ?_).s<;>simp[AI,AH,lk,ren,renL,A9,AG])
  |none=>
   rcases hok with ⟨_,rfl⟩ |⟨_,h,_⟩
   rotate_left
   ·cases h
   dsimp only at hx;simp only[Cy,eV,str] at lc;cases ho:AP l p1 4 Ax
   ·have ec:=CT G l p1 q0 4 Ax hl (by omega) ho
    simp only[Ax,str] at ec;rw[ho] at hx;simp only[Bool.false_eq_true,if_false] at hx;have nc:=NR T l p1 q0 hl (by omega) (fun t ht=>(hk t ht).s)
    cases hn:D8 l p1 with
    |bad e p2=>
     rw[hn] at hx nc;cases hx;refine Con.of_bad rfl ?_;have nc:=nc.bad rfl;unfold BR Bq B4 at lc ec nc ⊢;refine A8 func70 rfl (by kernel_rfl) (of_decide_eq_true (by kernel_rfl)) ?_;intro E hG hE;subst hG;simp only[Ai];(repeat' (first |refine A6 ?_ |refine A2 ?_ |refine A3 ?_ |refine A5 ?_ |((first |refine rR (fun K kp hK hkp=>?_) |refine oR [0,1] lc ?_ |refine oR [0,1] ec ?_ |refine iG ?_);simp(implicitDefEqProofs:=false) (maxSteps:=2000000) (disch:=omega) only[go_sem];(repeat' (first |(refine hK _ ?_;clear hK hkp kp K) |(with_reducible refine And.intro ?_ ?_) |omega))) |refine oP [0,1] nc ?_ |((first |refine aG (fun h=>?_) (fun h=>?_) |refine aD (fun h=>?_) (fun h=>?_) |refine aX (fun h=>?_) (fun h=>?_))<;>simp only[h]) |refine A0 rfl ?_ |refine A1 rfl ?_ |((refine A4 rfl (fun h=>?_) (fun h=>?_)<;>try simp only[AK] at h)<;>(try (exfalso;omega))) |refine A7 ?_));(refine hkp _ _ ?_;clear hkp hK kp K;refine AD ?_;refine AC hE [0,1] rfl ?_ ?_<;>simp[AH,lk,ren,renL,A9,AG,Aa])
    |ok s p2=>
     obtain⟨rfl,hlt⟩:=Co hn;rw[hn] at hx nc;cases hx;have nc:=nc.ok rfl;(try dsimp only at nc);have pc:=Ca G l (p1+1) q0 [] (HL s) hl (by omega) (by omega) (by simpa using hq);have ea:eO (HL s)=[.r (.int .i64 2),.r (.int .i64 0),.r (.int .i64 0),.r (.string ⟨#[]⟩),.r (.string s)]:=rfl;rw[ea,List.append_nil] at pc
     cases hput:C3 l (p1+1) q0.length [] (HL s) with
     |bad e p4=>
      rw[hput] at pc;refine Con.of_bad rfl ?_;have pc:=pc.bad rfl;unfold BR Bq B4 at lc ec nc pc ⊢;refine A8 func70 rfl (by kernel_rfl) (of_decide_eq_true (by kernel_rfl)) ?_;intro E hG hE;subst hG;simp only[Ai];(repeat' (first |refine A6 ?_ |refine A2 ?_ |refine A3 ?_ |refine A5 ?_ |((first |refine rR (fun K kp hK hkp=>?_) |refine oR [0,1] lc ?_ |refine oR [0,1] ec ?_ |refine oR [0,1] nc ?_ |refine iG ?_);simp(implicitDefEqProofs:=false) (maxSteps:=2000000) (disch:=omega) only[go_sem];(repeat' (first |(refine hK _ ?_;clear hK hkp kp K) |(with_reducible refine And.intro ?_ ?_) |omega))) |refine oP [0,1] pc ?_ |((first |refine aG (fun h=>?_) (fun h=>?_) |refine aD (fun h=>?_) (fun h=>?_) |refine aX (fun h=>?_) (fun h=>?_))<;>simp only[h]) |refine A0 rfl ?_ |refine A1 rfl ?_ |((refine A4 rfl (fun h=>?_) (fun h=>?_)<;>try simp only[AK] at h)<;>(try (exfalso;omega))) |refine A7 ?_));(refine hkp _ _ ?_;clear hkp hK kp K;refine AD ?_;refine AC hE [0,1] rfl ?_ ?_<;>simp[AH,lk,ren,renL,A9,AG,Aa])
     |ok r' p4=>
      rw[hput] at pc;refine Con.of_ok rfl ?_;have pc:=pc.ok rfl;(try dsimp only at pc);(try dsimp only);generalize q0++r'=z3 at pc ⊢;unfold BR Bq B4 at lc ec nc pc ⊢;refine A8 func70 rfl (by kernel_rfl) (of_decide_eq_true (by kernel_rfl)) ?_;intro E hG hE;subst hG;simp only[Ai];(repeat' (first |refine A6 ?_ |refine A2 ?_ |refine A3 ?_ |refine A5 ?_ |((first |refine rR (fun K kp hK hkp=>?_) |refine oR [0,1] lc ?_ |refine oR [0,1] ec ?_ |refine oR [0,1] nc ?_ |refine oR [0,1] pc ?_ |refine iG ?_);simp(implicitDefEqProofs:=false) (maxSteps:=2000000) (disch:=omega) only[go_sem];(repeat' (first |(refine hK _ ?_;clear hK hkp kp K) |(with_reducible refine And.intro ?_ ?_) |omega))) |((first |refine aG (fun h=>?_) (fun h=>?_) |refine aD (fun h=>?_) (fun h=>?_) |refine aX (fun h=>?_) (fun h=>?_))<;>simp only[h]) |refine A0 rfl ?_ |refine A1 rfl ?_ |((refine A4 rfl (fun h=>?_) (fun h=>?_)<;>try simp only[AK] at h)<;>(try (exfalso;omega))) |refine A7 ?_));(refine BM ?_;(refine AB (by(simp(implicitDefEqProofs:=false) (maxSteps:=2000000) (disch:=omega) only[go_sem,results70]);rfl) ?_;refine(AC hE [0,1,3] rfl ?_ ?_).s<;>simp[AI,AH,lk,ren,renL,A9,AG]))
   ·have hlt:=Aq ho
    have ec:=DX G l p1 q0 4 Ax hl (by omega) ho;simp only[Ax,str] at ec;rw[ho,if_pos rfl] at hx
    cases hy:Cr l F 0 (p1+1) q0.length [] with
    |none=>rw[hy] at hx;cases hx
    |some y=>
     rw[hy] at hx;have b0:=CQ hy hlt (by omega) (fun h=>by omega) hq;have c0:=I0 (p1+1) q0 y hy hlt hq
     cases y with
     |bad e p2=>
      cases hx;refine Con.of_bad rfl ?_;have c0:=c0.bad rfl;unfold BR Bq B4 at lc ec c0 ⊢;refine A8 func70 rfl (by kernel_rfl) (of_decide_eq_true (by kernel_rfl)) ?_;intro E hG hE;subst hG;simp only[Ai];(repeat' (first |refine A6 ?_ |refine A2 ?_ |refine A3 ?_ |refine A5 ?_ |((first |refine rR (fun K kp hK hkp=>?_) |refine oR [0,1] lc ?_ |refine oR [0,1] ec ?_ |refine iG ?_);simp(implicitDefEqProofs:=false) (maxSteps:=2000000) (disch:=omega) only[go_sem];(repeat' (first |(refine hK _ ?_;clear hK hkp kp K) |(with_reducible refine And.intro ?_ ?_) |omega))) |refine oP [0,1] c0 ?_ |((first |refine aG (fun h=>?_) (fun h=>?_) |refine aD (fun h=>?_) (fun h=>?_) |refine aX (fun h=>?_) (fun h=>?_))<;>simp only[h]) |refine A0 rfl ?_ |refine A1 rfl ?_ |((refine A4 rfl (fun h=>?_) (fun h=>?_)<;>try simp only[AK] at h)<;>(try (exfalso;omega))) |refine A7 ?_));(refine hkp _ _ ?_;clear hkp hK kp K;refine AD ?_;refine AC hE [0,1] rfl ?_ ?_<;>simp[AH,lk,ren,renL,A9,AG,Aa])
     |ok q1 p2=>
      have c0:=c0.ok rfl;(try dsimp only at c0);obtain⟨b1,_,_,_⟩:=b0 q1 p2 rfl;have mc:=NV G l p2 (q0++q1) AW hl (by omega);simp only[AW,str] at mc;obtain⟨t1,ht1⟩: ∃t1,t1=q0++q1:=⟨_,rfl⟩;rw[←ht1] at c0 mc;cases hm:AP l p2 4 AW
      ·dsimp only at hx
       rw[hm] at hx;cases hx;refine Con.of_bad rfl ?_;have mc:=mc.bad (e:=if l.length≤p2 then 7 else 6) (p:=p2) (by change Ar l p2 AW=_;rw[Ar,hm];rfl);generalize (if l.length≤p2 then (7:Int) else 6)=e at mc ⊢;unfold BR Bq B4 at lc ec c0 mc ⊢;refine A8 func70 rfl (by kernel_rfl) (of_decide_eq_true (by kernel_rfl)) ?_;intro E hG hE;subst hG;simp only[Ai];(repeat' (first |refine A6 ?_ |refine A2 ?_ |refine A3 ?_ |refine A5 ?_ |((first |refine rR (fun K kp hK hkp=>?_) |refine oR [0,1] lc ?_ |refine oR [0,1] ec ?_ |refine oR [0,1] c0 ?_ |refine iG ?_);simp(implicitDefEqProofs:=false) (maxSteps:=2000000) (disch:=omega) only[go_sem];(repeat' (first |(refine hK _ ?_;clear hK hkp kp K) |(with_reducible refine And.intro ?_ ?_) |omega))) |refine oP [0,3] mc ?_ |((first |refine aG (fun h=>?_) (fun h=>?_) |refine aD (fun h=>?_) (fun h=>?_) |refine aX (fun h=>?_) (fun h=>?_))<;>simp only[h]) |refine A0 rfl ?_ |refine A1 rfl ?_ |((refine A4 rfl (fun h=>?_) (fun h=>?_)<;>try simp only[AK] at h)<;>(try (exfalso;omega))) |refine A7 ?_));(refine hkp _ _ ?_;clear hkp hK kp K;refine AD ?_;refine AC hE [0,1] rfl ?_ ?_<;>simp[AH,lk,ren,renL,A9,AG,Aa])
      ·dsimp only at hx
       rw[hm] at hx;cases hx;refine Con.of_ok rfl ?_;(try dsimp only);rw[←ht1];have mc:=mc.ok (a:=()) (p:=p2+1) (by change Ar l p2 AW=_;rw[Ar,hm];rfl);(try dsimp only at mc);unfold BR Bq B4 at lc ec c0 mc ⊢;refine A8 func70 rfl (by kernel_rfl) (of_decide_eq_true (by kernel_rfl)) ?_;intro E hG hE;subst hG;simp only[Ai];(repeat' (first |refine A6 ?_ |refine A2 ?_ |refine A3 ?_ |refine A5 ?_ |((first |refine rR (fun K kp hK hkp=>?_) |refine oR [0,1] lc ?_ |refine oR [0,1] ec ?_ |refine oR [0,1] c0 ?_ |refine oR [0,3] mc ?_ |refine iG ?_);simp(implicitDefEqProofs:=false) (maxSteps:=2000000) (disch:=omega) only[go_sem];(repeat' (first |(refine hK _ ?_;clear hK hkp kp K) |(with_reducible refine And.intro ?_ ?_) |omega))) |((first |refine aG (fun h=>?_) (fun h=>?_) |refine aD (fun h=>?_) (fun h=>?_) |refine aX (fun h=>?_) (fun h=>?_))<;>simp only[h]) |refine A0 rfl ?_ |refine A1 rfl ?_ |((refine A4 rfl (fun h=>?_) (fun h=>?_)<;>try simp only[AK] at h)<;>(try (exfalso;omega))) |refine A7 ?_));(refine AB (by(simp(implicitDefEqProofs:=false) (maxSteps:=2000000) (disch:=omega) only[go_sem,results70]);rfl) ?_;refine(AC hE [0,1,3] rfl ?_ ?_).s<;>simp[AI,AH,lk,ren,renL,A9,AG])
end Go.AM
namespace Go.AM
open Go Go.RowKit
open Go.Proofs.YtmgddlckgpfccaaDoor (OP Ac AY AR str)
attribute [local irreducible] AWP BS
def zO:List AV:=[.r (.int .i64 0),.r (.int .i64 0),.r (.int .i64 0),.r (.string ⟨#[]⟩),.r (.string ⟨#[]⟩)]
@[simp] theorem Ud:(∀x,x ∈ zO→PT x)=True:=eq_true (by intro x hx;simp[zO] at hx;rcases hx with rfl |rfl |rfl |rfl |rfl<;>exact .r _)
def R_ (ts:List OP):List AV:=[.ro true 5 (ts.map eO)]
theorem Nj (G:List (Nat×List Value))(n:Nat)(hn:0<n)(hb:n≤1000000):Con prog G 71 [.r (.slice none 0 0),.r (.int .i64 n)] [] 0 (Is (.s 0 0 0) [(0,.lst 73 5 (List.replicate n zO))] 1) No:=by
 refine A8 func71 rfl (by kernel_rfl) (of_decide_eq_true (by kernel_rfl)) ?_;intro E hG hE;subst hG;simp only[Ai];have d1:decide ((n:Int)<0)=false:=decide_eq_false (by omega);have d2:decide ((n:Int)>0)=true:=decide_eq_true (by omega);(repeat' (first |refine A6 ?_ |refine A3 ?_ |((refine rR (fun K kp hK hkp=>?_));simp(implicitDefEqProofs:=false) (maxSteps:=2000000) (disch:=omega) only[go_sem,d1,d2,Int.sub_zero,Value.oneCell',List.all_cons,List.all_nil,Bool.and_self,Int.toNat_natCast];(repeat' (first |(refine hK _ ?_;clear hK hkp kp K) |(with_reducible refine And.intro ?_ ?_) |omega))) |refine A0 rfl ?_ |refine A1 rfl ?_ |refine A7 ?_));(refine AB (by(simp(implicitDefEqProofs:=false) (maxSteps:=2000000) (disch:=omega) only[go_sem,results71,zO]);rfl) ?_;refine(AC hE [0] rfl ?_ ?_).s<;>simp[AI,AH,lk,ren,renL,A9,AG,zO])
theorem IG {ls:List (List OP)}{k:Nat}{x:List OP}(h:ls[k]?=some x):(ls.take (k+1)).flatten=(ls.take k).flatten++x:=by
 rw[List.take_add_one,h];simp
theorem Gg {ls:List (List OP)}(h: ∀x ∈ ls,x.length≤1000):ls.flatten.length≤1000 * ls.length:=by
 induction ls with
 |nil=>simp
 |cons x r ih=>
  have:=ih (fun y hy=>h y (by simp[hy]));have:=h x (by simp);rw[List.flatten_cons,List.length_append,List.length_cons];omega
set_option maxHeartbeats 4000000 in
theorem LN (G:List (Nat×List Value))(t:Bool)(ls:List (List OP))(hl:ls.length≤100)(hs: ∀x ∈ ls,x.length≤1000)(hp:0<ls.flatten.length):Con prog G 69 [.ro t 1 (ls.map R_)] [] 0 (Is (.s 0 0 ls.flatten.length) [(0,.lst 73 5 (ls.flatten.map eO))] 1) No:=by
 refine A8 func69 rfl (by kernel_rfl) (of_decide_eq_true (by kernel_rfl)) ?_;intro E hG hE;subst hG;simp only[Ai];(repeat' (first |refine A6 ?_ |refine A2 ?_ |((refine rR (fun K kp hK hkp=>?_));simp(implicitDefEqProofs:=false) (maxSteps:=2000000) (disch:=omega) only[go_sem];(repeat' (refine hK _ ?_;clear hK hkp kp K)))));have hfl:=Gg hs;refine Ap (fun k:Nat=>⟨[(11,.r (.int .i64 k)),(10,.r (.int .i64 ls.length)),(9,.ro t 1 (ls.map R_)),(3,.r (.int .i64 (ls.take k).flatten.length)),(0,.ro t 1 (ls.map R_))],[],0⟩) (fun k=>k≤ls.length) (fun k=>ls.length - k) 0 ?_ ?_ ?_
 ·simp
 ·(refine Am hE [] rfl ?_ ?_<;>simp[Bi,AH,lk,ren,renL,A9,AG]<;>(try omega))
 intro k hk
 have hle:(ls.take k).flatten.length≤1000 * 100:=by
  have:=Gg (ls:=ls.take k) (fun x hx=>hs x (List.mem_of_mem_take hx));simp at this ⊢;omega
 by_cases hk':k<ls.length
 ·obtain⟨x,hx⟩: ∃x,ls[k]?=some x:=⟨ls[k],by simp[hk']⟩
  have hft:=IG hx;have hxl:=hs x (List.mem_of_getElem? hx);generalize (ls.take k).flatten=q at hft hle ⊢;have d1:decide ((q.length:Int)+(x.length:Int)<0)=false:=decide_eq_false (by omega);(repeat' (first |refine A6 ?_ |refine A2 ?_ |refine A3 ?_ |((refine rR (fun K kp hK hkp=>?_));simp(implicitDefEqProofs:=false) (maxSteps:=2000000) (disch:=omega) only[go_sem,hx,R_,d1];(repeat' (refine hK _ ?_;clear hK hkp kp K))) |refine A1 rfl ?_ |((refine A4 rfl (fun h=>?_) (fun h=>?_)<;>try simp only[AK] at h)<;>(try (exfalso;omega)))))
  ((refine BT (k+1) ?_ ?_ ?_);rotate_left;(·(try dsimp only);(omega));(·(refine Am hE [] rfl ?_ ?_<;>simp[Bi,AH,lk,ren,renL,A9,AG,hft]<;>(try omega))))
  omega
 ·obtain rfl:k=ls.length:=by omega
  rw[List.take_of_length_le (Nat.le_refl _)] at hle ⊢;have gc:=Nj E.G ls.flatten.length hp (by omega);obtain⟨fl,hfe⟩: ∃fl,fl=ls.flatten:=⟨_,rfl⟩;rw[←hfe] at hp hfl hle gc ⊢;(repeat' (first |refine A6 ?_ |refine A2 ?_ |refine A5 ?_ |((first |refine rR (fun K kp hK hkp=>?_) |refine cR gc ?_);simp(implicitDefEqProofs:=false) (maxSteps:=2000000) (disch:=omega) only[go_sem];(repeat' (refine hK _ ?_;clear hK hkp kp K))) |((refine A4 rfl (fun h=>?_) (fun h=>?_)<;>try simp only[AK] at h)<;>(try (exfalso;omega)))));refine Ap (fun q:Nat×List (List AV)=>⟨[(27,.r (.int .i64 q.1)),(26,.r (.int .i64 ls.length)),(25,.ro t 1 (ls.map R_)),(6,.s 0 0 (ls.take q.1).flatten.length)],[(0,.lst 73 5 ((ls.take q.1).flatten.map eO++q.2))],1⟩) (fun q=>q.1≤ls.length∧(q.1=0∨q.2=[])) (fun q=>ls.length - q.1) (0,List.replicate fl.length zO) ?_ ?_ ?_
  ·exact⟨by simp,.inl rfl⟩
  ·(refine Am hE [0] rfl ?_ ?_<;>simp[Bi,AH,lk,ren,renL,A9,AG]<;>(try omega))
  rintro⟨k,jz⟩ ⟨hkl,hjz⟩;simp only at hkl hjz ⊢
  have hle:(ls.take k).flatten.length≤1000 * 100:=by
   have:=Gg (ls:=ls.take k) (fun x hx=>hs x (List.mem_of_mem_take hx));simp only[List.length_take] at this;omega
  by_cases hlt:k<ls.length
  ·obtain⟨x,hx⟩: ∃x,ls[k]?=some x:=⟨ls[k],by simp[hlt]⟩
   have hft:=IG hx;have hxl:=hs x (List.mem_of_getElem? hx);generalize (ls.take k).flatten=q at hft hle ⊢;have htk:List.take q.length (List.map eO q++jz)=List.map eO q:=List.take_left' (by simp);(repeat' (first |refine A6 ?_ |refine A2 ?_ |refine A3 ?_ |((refine rR (fun K kp hK hkp=>?_));simp(implicitDefEqProofs:=false) (maxSteps:=2000000) (disch:=omega) only[go_sem,hx,R_,htk];(repeat' (first |(refine hK _ ?_;clear hK hkp kp K) |(with_reducible refine And.intro ?_ ?_) |omega))) |((refine A4 rfl (fun h=>?_) (fun h=>?_)<;>try simp only[AK] at h)<;>(try (exfalso;omega)))))
   ((refine BT ((k+1,[])) ?_ ?_ ?_);rotate_left;(·(try dsimp only);(omega));(·(refine Am hE [1] rfl ?_ ?_<;>simp[Bi,AH,lk,ren,renL,A9,AG,hft]<;>(try omega))))
   exact⟨by omega,.inr rfl⟩
  ·obtain rfl:k=ls.length:=by omega
   have hjz:jz=[]:=by
    rcases hjz with h0 |h0
    ·rw[List.length_eq_zero_iff.1 h0] at hfe;rw[hfe] at hp;simp at hp
    ·exact h0
   subst hjz;rw[List.take_of_length_le (Nat.le_refl _),←hfe];(repeat' (first |refine A6 ?_ |refine A5 ?_ |((refine rR (fun K kp hK hkp=>?_));simp(implicitDefEqProofs:=false) (maxSteps:=2000000) (disch:=omega) only[go_sem];(repeat' (refine hK _ ?_;clear hK hkp kp K))) |((refine A4 rfl (fun h=>?_) (fun h=>?_)<;>try simp only[AK] at h)<;>(try (exfalso;omega))) |refine A7 ?_));(refine AB (by(simp(implicitDefEqProofs:=false) (maxSteps:=2000000) (disch:=omega) only[go_sem,results69,List.append_nil]);rfl) ?_;refine(AC hE [0] rfl ?_ ?_).s<;>simp[AI,AH,lk,ren,renL,A9,AG,List.append_nil])
set_option maxHeartbeats 4000000 in
theorem OF (G:List (Nat×List Value))(l:List TK0)(p:Nat)(a b c:List OP)(hl:l.length≤100)(hp:p≤100)(hq:a.length+b.length+c.length≤40)(h0:0<b.length):Con prog G 67 [.p 0 0 0,.r (.int .i64 a.length),.r (.int .i64 (a.length+b.length:Nat))] (BR l p (a++b++c)) 2
  (Is (.tup []) [(0,Bq l p 2 (a++c++b).length),(2,B4 (a++c++b))] 3) No:=by
 have cc:=LN G false [a,c,b] (by simp) (by simp;omega) (by simp;omega)
 have ef:[a,c,b].flatten=a++c++b:=by simp
 rw[ef] at cc
 have t1:(a++b++c).take a.length=a:=by rw[List.append_assoc];exact List.take_left' rfl
 have t2:(a++b++c).drop (a.length+b.length)=c:=List.drop_left' (by simp)
 have t3:((a++b++c).take (a.length+b.length)).drop a.length=b:=by
  rw[List.take_left' (by simp),List.drop_left' rfl]
 have m1:((a++b++c).map eO).take a.length=a.map eO:=by rw[←List.map_take,t1]
 have m2:((a++b++c).map eO).drop (a.length+b.length)=c.map eO:=by rw[←List.map_drop,t2]
 have m3:(((a++b++c).map eO).take (a.length+b.length)).drop a.length=b.map eO:=by rw[←List.map_take,←List.map_drop,t3]
 have hlen:(a++b++c).length=a.length+b.length+c.length:=by simp[Nat.add_assoc]
 generalize a++b++c=z at *;generalize a++c++b=y at *;have tz:(z.map eO).take z.length=z.map eO:=List.take_of_length_le (by simp)
 have tz2:(z.map eO).take (a.length+b.length+c.length)=z.map eO:=by rw[←hlen];exact tz
 unfold BR Bq B4;refine A8 func67 rfl (by kernel_rfl) (of_decide_eq_true (by kernel_rfl)) ?_;intro E hG hE;subst hG;simp only[Ai];refine AWP.emb (Emb.trans (EI 0 2 rfl rfl (by simp only[GL,lk,rm,tz,List.drop_zero,Nat.zero_add,List.length_map,Nat.le_refl,↓reduceIte,Nat.reduceEqDiff];rfl) rfl) (Emb.refl)) ?_;simp only[BO,List.set_cons_zero,List.set_cons_succ];simp only[List.map_cons,List.map_nil,R_] at cc;(repeat' ((refine rX (id:=0) AA [] 22 [0,1,2,3,4,5,6,7,8,9,10,11,12,13,14,15,16,17,18,19,20,21] (fun K kp hK hkp=>?_));simp(implicitDefEqProofs:=false) (maxSteps:=2000000) (disch:=omega) only[go_sem,m1,m2,m3,hlen,tz2];(repeat' (omega))))
 (((apply QP (cc));(case hb=>(simp(implicitDefEqProofs:=false) (maxSteps:=2000000) (disch:=omega) only[go_sem];first |done |rfl));(case hp=>(simp[-List.map_drop,-List.map_take];done));(case hq=>(simp[-List.map_drop,-List.map_take];done)));simp(implicitDefEqProofs:=false) (maxSteps:=2000000) (disch:=omega) only[go_sem];(repeat' (refine hK _ ?_;clear hK hkp kp K)))
 (refine BM ?_;(refine AB (by(simp(implicitDefEqProofs:=false) (maxSteps:=2000000) (disch:=omega) only[go_sem,results67]);rfl) ?_;refine(AC hE [0,1,3] rfl ?_ ?_).s<;>simp[AI,AH,lk,ren,renL,A9,AG]))
end Go.AM
namespace Go.AM
open Go Go.RowKit
open Go.Proofs.YtmgddlckgpfccaaDoor (OP Ac AY AR str)
attribute [local irreducible] AWP BS
structure TabsP (G:List (Nat×List Value)):Prop extends Tabs G where
 cms:lk G 3=some (KT.flatMap fun m=>[.string m.s,.int .i64 m.k,.bool m.sw,.bool m.nt])
theorem QG {l:List TK0}{f p c:Nat}{r:List OP}:Cr l (f+1) 3 p c r=match Cr l f 4 p c [] with
 |some (.ok q p)=>
  if AP l p 1 E0=true then some (PX l (p+1) c q)
  else (match HM l p with
   |none=>some (.ok q p)
   |some m=>(match Cr l f 4 (p+1) (c+q.length) [] with
    |some (.ok q2 p)=>some (KO l p c m q q2)
    |x=>x))
 |x=>x:=by rw[Cr,if_neg (by omega),if_neg (by omega),if_pos rfl];rfl
def SL:AV:=(.agg [.r (.string ⟨#[61]⟩),.r (.int .i64 6),.r (.bool false),.r (.bool false),.r (.string ⟨#[60,62]⟩),.r (.int .i64 6),.r (.bool false),.r (.bool true),.r (.string ⟨#[60]⟩),.r (.int .i64 7),.r (.bool false),.r (.bool false),.r (.string ⟨#[62]⟩),.r (.int .i64 7),.r (.bool true),.r (.bool false),.r (.string ⟨#[62,61]⟩),.r (.int .i64 7),.r (.bool false),.r (.bool true),.r (.string ⟨#[60,61]⟩),.r (.int .i64 7),.r (.bool true),.r (.bool true)])
theorem QO {l:List TK0}{p k:Nat}{m:CM}(h: ∀j m,j<k→KT[j]?=some m→AP l p 4 m.s=false)(hm:KT[k]?=some m)(ho:AP l p 4 m.s=true):HM l p=some m:=by
 obtain⟨hk,rfl⟩:=List.getElem?_eq_some_iff.1 hm;exact List.find?_eq_some_iff_getElem.2 ⟨ho,k,hk,rfl,fun j hj=>by rw[h j _ hj (List.getElem?_eq_getElem (by omega))];rfl⟩
theorem QN {l:List TK0}{p:Nat}(h: ∀j m,j<6→KT[j]?=some m→AP l p 4 m.s=false):HM l p=none:=by
 refine List.find?_eq_none.2 fun m hm=>?_;obtain⟨j,hj⟩:=List.mem_iff_getElem?.1 hm;rw[h j m (List.getElem?_eq_some_iff.1 hj).1 hj];decide
theorem DM {l:List TK0}{p c q:Nat}{r r':List OP}{o:OP}(h:C3 l p c r o= .ok r' q):r'.length=r.length+1:=by
 obtain⟨rfl,_,_⟩:=BV h;simp
theorem Pz {l:List TK0}{p c r:Nat}{q q':List OP}{nt:Bool}(h:KR l p c q nt= .ok q' r):0<q'.length:=by
 unfold KR at h;split at h
 ·split at h
  ·rename_i h3
   have:=DM h3;split at h
   ·have:=DM h;omega
   ·cases h;omega
  ·cases h
 ·cases h
theorem Q1 {l:List TK0}{p c r:Nat}{q q':List OP}(h:PX l p c q= .ok q' r):0<q'.length:=by
 unfold PX at h;split at h<;>exact Pz h
theorem PD {l:List TK0}{p c r:Nat}{m:CM}{q q2 q':List OP}(h:KO l p c m q q2= .ok q' r):0<q'.length:=by
 unfold KO at h;split at h
 ·rename_i h3
  have:=DM h3;split at h
  ·have:=DM h;omega
  ·cases h;omega
 ·cases h
theorem RW (l:List TK0): ∀(f n p c:Nat)(r q:List OP)(p':Nat),Cr l f n p c r=some (.ok q p')→n≤13→(n≤6→0<q.length)∧(7≤n→r.length≤q.length):=by
 intro f
 induction f with
 |zero=>intro n p c r q p' h;cases h
 |succ f ih=>
  intro n p c r q p' h hn;rw[Cr] at h
  by_cases h6:n=6
  ·subst h6
   rw[if_pos rfl] at h;refine⟨fun _=>?_,fun h=>by omega⟩;split at h
   ·cases h
   ·injection h with h;have:=DM h;omega
   ·split at h
    ·split at h
     ·rename_i q1 p1 hy
      injection h with h
      split at h
      ·cases h;exact(ih _ _ _ _ _ _ hy (by omega)).1 (by omega)
      ·cases h
     ·rename_i hy
      exact(ih _ _ _ _ _ _ h (by omega)).1 (by omega)
    ·split at h
     ·cases h
     ·injection h with h;have:=DM h;omega
  rw[if_neg h6] at h
  by_cases h2:n=2
  ·subst h2
   rw[if_pos rfl] at h;refine⟨fun _=>?_,fun h=>by omega⟩;split at h
   ·split at h
    ·injection h with h;have:=DM h;omega
    ·exact(ih _ _ _ _ _ _ h (by omega)).1 (by omega)
   ·exact(ih _ _ _ _ _ _ h (by omega)).1 (by omega)
  rw[if_neg h2] at h
  by_cases h3:n=3
  ·subst h3
   rw[if_pos rfl] at h;refine⟨fun _=>?_,fun h=>by omega⟩;split at h
   ·rename_i q1 p1 hy
    have h1:=(ih _ _ _ _ _ _ hy (by omega)).1 (by omega);split at h
    ·injection h with h;exact Q1 h
    ·split at h
     ·cases h;exact h1
     ·split at h
      ·injection h with h;exact PD h
      ·exact(ih _ _ _ _ _ _ h (by omega)).1 (by omega)
   ·exact(ih _ _ _ _ _ _ h (by omega)).1 (by omega)
  rw[if_neg h3] at h
  by_cases h7:n<6
  ·rw[if_pos h7] at h
   refine⟨fun _=>?_,fun h=>by omega⟩;split at h
   ·rename_i q1 p1 hy
    have h1:=(ih _ _ _ _ _ _ hy (by omega)).1 (by omega);have h4:=(ih _ _ _ _ _ _ h (by omega)).2 (by omega);omega
   ·exact(ih _ _ _ _ _ _ h (by omega)).1 (by omega)
  rw[if_neg h7] at h;refine⟨fun h=>by omega,fun _=>?_⟩;split at h
  ·cases h;exact Nat.le_refl _
  ·split at h
   ·split at h
    ·rename_i hput
     have h1:=DM hput;have h4:=(ih _ _ _ _ _ _ h (by omega)).2 (by omega);rw[List.length_append] at h1;omega
    ·cases h
   ·rename_i k ho y hy
    have:=Cc ho
    exact absurd h (by
     intro h;have h8:=hy q p'
     exact h8 h)
theorem QL {P:Program}{E:Env}{N:Nat}{st:AS}{AQ:AExit→AS→Prop}{x y:Code}(fx:AS)(h:AWP P E N y fx AQ)(h2: ∀K:AS→Prop,(∀st',Emb E N st' fx→K st')→AWP P E N x st (Ek K AQ)):AWP P E N (.seq x y) st AQ:=A6 (h2 _ fun st' he=>AWP.emb he h)
set_option maxHeartbeats 8000000 in
theorem MO {G:List (Nat×List Value)}(T:TabsP G){l:List TK0}(hl:l.length≤100)(F:Nat)(I4:Df G l 66 F 4)(p:Nat)(q0:List OP)(hp:p≤l.length)(hq:q0.length≤40)(q1:List OP)(p1:Nat)(hy:Cr l F 4 p q0.length []=some (.ok q1 p1))(ho:AP l p1 1 E0=false)(x:PR (List OP))
  (hx:(match HM l p1 with |none=>some (.ok q1 p1) |some m=>(match Cr l F 4 (p1+1) (q0.length+q1.length) [] with |some (.ok q2 p)=>some (KO l p q0.length m q1 q2) |x=>x))=some x):
  Con prog G 65 [.p 0 0 0] (BR l p q0) 2 (PQ x (fun _ _=> .tup []) (fun r p=>[(0,Bq l p 2 (q0++r).length),(2,B4 (q0++r))]) 3) (PP x 2):=by
 have Tm:=T.cms;simp only[KT,List.flatMap_cons,List.flatMap_nil,JQ,U5,U7,UG,UQ,UA,str,List.append_nil,List.cons_append,List.nil_append] at Tm;have b0:=CQ hy hp (by omega) (fun h=>by omega) hq;have c0:=(I4 p q0 _ hy hp hq).ok rfl;(try dsimp only at c0);obtain⟨b1,b4,_,b2⟩:=b0 q1 p1 rfl;have b4:=b4 (by omega);obtain⟨t1,ht1⟩: ∃t1,t1=q0++q1:=⟨_,rfl⟩;rw[←ht1] at c0
 have hl1:t1.length=q0.length+q1.length:=by rw[ht1];exact List.length_append
 have ec:=CT G l p1 t1 1 E0 hl (by omega) ho;simp only[E0,str] at ec;unfold BR Bq B4 at c0 ec ⊢;refine A8 func65 rfl (by kernel_rfl) (of_decide_eq_true (by kernel_rfl)) ?_;intro E hG hE;subst hG;simp only[Ai];(repeat' (first |refine A6 ?_ |refine A2 ?_ |refine A3 ?_ |refine A5 ?_ |((first |refine rR (fun K kp hK hkp=>?_) |refine oR [0,1] c0 ?_ |refine oR [0,2] ec ?_ |refine iG ?_);simp(implicitDefEqProofs:=false) (maxSteps:=2000000) (disch:=omega) only[go_sem,Tm];(repeat' (first |(refine hK _ ?_;clear hK hkp kp K) |(with_reducible refine And.intro ?_ ?_) |omega))) |((first |refine aG (fun h=>?_) (fun h=>?_) |refine aD (fun h=>?_) (fun h=>?_) |refine aX (fun h=>?_) (fun h=>?_))<;>simp only[h]) |refine A0 rfl ?_ |refine A1 rfl ?_ |((refine A4 rfl (fun h=>?_) (fun h=>?_)<;>try simp only[AK] at h)<;>(try (exfalso;omega))) |refine A7 ?_));refine Ap (fun k:Nat=>⟨[(29,.r (.int .i64 k)),(28,SL),(2,.r (.int .i64 q0.length)),(0,.p 0 0 0)],[(0,.box 43 [.ro true 3 (l.map eT),.r (.int .i64 p1),.s 2 0 t1.length]),(2,.lst 73 5 (t1.map eO))],3⟩) (fun k=>k≤6∧ ∀j m,j<k→KT[j]?=some m→AP l p1 4 m.s=false) (fun k=>6 - k) 0 ?_ ?_ ?_
 ·exact⟨Nat.zero_le _,fun j m h=>by omega⟩
 ·(refine Am hE [0,1,2] rfl ?_ ?_<;>simp[Bi,AH,lk,ren,renL,A9,AG,SL]<;>(try omega))
 clear c0 ec b0;rintro k ⟨hk,hall⟩
 by_cases hk6:k<6
 rotate_left
 ·obtain rfl:k=6:=by omega
  rw[QN hall] at hx;cases hx;(repeat' (first |refine A6 ?_ |refine A2 ?_ |refine A3 ?_ |refine A5 ?_ |((first |refine rR (fun K kp hK hkp=>?_) |refine iG ?_);simp(implicitDefEqProofs:=false) (maxSteps:=2000000) (disch:=omega) only[go_sem];(repeat' (first |(refine hK _ ?_;clear hK hkp kp K) |(with_reducible refine And.intro ?_ ?_) |omega))) |((first |refine aG (fun h=>?_) (fun h=>?_) |refine aD (fun h=>?_) (fun h=>?_) |refine aX (fun h=>?_) (fun h=>?_))<;>simp only[h]) |refine A0 rfl ?_ |refine A1 rfl ?_ |((refine A4 rfl (fun h=>?_) (fun h=>?_)<;>try simp only[AK] at h)<;>(try (exfalso;omega))) |refine A7 ?_));refine Bg ?_;rw[←ht1];(refine BM ?_;(refine AB (by(simp(implicitDefEqProofs:=false) (maxSteps:=2000000) (disch:=omega) only[go_sem,results65]);rfl) ?_;refine(AC hE [0,1,2] rfl ?_ ?_).s<;>simp[AI,AH,lk,ren,renL,A9,AG]))
 obtain⟨m,hm⟩: ∃m,KT[k]?=some m:=⟨_,List.getElem?_eq_getElem hk6⟩;have d1:decide ((k:Int)<6)=true:=decide_eq_true (by omega);refine A6 ?_;(refine rR (fun K kp hK hkp=>?_);simp(implicitDefEqProofs:=false) (maxSteps:=2000000) (disch:=omega) only[go_sem,d1];(repeat' (first |(refine hK _ ?_;clear hK hkp kp K) |(with_reducible refine And.intro ?_ ?_) |omega)));refine A6 ?_;refine A0 rfl ?_;refine A3 ?_;refine A6 ?_;refine A2 ?_;refine QL (fx:=⟨[(29,.r (.int .i64 k)),(28,SL),(5,.p 3 0 0),(2,.r (.int .i64 q0.length)),(0,.p 0 0 0)],[(3,.box 90 [.r (.string m.s),.r (.int .i64 m.k),.r (.bool m.sw),.r (.bool m.nt)]),(0,.box 43 [.ro true 3 (l.map eT),.r (.int .i64 p1),.s 2 0 t1.length]),(2,.lst 73 5 (t1.map eO))],4⟩) ?_ fun K hcut=>?_;rotate_left
 ·rcases k with _ |_ |_ |_ |_ |_ |k
  all_goals first |(exfalso;omega) |skip
  all_goals cases hm
  all_goals
   (repeat' (first |refine A6 ?_ |refine A2 ?_ |refine A3 ?_ |refine A5 ?_ |((first |refine rR (fun K kp hK hkp=>?_) |refine iG ?_);simp(implicitDefEqProofs:=false) (maxSteps:=2000000) (disch:=omega) only[go_sem,SL,List.drop_succ_cons,List.drop_zero,List.take_succ_cons,List.take_zero,Nat.zero_add,Nat.reduceAdd,Nat.reduceMul,Nat.reduceLeDiff,Nat.reduceLT,and_self,if_true,Int.toNat_natCast];(repeat' (first |(refine hK _ ?_;clear hK hkp kp K) |(with_reducible refine And.intro ?_ ?_) |omega))) |((first |refine aG (fun h=>?_) (fun h=>?_) |refine aD (fun h=>?_) (fun h=>?_) |refine aX (fun h=>?_) (fun h=>?_))<;>simp only[h]) |refine A0 rfl ?_ |refine A1 rfl ?_ |((refine A4 rfl (fun h=>?_) (fun h=>?_)<;>try simp only[AK] at h)<;>(try (exfalso;omega))) |refine A7 ?_));refine hcut _ ?_;(refine Am hE [0,1,2,3] rfl ?_ ?_<;>simp[Bi,AH,lk,ren,renL,A9,AG,SL,JQ,U5,U7,UG,UQ,UA,str]<;>(try omega))
 cases hon:AP l p1 4 m.s
 ·have ec:=CT E.G l p1 t1 4 m.s hl (by omega) hon
  unfold BR Bq B4 at ec;(repeat' (first |refine A6 ?_ |refine A2 ?_ |refine A3 ?_ |refine A5 ?_ |((first |refine rR (fun K kp hK hkp=>?_) |refine oR [0,2] ec ?_ |refine iG ?_);simp(implicitDefEqProofs:=false) (maxSteps:=2000000) (disch:=omega) only[go_sem];(repeat' (first |(refine hK _ ?_;clear hK hkp kp K) |(with_reducible refine And.intro ?_ ?_) |omega))) |((first |refine aG (fun h=>?_) (fun h=>?_) |refine aD (fun h=>?_) (fun h=>?_) |refine aX (fun h=>?_) (fun h=>?_))<;>simp only[h]) |refine A0 rfl ?_ |refine A1 rfl ?_ |((refine A4 rfl (fun h=>?_) (fun h=>?_)<;>try simp only[AK] at h)<;>(try (exfalso;omega))) |refine A7 ?_))
  ((first |(refine Ba (k+1) ?_ ?_ ?_) |(refine BT (k+1) ?_ ?_ ?_) |(refine nextE (k+1) ?_ ?_ ?_));rotate_left;(·(try dsimp only);(first |omega |(simp only[List.length_drop,List.length_cons,List.length_append];omega) |(simp;done) |(simp;omega)));(·(refine Am hE [0,1,2] rfl ?_ ?_<;>simp[Bi,AH,lk,ren,renL,A9,AG,SL]<;>(try omega))))
  refine⟨by omega,fun j m' hj hm'=>?_⟩
  rcases Nat.lt_or_ge j k with h |h
  ·exact hall j m' h hm'
  ·obtain rfl:j=k:=by omega
   rw[hm] at hm';cases hm';exact hon
 have hlt:=Aq hon;rw[QO hall hm hon] at hx;dsimp only at hx;have ec:=DX E.G l p1 t1 4 m.s hl (by omega) hon;unfold BR Bq B4 at ec
 cases hz:Cr l F 4 (p1+1) (q0.length+q1.length) [] with
 |none=>rw[hz] at hx;cases hx
 |some z=>
  rw[hz] at hx;have b3:=CQ hz hlt (by omega) (fun h=>by omega) b2;have c1:=I4 (p1+1) t1 z (by rw[hl1];exact hz) hlt (by omega)
  cases z with
  |bad e p3=>
   cases hx;have c1:=c1.bad rfl;unfold BR Bq B4 at c1;(repeat' (first |refine A6 ?_ |refine A2 ?_ |refine A3 ?_ |refine A5 ?_ |((first |refine rR (fun K kp hK hkp=>?_) |refine oR [0,2] ec ?_ |refine iG ?_);simp(implicitDefEqProofs:=false) (maxSteps:=2000000) (disch:=omega) only[go_sem];(repeat' (first |(refine hK _ ?_;clear hK hkp kp K) |(with_reducible refine And.intro ?_ ?_) |omega))) |refine oP [0,2] c1 ?_ |((first |refine aG (fun h=>?_) (fun h=>?_) |refine aD (fun h=>?_) (fun h=>?_) |refine aX (fun h=>?_) (fun h=>?_))<;>simp only[h]) |refine A0 rfl ?_ |refine A1 rfl ?_ |((refine A4 rfl (fun h=>?_) (fun h=>?_)<;>try simp only[AK] at h)<;>(try (exfalso;omega))) |refine A7 ?_));(refine hkp _ _ ?_;clear hkp hK kp K;refine AO (AD ?_);refine AC hE [0,1] rfl ?_ ?_<;>simp[AH,lk,ren,renL,A9,AG,Aa])
  |ok q2 p3=>
   have c1:=c1.ok rfl;(try dsimp only at c1);obtain⟨b5,b6,_,b7⟩:=b3 q2 p3 rfl;have b6:=b6 (by omega);dsimp only at hx;cases hx;obtain⟨t2,ht2⟩: ∃t2,t2=t1++q2:=⟨_,rfl⟩
   have et2:q0++q1++q2=t2:=by rw[ht2,ht1]
   rw[←ht2] at c1
   obtain⟨y,hyy⟩: ∃y,y=if m.sw=true then q2++q1 else q1++q2:=⟨_,rfl⟩
   have hyl:y.length=q1.length+q2.length:=by rw[hyy];split<;>simp only[List.length_append]<;>omega
   have pc:=Ca E.G l p3 q0 y (Ay m.k) hl (by omega) (by omega) (by omega);have ea:eO (Ay m.k)=[.r (.int .i64 m.k),.r (.int .i64 0),.r (.int .i64 0),.r (.string ⟨#[]⟩),.r (.string ⟨#[]⟩)]:=rfl;rw[ea] at pc;rw[KO,←hyy];obtain⟨ty,hty⟩: ∃ty,ty=q0++y:=⟨_,rfl⟩;rw[←hty] at pc;have hne:=(RW l F 4 p q0.length [] q1 p1 hy (by omega)).1 (by omega);unfold BR Bq B4 at c1;cases hsw:m.sw
   ·have es:ty=t2:=by rw[hty,hyy,hsw,←et2,List.append_assoc];rfl
    rw[es] at pc
    cases hput:C3 l p3 q0.length y (Ay m.k) with
    |bad e p4=>
     rw[hput] at pc;have pc:=pc.bad rfl;unfold BR Bq B4 at pc;(repeat' (first |refine A6 ?_ |refine A2 ?_ |refine A3 ?_ |refine A5 ?_ |((first |refine rR (fun K kp hK hkp=>?_) |refine oR [0,2] ec ?_ |refine oR [0,2] c1 ?_ |refine iG ?_);simp(implicitDefEqProofs:=false) (maxSteps:=2000000) (disch:=omega) only[go_sem,hsw];(repeat' (first |(refine hK _ ?_;clear hK hkp kp K) |(with_reducible refine And.intro ?_ ?_) |omega))) |refine oP [0,4] pc ?_ |((first |refine aG (fun h=>?_) (fun h=>?_) |refine aD (fun h=>?_) (fun h=>?_) |refine aX (fun h=>?_) (fun h=>?_))<;>simp only[h]) |refine A0 rfl ?_ |refine A1 rfl ?_ |((refine A4 rfl (fun h=>?_) (fun h=>?_)<;>try simp only[AK] at h)<;>(try (exfalso;omega))) |refine A7 ?_));(refine hkp _ _ ?_;clear hkp hK kp K;refine AO (AD ?_);refine AC hE [0,1] rfl ?_ ?_<;>simp[AH,lk,ren,renL,A9,AG,Aa])
    |ok r' p4=>
     obtain⟨hr',rfl,h5⟩:=BV hput;rw[hput] at pc;have pc:=pc.ok rfl;(try dsimp only at pc);dsimp only;obtain⟨t3,ht3⟩: ∃t3,t3=q0++r':=⟨_,rfl⟩;rw[←ht3] at pc;unfold BR Bq B4 at pc
     have hrl:r'.length=y.length+1:=by rw[hr'];simp
     cases hnt:m.nt
     ·simp only[Bool.false_eq_true,if_false]
      (repeat' (first |refine A6 ?_ |refine A2 ?_ |refine A3 ?_ |refine A5 ?_ |((first |refine rR (fun K kp hK hkp=>?_) |refine oR [0,2] ec ?_ |refine oR [0,2] c1 ?_ |refine oR [0,4] pc ?_ |refine iG ?_);simp(implicitDefEqProofs:=false) (maxSteps:=2000000) (disch:=omega) only[go_sem,hsw,hnt];(repeat' (first |(refine hK _ ?_;clear hK hkp kp K) |(with_reducible refine And.intro ?_ ?_) |omega))) |((first |refine aG (fun h=>?_) (fun h=>?_) |refine aD (fun h=>?_) (fun h=>?_) |refine aX (fun h=>?_) (fun h=>?_))<;>simp only[h]) |refine A0 rfl ?_ |refine A1 rfl ?_ |((refine A4 rfl (fun h=>?_) (fun h=>?_)<;>try simp only[AK] at h)<;>(try (exfalso;omega))) |refine A7 ?_));refine Bg ?_;rw[←ht3];(refine AB (by(simp(implicitDefEqProofs:=false) (maxSteps:=2000000) (disch:=omega) only[go_sem,results65]);rfl) ?_;refine(AC hE [0,1,5] rfl ?_ ?_).s<;>simp[AI,AH,lk,ren,renL,A9,AG])
     ·simp only[if_true]
      have pd:=Ca E.G l p4 q0 r' (Ay 5) hl (by omega) (by omega) (by omega);have eb:eO (Ay 5)=[.r (.int .i64 5),.r (.int .i64 0),.r (.int .i64 0),.r (.string ⟨#[]⟩),.r (.string ⟨#[]⟩)]:=rfl;rw[eb,←ht3] at pd
      cases hpu2:C3 l p4 q0.length r' (Ay 5) with
      |bad e p5=>
       rw[hpu2] at pd;have pd:=pd.bad rfl;unfold BR Bq B4 at pd;(repeat' (first |refine A6 ?_ |refine A2 ?_ |refine A3 ?_ |refine A5 ?_ |((first |refine rR (fun K kp hK hkp=>?_) |refine oR [0,2] ec ?_ |refine oR [0,2] c1 ?_ |refine oR [0,4] pc ?_ |refine iG ?_);simp(implicitDefEqProofs:=false) (maxSteps:=2000000) (disch:=omega) only[go_sem,hsw,hnt];(repeat' (first |(refine hK _ ?_;clear hK hkp kp K) |(with_reducible refine And.intro ?_ ?_) |omega))) |refine oP [0,5] pd ?_ |((first |refine aG (fun h=>?_) (fun h=>?_) |refine aD (fun h=>?_) (fun h=>?_) |refine aX (fun h=>?_) (fun h=>?_))<;>simp only[h]) |refine A0 rfl ?_ |refine A1 rfl ?_ |((refine A4 rfl (fun h=>?_) (fun h=>?_)<;>try simp only[AK] at h)<;>(try (exfalso;omega))) |refine A7 ?_));(refine hkp _ _ ?_;clear hkp hK kp K;refine AO (AD ?_);refine AC hE [0,1] rfl ?_ ?_<;>simp[AH,lk,ren,renL,A9,AG,Aa])
      |ok r2 p5=>
       rw[hpu2] at pd;have pd:=pd.ok rfl;(try dsimp only at pd);obtain⟨t4,ht4⟩: ∃t4,t4=q0++r2:=⟨_,rfl⟩;rw[←ht4] at pd;unfold BR Bq B4 at pd;(repeat' (first |refine A6 ?_ |refine A2 ?_ |refine A3 ?_ |refine A5 ?_ |((first |refine rR (fun K kp hK hkp=>?_) |refine oR [0,2] ec ?_ |refine oR [0,2] c1 ?_ |refine oR [0,4] pc ?_ |refine oR [0,5] pd ?_ |refine iG ?_);simp(implicitDefEqProofs:=false) (maxSteps:=2000000) (disch:=omega) only[go_sem,hsw,hnt];(repeat' (first |(refine hK _ ?_;clear hK hkp kp K) |(with_reducible refine And.intro ?_ ?_) |omega))) |((first |refine aG (fun h=>?_) (fun h=>?_) |refine aD (fun h=>?_) (fun h=>?_) |refine aX (fun h=>?_) (fun h=>?_))<;>simp only[h]) |refine A0 rfl ?_ |refine A1 rfl ?_ |((refine A4 rfl (fun h=>?_) (fun h=>?_)<;>try simp only[AK] at h)<;>(try (exfalso;omega))) |refine A7 ?_));refine Bg ?_;rw[←ht4];(refine AB (by(simp(implicitDefEqProofs:=false) (maxSteps:=2000000) (disch:=omega) only[go_sem,results65]);rfl) ?_;refine(AC hE [0,1,6] rfl ?_ ?_).s<;>simp[AI,AH,lk,ren,renL,A9,AG])
   ·have sc:=OF E.G l p3 q0 q1 q2 hl (by omega) (by omega) hne
    have es:q0++q2++q1=ty:=by rw[hty,hyy,hsw,if_pos rfl,List.append_assoc]
    rw[es,et2,←hl1] at sc;unfold BR Bq B4 at sc
    cases hput:C3 l p3 q0.length y (Ay m.k) with
    |bad e p4=>
     rw[hput] at pc;have pc:=pc.bad rfl;unfold BR Bq B4 at pc;(repeat' (first |refine A6 ?_ |refine A2 ?_ |refine A3 ?_ |refine A5 ?_ |((first |refine rR (fun K kp hK hkp=>?_) |refine oR [0,2] ec ?_ |refine oR [0,2] c1 ?_ |refine oR [0,4] sc ?_ |refine iG ?_);simp(implicitDefEqProofs:=false) (maxSteps:=2000000) (disch:=omega) only[go_sem,hsw];(repeat' (first |(refine hK _ ?_;clear hK hkp kp K) |(with_reducible refine And.intro ?_ ?_) |omega))) |refine oP [0,5] pc ?_ |((first |refine aG (fun h=>?_) (fun h=>?_) |refine aD (fun h=>?_) (fun h=>?_) |refine aX (fun h=>?_) (fun h=>?_))<;>simp only[h]) |refine A0 rfl ?_ |refine A1 rfl ?_ |((refine A4 rfl (fun h=>?_) (fun h=>?_)<;>try simp only[AK] at h)<;>(try (exfalso;omega))) |refine A7 ?_));(refine hkp _ _ ?_;clear hkp hK kp K;refine AO (AD ?_);refine AC hE [0,1] rfl ?_ ?_<;>simp[AH,lk,ren,renL,A9,AG,Aa])
    |ok r' p4=>
     obtain⟨hr',rfl,h5⟩:=BV hput;rw[hput] at pc;have pc:=pc.ok rfl;(try dsimp only at pc);dsimp only;obtain⟨t3,ht3⟩: ∃t3,t3=q0++r':=⟨_,rfl⟩;rw[←ht3] at pc;unfold BR Bq B4 at pc
     have hrl:r'.length=y.length+1:=by rw[hr'];simp
     cases hnt:m.nt
     ·simp only[Bool.false_eq_true,if_false]
      (repeat' (first |refine A6 ?_ |refine A2 ?_ |refine A3 ?_ |refine A5 ?_ |((first |refine rR (fun K kp hK hkp=>?_) |refine oR [0,2] ec ?_ |refine oR [0,2] c1 ?_ |refine oR [0,4] sc ?_ |refine oR [0,5] pc ?_ |refine iG ?_);simp(implicitDefEqProofs:=false) (maxSteps:=2000000) (disch:=omega) only[go_sem,hsw,hnt];(repeat' (first |(refine hK _ ?_;clear hK hkp kp K) |(with_reducible refine And.intro ?_ ?_) |omega))) |((first |refine aG (fun h=>?_) (fun h=>?_) |refine aD (fun h=>?_) (fun h=>?_) |refine aX (fun h=>?_) (fun h=>?_))<;>simp only[h]) |refine A0 rfl ?_ |refine A1 rfl ?_ |((refine A4 rfl (fun h=>?_) (fun h=>?_)<;>try simp only[AK] at h)<;>(try (exfalso;omega))) |refine A7 ?_));refine Bg ?_;rw[←ht3];(refine AB (by(simp(implicitDefEqProofs:=false) (maxSteps:=2000000) (disch:=omega) only[go_sem,results65]);rfl) ?_;refine(AC hE [0,1,6] rfl ?_ ?_).s<;>simp[AI,AH,lk,ren,renL,A9,AG])
     ·simp only[if_true]
      have pd:=Ca E.G l p4 q0 r' (Ay 5) hl (by omega) (by omega) (by omega);have eb:eO (Ay 5)=[.r (.int .i64 5),.r (.int .i64 0),.r (.int .i64 0),.r (.string ⟨#[]⟩),.r (.string ⟨#[]⟩)]:=rfl;rw[eb,←ht3] at pd
      cases hpu2:C3 l p4 q0.length r' (Ay 5) with
      |bad e p5=>
       rw[hpu2] at pd;have pd:=pd.bad rfl;unfold BR Bq B4 at pd;(repeat' (first |refine A6 ?_ |refine A2 ?_ |refine A3 ?_ |refine A5 ?_ |((first |refine rR (fun K kp hK hkp=>?_) |refine oR [0,2] ec ?_ |refine oR [0,2] c1 ?_ |refine oR [0,4] sc ?_ |refine oR [0,5] pc ?_ |refine iG ?_);simp(implicitDefEqProofs:=false) (maxSteps:=2000000) (disch:=omega) only[go_sem,hsw,hnt];(repeat' (first |(refine hK _ ?_;clear hK hkp kp K) |(with_reducible refine And.intro ?_ ?_) |omega))) |refine oP [0,6] pd ?_ |((first |refine aG (fun h=>?_) (fun h=>?_) |refine aD (fun h=>?_) (fun h=>?_) |refine aX (fun h=>?_) (fun h=>?_))<;>simp only[h]) |refine A0 rfl ?_ |refine A1 rfl ?_ |((refine A4 rfl (fun h=>?_) (fun h=>?_)<;>try simp only[AK] at h)<;>(try (exfalso;omega))) |refine A7 ?_));(refine hkp _ _ ?_;clear hkp hK kp K;refine AO (AD ?_);refine AC hE [0,1] rfl ?_ ?_<;>simp[AH,lk,ren,renL,A9,AG,Aa])
      |ok r2 p5=>
       rw[hpu2] at pd;have pd:=pd.ok rfl;(try dsimp only at pd);obtain⟨t4,ht4⟩: ∃t4,t4=q0++r2:=⟨_,rfl⟩;rw[←ht4] at pd;unfold BR Bq B4 at pd;(repeat' (first |refine A6 ?_ |refine A2 ?_ |refine A3 ?_ |refine A5 ?_ |((first |refine rR (fun K kp hK hkp=>?_) |refine oR [0,2] ec ?_ |refine oR [0,2] c1 ?_ |refine oR [0,4] sc ?_ |refine oR [0,5] pc ?_ |refine oR [0,6] pd ?_ |refine iG ?_);simp(implicitDefEqProofs:=false) (maxSteps:=2000000) (disch:=omega) only[go_sem,hsw,hnt];(repeat' (first |(refine hK _ ?_;clear hK hkp kp K) |(with_reducible refine And.intro ?_ ?_) |omega))) |((first |refine aG (fun h=>?_) (fun h=>?_) |refine aD (fun h=>?_) (fun h=>?_) |refine aX (fun h=>?_) (fun h=>?_))<;>simp only[h]) |refine A0 rfl ?_ |refine A1 rfl ?_ |((refine A4 rfl (fun h=>?_) (fun h=>?_)<;>try simp only[AK] at h)<;>(try (exfalso;omega))) |refine A7 ?_));refine Bg ?_;rw[←ht4];(refine AB (by(simp(implicitDefEqProofs:=false) (maxSteps:=2000000) (disch:=omega) only[go_sem,results65]);rfl) ?_;refine(AC hE [0,1,7] rfl ?_ ?_).s<;>simp[AI,AH,lk,ren,renL,A9,AG])
end Go.AM
namespace Go.AM
open Go Go.RowKit
open Go.Proofs.YtmgddlckgpfccaaDoor (OP Ac AY AR str)
attribute [local irreducible] AWP BS
set_option maxHeartbeats 8000000 in
theorem MP {G:List (Nat×List Value)}{l:List TK0}(hl:l.length≤100)(F:Nat)(I4:Df G l 66 F 4)(p:Nat)(q0:List OP)(hp:p≤l.length)(hq:q0.length≤40)(q1:List OP)(p1:Nat)(hy:Cr l F 4 p q0.length []=some (.ok q1 p1))(ho:AP l p1 1 E0=true)(x:PR (List OP))(hx:PX l (p1+1) q0.length q1=x):
  Con prog G 65 [.p 0 0 0] (BR l p q0) 2 (PQ x (fun _ _=> .tup []) (fun r p=>[(0,Bq l p 2 (q0++r).length),(2,B4 (q0++r))]) 3) (PP x 2):=by
 have b0:=CQ hy hp (by omega) (fun h=>by omega) hq;have c0:=(I4 p q0 _ hy hp hq).ok rfl;(try dsimp only at c0);obtain⟨b1,b4,_,b2⟩:=b0 q1 p1 rfl;have b4:=b4 (by omega);obtain⟨t1,ht1⟩: ∃t1,t1=q0++q1:=⟨_,rfl⟩;rw[←ht1] at c0
 have hl1:t1.length=q0.length+q1.length:=by rw[ht1];exact List.length_append
 have hlt:=Aq ho;have ec:=DX G l p1 t1 1 E0 hl (by omega) ho;simp only[E0,str] at ec;cases hnt:AP l (p1+1) 1 Bz
 ·have en:=CT G l (p1+1) t1 1 Bz hl (by omega) hnt
  simp only[Bz,str] at en;have mc:=L3 G false l (p1+1) t1 Ah hl (by omega);simp only[Bc,Ah,str] at mc
  have hxx:x=KR l (p1+1) q0.length q1 false:=by rw[PX,hnt] at hx;cases hx;rfl
  subst hxx;cases hnu:AP l (p1+1) 1 Ah
  ·refine Con.of_bad (e:=if l.length≤p1+1 then 7 else 6) (p:=p1+1) (by rw[KR,hnu];rfl) ?_
   have mc:=mc.bad (e:=if l.length≤p1+1 then 7 else 6) (p:=p1+1) (by change BH l (p1+1) [Ah]=_;rw[BH,hnu];rfl);generalize (if l.length≤p1+1 then (7:Int) else 6)=e at mc ⊢;unfold BR Bq B4 at *;refine A8 func65 rfl (by kernel_rfl) (of_decide_eq_true (by kernel_rfl)) ?_;intro E hG hE;subst hG;simp only[Ai];(repeat' (first |refine A6 ?_ |refine A2 ?_ |refine A3 ?_ |refine A5 ?_ |((first |refine rR (fun K kp hK hkp=>?_) |refine oR [0,1] c0 ?_ |refine oR [0,2] ec ?_ |refine oR [0,2] en ?_ |refine iG ?_);simp(implicitDefEqProofs:=false) (maxSteps:=2000000) (disch:=omega) only[go_sem];(repeat' (first |(refine hK _ ?_;clear hK hkp kp K) |(with_reducible refine And.intro ?_ ?_) |omega))) |refine oP [0,2] mc ?_ |((first |refine aG (fun h=>?_) (fun h=>?_) |refine aD (fun h=>?_) (fun h=>?_) |refine aX (fun h=>?_) (fun h=>?_))<;>simp only[h]) |refine A0 rfl ?_ |refine A1 rfl ?_ |((refine A4 rfl (fun h=>?_) (fun h=>?_)<;>try simp only[AK] at h)<;>(try (exfalso;omega))) |refine A7 ?_));(refine hkp _ _ ?_;clear hkp hK kp K;refine AD ?_;refine AC hE [0,1] rfl ?_ ?_<;>simp[AH,lk,ren,renL,A9,AG,Aa])
  ·have mc:=mc.ok (a:=()) (p:=p1+1+1) (by change BH l (p1+1) [Ah]=_;rw[BH,hnu];rfl)
   (try dsimp only at mc);have hlt3:=Aq hnu;have pc:=Ca G l (p1+1+1) q0 q1 (Ay 11) hl (by omega) (by omega) b2;have ea:eO (Ay 11)=[.r (.int .i64 11),.r (.int .i64 0),.r (.int .i64 0),.r (.string ⟨#[]⟩),.r (.string ⟨#[]⟩)]:=rfl;rw[ea,←ht1] at pc
   cases hput:C3 l (p1+1+1) q0.length q1 (Ay 11) with
   |bad e p4=>
    rw[hput] at pc;have pc:=pc.bad rfl;refine Con.of_bad (e:=e) (p:=p4) (by rw[KR,hnu,if_pos rfl,hput]) ?_;unfold BR Bq B4 at c0 ec en mc pc ⊢;refine A8 func65 rfl (by kernel_rfl) (of_decide_eq_true (by kernel_rfl)) ?_;intro E hG hE;subst hG;simp only[Ai];(repeat' (first |refine A6 ?_ |refine A2 ?_ |refine A3 ?_ |refine A5 ?_ |((first |refine rR (fun K kp hK hkp=>?_) |refine oR [0,1] c0 ?_ |refine oR [0,2] ec ?_ |refine oR [0,2] en ?_ |refine oR [0,2] mc ?_ |refine iG ?_);simp(implicitDefEqProofs:=false) (maxSteps:=2000000) (disch:=omega) only[go_sem];(repeat' (first |(refine hK _ ?_;clear hK hkp kp K) |(with_reducible refine And.intro ?_ ?_) |omega))) |refine oP [0,2] pc ?_ |((first |refine aG (fun h=>?_) (fun h=>?_) |refine aD (fun h=>?_) (fun h=>?_) |refine aX (fun h=>?_) (fun h=>?_))<;>simp only[h]) |refine A0 rfl ?_ |refine A1 rfl ?_ |((refine A4 rfl (fun h=>?_) (fun h=>?_)<;>try simp only[AK] at h)<;>(try (exfalso;omega))) |refine A7 ?_));(refine hkp _ _ ?_;clear hkp hK kp K;refine AD ?_;refine AC hE [0,1] rfl ?_ ?_<;>simp[AH,lk,ren,renL,A9,AG,Aa])
   |ok r' p4=>
    obtain⟨hr',rfl,h5⟩:=BV hput;rw[hput] at pc;have pc:=pc.ok rfl;(try dsimp only at pc);obtain⟨t3,ht3⟩: ∃t3,t3=q0++r':=⟨_,rfl⟩;rw[←ht3] at pc
    have hrl:r'.length=q1.length+1:=by rw[hr'];simp
    refine Con.of_ok (a:=r') (p:=p1+1+1) (by rw[KR,hnu,if_pos rfl,hput];rfl) ?_;(try dsimp only);rw[←ht3];unfold BR Bq B4 at c0 ec en mc pc ⊢;refine A8 func65 rfl (by kernel_rfl) (of_decide_eq_true (by kernel_rfl)) ?_;intro E hG hE;subst hG;simp only[Ai];(repeat' (first |refine A6 ?_ |refine A2 ?_ |refine A3 ?_ |refine A5 ?_ |((first |refine rR (fun K kp hK hkp=>?_) |refine oR [0,1] c0 ?_ |refine oR [0,2] ec ?_ |refine oR [0,2] en ?_ |refine oR [0,2] mc ?_ |refine oR [0,2] pc ?_ |refine iG ?_);simp(implicitDefEqProofs:=false) (maxSteps:=2000000) (disch:=omega) only[go_sem];(repeat' (first |(refine hK _ ?_;clear hK hkp kp K) |(with_reducible refine And.intro ?_ ?_) |omega))) |((first |refine aG (fun h=>?_) (fun h=>?_) |refine aD (fun h=>?_) (fun h=>?_) |refine aX (fun h=>?_) (fun h=>?_))<;>simp only[h]) |refine A0 rfl ?_ |refine A1 rfl ?_ |((refine A4 rfl (fun h=>?_) (fun h=>?_)<;>try simp only[AK] at h)<;>(try (exfalso;omega))) |refine A7 ?_));(refine AB (by(simp(implicitDefEqProofs:=false) (maxSteps:=2000000) (disch:=omega) only[go_sem,results65]);rfl) ?_;refine(AC hE [0,1,4] rfl ?_ ?_).s<;>simp[AI,AH,lk,ren,renL,A9,AG])
 ·have en:=DX G l (p1+1) t1 1 Bz hl (by omega) hnt
  simp only[Bz,str] at en;have hlt2:=Aq hnt;have mc:=L3 G false l (p1+1+1) t1 Ah hl (by omega);simp only[Bc,Ah,str] at mc
  have hxx:x=KR l (p1+1+1) q0.length q1 true:=by rw[PX,hnt] at hx;cases hx;rfl
  subst hxx;cases hnu:AP l (p1+1+1) 1 Ah
  ·refine Con.of_bad (e:=if l.length≤p1+1+1 then 7 else 6) (p:=p1+1+1) (by rw[KR,hnu];rfl) ?_
   have mc:=mc.bad (e:=if l.length≤p1+1+1 then 7 else 6) (p:=p1+1+1) (by change BH l (p1+1+1) [Ah]=_;rw[BH,hnu];rfl);generalize (if l.length≤p1+1+1 then (7:Int) else 6)=e at mc ⊢;unfold BR Bq B4 at *;refine A8 func65 rfl (by kernel_rfl) (of_decide_eq_true (by kernel_rfl)) ?_;intro E hG hE;subst hG;simp only[Ai];(repeat' (first |refine A6 ?_ |refine A2 ?_ |refine A3 ?_ |refine A5 ?_ |((first |refine rR (fun K kp hK hkp=>?_) |refine oR [0,1] c0 ?_ |refine oR [0,2] ec ?_ |refine oR [0,2] en ?_ |refine iG ?_);simp(implicitDefEqProofs:=false) (maxSteps:=2000000) (disch:=omega) only[go_sem];(repeat' (first |(refine hK _ ?_;clear hK hkp kp K) |(with_reducible refine And.intro ?_ ?_) |omega))) |refine oP [0,2] mc ?_ |((first |refine aG (fun h=>?_) (fun h=>?_) |refine aD (fun h=>?_) (fun h=>?_) |refine aX (fun h=>?_) (fun h=>?_))<;>simp only[h]) |refine A0 rfl ?_ |refine A1 rfl ?_ |((refine A4 rfl (fun h=>?_) (fun h=>?_)<;>try simp only[AK] at h)<;>(try (exfalso;omega))) |refine A7 ?_));(refine hkp _ _ ?_;clear hkp hK kp K;refine AD ?_;refine AC hE [0,1] rfl ?_ ?_<;>simp[AH,lk,ren,renL,A9,AG,Aa])
  ·have mc:=mc.ok (a:=()) (p:=p1+1+1+1) (by change BH l (p1+1+1) [Ah]=_;rw[BH,hnu];rfl)
   (try dsimp only at mc);have hlt3:=Aq hnu;have pc:=Ca G l (p1+1+1+1) q0 q1 (Ay 11) hl (by omega) (by omega) b2;have ea:eO (Ay 11)=[.r (.int .i64 11),.r (.int .i64 0),.r (.int .i64 0),.r (.string ⟨#[]⟩),.r (.string ⟨#[]⟩)]:=rfl;rw[ea,←ht1] at pc
   cases hput:C3 l (p1+1+1+1) q0.length q1 (Ay 11) with
   |bad e p4=>
    rw[hput] at pc;have pc:=pc.bad rfl;refine Con.of_bad (e:=e) (p:=p4) (by rw[KR,hnu,if_pos rfl,hput]) ?_;unfold BR Bq B4 at c0 ec en mc pc ⊢;refine A8 func65 rfl (by kernel_rfl) (of_decide_eq_true (by kernel_rfl)) ?_;intro E hG hE;subst hG;simp only[Ai];(repeat' (first |refine A6 ?_ |refine A2 ?_ |refine A3 ?_ |refine A5 ?_ |((first |refine rR (fun K kp hK hkp=>?_) |refine oR [0,1] c0 ?_ |refine oR [0,2] ec ?_ |refine oR [0,2] en ?_ |refine oR [0,2] mc ?_ |refine iG ?_);simp(implicitDefEqProofs:=false) (maxSteps:=2000000) (disch:=omega) only[go_sem];(repeat' (first |(refine hK _ ?_;clear hK hkp kp K) |(with_reducible refine And.intro ?_ ?_) |omega))) |refine oP [0,2] pc ?_ |((first |refine aG (fun h=>?_) (fun h=>?_) |refine aD (fun h=>?_) (fun h=>?_) |refine aX (fun h=>?_) (fun h=>?_))<;>simp only[h]) |refine A0 rfl ?_ |refine A1 rfl ?_ |((refine A4 rfl (fun h=>?_) (fun h=>?_)<;>try simp only[AK] at h)<;>(try (exfalso;omega))) |refine A7 ?_));(refine hkp _ _ ?_;clear hkp hK kp K;refine AD ?_;refine AC hE [0,1] rfl ?_ ?_<;>simp[AH,lk,ren,renL,A9,AG,Aa])
   |ok r' p4=>
    obtain⟨hr',rfl,h5⟩:=BV hput;rw[hput] at pc;have pc:=pc.ok rfl;(try dsimp only at pc);obtain⟨t3,ht3⟩: ∃t3,t3=q0++r':=⟨_,rfl⟩;rw[←ht3] at pc
    have hrl:r'.length=q1.length+1:=by rw[hr'];simp
    have pd:=Ca G l (p1+1+1+1) q0 r' (Ay 5) hl (by omega) (by omega) (by omega);have eb:eO (Ay 5)=[.r (.int .i64 5),.r (.int .i64 0),.r (.int .i64 0),.r (.string ⟨#[]⟩),.r (.string ⟨#[]⟩)]:=rfl;rw[eb,←ht3] at pd
    cases hpu2:C3 l (p1+1+1+1) q0.length r' (Ay 5) with
    |bad e p5=>
     rw[hpu2] at pd;have pd:=pd.bad rfl;refine Con.of_bad (e:=e) (p:=p5) (by rw[KR,hnu,if_pos rfl,hput];exact hpu2) ?_;unfold BR Bq B4 at c0 ec en mc pc pd ⊢;refine A8 func65 rfl (by kernel_rfl) (of_decide_eq_true (by kernel_rfl)) ?_;intro E hG hE;subst hG;simp only[Ai];(repeat' (first |refine A6 ?_ |refine A2 ?_ |refine A3 ?_ |refine A5 ?_ |((first |refine rR (fun K kp hK hkp=>?_) |refine oR [0,1] c0 ?_ |refine oR [0,2] ec ?_ |refine oR [0,2] en ?_ |refine oR [0,2] mc ?_ |refine oR [0,2] pc ?_ |refine iG ?_);simp(implicitDefEqProofs:=false) (maxSteps:=2000000) (disch:=omega) only[go_sem];(repeat' (first |(refine hK _ ?_;clear hK hkp kp K) |(with_reducible refine And.intro ?_ ?_) |omega))) |refine oP [0,4] pd ?_ |((first |refine aG (fun h=>?_) (fun h=>?_) |refine aD (fun h=>?_) (fun h=>?_) |refine aX (fun h=>?_) (fun h=>?_))<;>simp only[h]) |refine A0 rfl ?_ |refine A1 rfl ?_ |((refine A4 rfl (fun h=>?_) (fun h=>?_)<;>try simp only[AK] at h)<;>(try (exfalso;omega))) |refine A7 ?_));(refine hkp _ _ ?_;clear hkp hK kp K;refine AD ?_;refine AC hE [0,1] rfl ?_ ?_<;>simp[AH,lk,ren,renL,A9,AG,Aa])
    |ok r2 p5=>
     rw[hpu2] at pd;have pd:=pd.ok rfl;(try dsimp only at pd);refine Con.of_ok (a:=r2) (p:=p5) (by rw[KR,hnu,if_pos rfl,hput];exact hpu2) ?_;(try dsimp only);obtain⟨t4,ht4⟩: ∃t4,t4=q0++r2:=⟨_,rfl⟩;rw[←ht4] at pd ⊢;unfold BR Bq B4 at c0 ec en mc pc pd ⊢;refine A8 func65 rfl (by kernel_rfl) (of_decide_eq_true (by kernel_rfl)) ?_;intro E hG hE;subst hG;simp only[Ai];(repeat' (first |refine A6 ?_ |refine A2 ?_ |refine A3 ?_ |refine A5 ?_ |((first |refine rR (fun K kp hK hkp=>?_) |refine oR [0,1] c0 ?_ |refine oR [0,2] ec ?_ |refine oR [0,2] en ?_ |refine oR [0,2] mc ?_ |refine oR [0,2] pc ?_ |refine oR [0,4] pd ?_ |refine iG ?_);simp(implicitDefEqProofs:=false) (maxSteps:=2000000) (disch:=omega) only[go_sem];(repeat' (first |(refine hK _ ?_;clear hK hkp kp K) |(with_reducible refine And.intro ?_ ?_) |omega))) |((first |refine aG (fun h=>?_) (fun h=>?_) |refine aD (fun h=>?_) (fun h=>?_) |refine aX (fun h=>?_) (fun h=>?_))<;>simp only[h]) |refine A0 rfl ?_ |refine A1 rfl ?_ |((refine A4 rfl (fun h=>?_) (fun h=>?_)<;>try simp only[AK] at h)<;>(try (exfalso;omega))) |refine A7 ?_));(refine AB (by(simp(implicitDefEqProofs:=false) (maxSteps:=2000000) (disch:=omega) only[go_sem,results65]);rfl) ?_;refine(AC hE [0,1,5] rfl ?_ ?_).s<;>simp[AI,AH,lk,ren,renL,A9,AG])
theorem KL {G:List (Nat×List Value)}(T:TabsP G){l:List TK0}(hl:l.length≤100)(F:Nat)(I4:Df G l 66 F 4):Df G l 65 (F+1) 3:=by
 intro p q0 x hx hp hq;rw[QG] at hx
 cases hy:Cr l F 4 p q0.length [] with
 |none=>rw[hy] at hx;cases hx
 |some y=>
  rw[hy] at hx
  cases y with
  |bad e p1=>
   cases hx;refine Con.of_bad rfl ?_;have c0:=(I4 p q0 _ hy hp hq).bad rfl;unfold BR Bq B4 at c0 ⊢;refine A8 func65 rfl (by kernel_rfl) (of_decide_eq_true (by kernel_rfl)) ?_;intro E hG hE;subst hG;simp only[Ai];(repeat' (first |refine A6 ?_ |refine A2 ?_ |refine A3 ?_ |refine A5 ?_ |((first |refine rR (fun K kp hK hkp=>?_) |refine iG ?_);simp(implicitDefEqProofs:=false) (maxSteps:=2000000) (disch:=omega) only[go_sem];(repeat' (first |(refine hK _ ?_;clear hK hkp kp K) |(with_reducible refine And.intro ?_ ?_) |omega))) |refine oP [0,1] c0 ?_ |((first |refine aG (fun h=>?_) (fun h=>?_) |refine aD (fun h=>?_) (fun h=>?_) |refine aX (fun h=>?_) (fun h=>?_))<;>simp only[h]) |refine A0 rfl ?_ |refine A1 rfl ?_ |((refine A4 rfl (fun h=>?_) (fun h=>?_)<;>try simp only[AK] at h)<;>(try (exfalso;omega))) |refine A7 ?_));(refine hkp _ _ ?_;clear hkp hK kp K;refine AD ?_;refine AC hE [0,1] rfl ?_ ?_<;>simp[AH,lk,ren,renL,A9,AG,Aa])
  |ok q1 p1=>
   dsimp only at hx;cases ho:AP l p1 1 E0
   ·rw[ho] at hx
    exact MO T hl F I4 p q0 hp hq q1 p1 hy ho x hx
   ·rw[ho,if_pos rfl] at hx
    exact MP hl F I4 p q0 hp hq q1 p1 hy ho x (by injection hx)
theorem RI {G:List (Nat×List Value)}(T:TabsP G){l:List TK0}(hk: ∀t ∈ l,TokOk t)(hl:l.length≤100): ∀F,∀f,f≤F→Df G l 51 f 0∧Df G l 57 f 1∧Df G l 64 f 2∧Df G l 65 f 3∧Df G l 66 f 4∧Df G l 68 f 5∧Df G l 70 f 6:=by
 intro F
 induction F with
 |zero=>
  intro f hf
  obtain rfl:f=0:=by omega
  refine⟨?_,?_,?_,?_,?_,?_,?_⟩<;>intro p q0 x hx<;>cases hx
 |succ F ih=>
  intro f hf
  by_cases h:f≤F
  ·exact ih f h
  obtain rfl:f=F+1:=by omega
  have i0:=ih F (Nat.le_refl _)
  exact⟨Pl hl F (fun g hg=>(ih g hg).2.1),PM hl F (fun g hg=>(ih g hg).2.2.1),Og hl F i0.2.2.1 i0.2.2.2.1,KL T hl F i0.2.2.2.2.1,
   OG hl F (fun g hg=>(ih g hg).2.2.2.2.2.1),Jv hl F (fun g hg=>(ih g hg).2.2.2.2.2.2),Jw T.toTabs hk hl F i0.1⟩
end Go.AM
namespace Go.AM
open Go Go.RowKit
open Go.Proofs.YtmgddlckgpfccaaDoor (OP Ac AY AR str)
attribute [local irreducible] AWP BS
theorem DH {l:List TK0}{p:Nat}(hp:p≤l.length)(hl:l.length≤100):Cr l (8 * l.length+8) 0 p 0 []=some (DW l p)∧Tw l 0 p 0 (DW l p):=by
 obtain⟨x,hx,_⟩:=P6 l (8 * l.length+8) 0 p 0 [] hp (by unfold EG;rw[if_pos (by omega)];omega)
 have:DW l p=x:=by rw[DW,hx]
 rw[this];exact⟨hx,CQ hx hp (by omega) (fun h=>by omega) (by omega)⟩
end Go.AM
namespace Go.AM
open Go Go.RowKit
open Go.Proofs.YtmgddlckgpfccaaDoor (OP Ac AY AR str)
attribute [local irreducible] AWP BS
@[simp] theorem Uc:PT .any:= .any
@[reducible] def A_ (l:List TK0) (p:Nat):List (Nat×Nd):=[(0,.box 43 [.ro true 3 (l.map eT),.r (.int .i64 p),.any])]
theorem DV (G:List (Nat×List Value))(l:List TK0)(p:Nat)(e:Int)(hl:l.length≤100)(hp:p≤100):Con prog G 12 [.p 0 0 0,.r (.int .i64 e)] (A_ l p) 1 No (Is (Aa (if l.length≤p then 7 else e) p) [] 1):=by
 unfold A_
 by_cases h1:l.length≤p
 ·have d1:decide ((p:Int)≥(l.length:Int))=true:=decide_eq_true (by omega)
  rw[if_pos h1];refine A8 func12 rfl (by kernel_rfl) (of_decide_eq_true (by kernel_rfl)) ?_;intro E hG hE;subst hG;simp only[Ai];(repeat' (first |refine A6 ?_ |refine A2 ?_ |refine A3 ?_ |refine A5 ?_ |((first |refine rR (fun K kp hK hkp=>?_) |refine rD (id:=0) AA 10 [0,1,2,3,4,5,6,7,8,9] (fun K kp hK hkp=>?_) |refine iG ?_ |refine iD ?_);simp(implicitDefEqProofs:=false) (maxSteps:=2000000) (disch:=omega) only[go_sem,d1];(repeat' (first |(refine hK _ ?_;clear hK hkp kp K) |(with_reducible refine And.intro ?_ ?_) |omega))) |((first |refine aG (fun h=>?_) (fun h=>?_) |refine aD (fun h=>?_) (fun h=>?_) |refine aX (fun h=>?_) (fun h=>?_))<;>simp only[h]) |refine A0 rfl ?_ |refine A1 rfl ?_ |((refine A4 rfl (fun h=>?_) (fun h=>?_)<;>try simp only[AK] at h)<;>(try (exfalso;omega))) |refine A7 ?_));(refine hkp _ _ ?_;clear hkp hK kp K;refine AD ?_;refine AC hE [0] rfl ?_ ?_<;>simp[AH,lk,ren,renL,A9,AG,Aa])
 ·have d1:decide ((p:Int)≥(l.length:Int))=false:=decide_eq_false (by omega)
  rw[if_neg h1];refine A8 func12 rfl (by kernel_rfl) (of_decide_eq_true (by kernel_rfl)) ?_;intro E hG hE;subst hG;simp only[Ai];(repeat' (first |refine A6 ?_ |refine A2 ?_ |refine A3 ?_ |refine A5 ?_ |((first |refine rR (fun K kp hK hkp=>?_) |refine rD (id:=0) AA 10 [0,1,2,3,4,5,6,7,8,9] (fun K kp hK hkp=>?_) |refine iG ?_ |refine iD ?_);simp(implicitDefEqProofs:=false) (maxSteps:=2000000) (disch:=omega) only[go_sem,d1];(repeat' (first |(refine hK _ ?_;clear hK hkp kp K) |(with_reducible refine And.intro ?_ ?_) |omega))) |((first |refine aG (fun h=>?_) (fun h=>?_) |refine aD (fun h=>?_) (fun h=>?_) |refine aX (fun h=>?_) (fun h=>?_))<;>simp only[h]) |refine A0 rfl ?_ |refine A1 rfl ?_ |((refine A4 rfl (fun h=>?_) (fun h=>?_)<;>try simp only[AK] at h)<;>(try (exfalso;omega))) |refine A7 ?_));(refine hkp _ _ ?_;clear hkp hK kp K;refine AD ?_;refine AC hE [0] rfl ?_ ?_<;>simp[AH,lk,ren,renL,A9,AG,Aa])
theorem Oy (G:List (Nat×List Value))(l:List TK0)(p:Nat)(k:Int)(s:ByteArray)(hl:l.length≤100)(hp:p≤100):Con prog G 46 [.p 0 0 0,.r (.int .i64 k),.r (.string s)] (A_ l p) 1 (Is (.r (.bool (AP l p k s))) (A_ l p) 1) No:=by
 unfold A_
 cases hx:l[p]? with
 |none=>
  have h1:=List.getElem?_eq_none_iff.1 hx;have d1:decide ((p:Int)<(l.length:Int))=false:=decide_eq_false (by omega)
  have ho:AP l p k s=false:=by rw[AP,hx]
  rw[ho];refine A8 func46 rfl (by kernel_rfl) (of_decide_eq_true (by kernel_rfl)) ?_;intro E hG hE;subst hG;simp only[Ai];(repeat' (first |refine A6 ?_ |refine A2 ?_ |refine A3 ?_ |refine A5 ?_ |((first |refine rR (fun K kp hK hkp=>?_) |refine rD (id:=1) AA 41 [0,1,2,3,4,5,6,7,8,9,10,11,12,13,14,15,16,17,18,19,20,21,22,23,24,25,26,27,28,29,30,31,32,33,34,35,36,37,38,39,40] (fun K kp hK hkp=>?_) |refine iG ?_ |refine iD ?_);simp(implicitDefEqProofs:=false) (maxSteps:=2000000) (disch:=omega) only[go_sem,d1];(repeat' (first |(refine hK _ ?_;clear hK hkp kp K) |(with_reducible refine And.intro ?_ ?_) |omega))) |((first |refine aG (fun h=>?_) (fun h=>?_) |refine aD (fun h=>?_) (fun h=>?_) |refine aX (fun h=>?_) (fun h=>?_))<;>simp only[h]) |refine A0 rfl ?_ |refine A1 rfl ?_ |((refine A4 rfl (fun h=>?_) (fun h=>?_)<;>try simp only[AK] at h)<;>(try (exfalso;omega))) |refine A7 ?_));(refine AB (by(simp(implicitDefEqProofs:=false) (maxSteps:=2000000) (disch:=omega) only[go_sem,results46]);rfl) ?_;refine(AC hE [0] rfl ?_ ?_).s<;>simp[AI,AH,lk,ren,renL,A9,AG])
 |some x=>
  have h1:=(List.getElem?_eq_some_iff.1 hx).1;have d1:decide ((p:Int)<(l.length:Int))=true:=decide_eq_true (by omega)
  have ho:AP l p k s=((x.k==k)&&(x.s.toList==s.toList)):=by rw[AP,hx]
  rw[ho];cases d2:(x.k==k)
  ·refine A8 func46 rfl (by kernel_rfl) (of_decide_eq_true (by kernel_rfl)) ?_;intro E hG hE;subst hG;simp only[Ai]
   (repeat' (first |refine A6 ?_ |refine A2 ?_ |refine A3 ?_ |refine A5 ?_ |((first |refine rR (fun K kp hK hkp=>?_) |refine rD (id:=1) AA 41 [0,1,2,3,4,5,6,7,8,9,10,11,12,13,14,15,16,17,18,19,20,21,22,23,24,25,26,27,28,29,30,31,32,33,34,35,36,37,38,39,40] (fun K kp hK hkp=>?_) |refine iG ?_ |refine iD ?_);simp(implicitDefEqProofs:=false) (maxSteps:=2000000) (disch:=omega) only[go_sem,d1,hx,eT,d2];(repeat' (first |(refine hK _ ?_;clear hK hkp kp K) |(with_reducible refine And.intro ?_ ?_) |omega))) |((first |refine aG (fun h=>?_) (fun h=>?_) |refine aD (fun h=>?_) (fun h=>?_) |refine aX (fun h=>?_) (fun h=>?_))<;>simp only[h]) |refine A0 rfl ?_ |refine A1 rfl ?_ |((refine A4 rfl (fun h=>?_) (fun h=>?_)<;>try simp only[AK] at h)<;>(try (exfalso;omega))) |refine A7 ?_));(refine AB (by(simp(implicitDefEqProofs:=false) (maxSteps:=2000000) (disch:=omega) only[go_sem,results46]);rfl) ?_;refine(AC hE [0] rfl ?_ ?_).s<;>simp[AI,AH,lk,ren,renL,A9,AG])
  ·refine A8 func46 rfl (by kernel_rfl) (of_decide_eq_true (by kernel_rfl)) ?_;intro E hG hE;subst hG;simp only[Ai]
   (repeat' (first |refine A6 ?_ |refine A2 ?_ |refine A3 ?_ |refine A5 ?_ |((first |refine rR (fun K kp hK hkp=>?_) |refine rD (id:=1) AA 41 [0,1,2,3,4,5,6,7,8,9,10,11,12,13,14,15,16,17,18,19,20,21,22,23,24,25,26,27,28,29,30,31,32,33,34,35,36,37,38,39,40] (fun K kp hK hkp=>?_) |refine iG ?_ |refine iD ?_);simp(implicitDefEqProofs:=false) (maxSteps:=2000000) (disch:=omega) only[go_sem,d1,hx,eT,d2];(repeat' (first |(refine hK _ ?_;clear hK hkp kp K) |(with_reducible refine And.intro ?_ ?_) |omega))) |((first |refine aG (fun h=>?_) (fun h=>?_) |refine aD (fun h=>?_) (fun h=>?_) |refine aX (fun h=>?_) (fun h=>?_))<;>simp only[h]) |refine A0 rfl ?_ |refine A1 rfl ?_ |((refine A4 rfl (fun h=>?_) (fun h=>?_)<;>try simp only[AK] at h)<;>(try (exfalso;omega))) |refine A7 ?_));(refine AB (by(simp(implicitDefEqProofs:=false) (maxSteps:=2000000) (disch:=omega) only[go_sem,results46]);rfl) ?_;refine(AC hE [0] rfl ?_ ?_).s<;>simp[AI,AH,lk,ren,renL,A9,AG])
theorem AU (G:List (Nat×List Value))(l:List TK0)(p:Nat)(k:Int)(s:ByteArray)(hl:l.length≤100)(hp:p≤100)(ho:AP l p k s=false):Con prog G 24 [.p 0 0 0,.r (.int .i64 k),.r (.string s)] (A_ l p) 1 (Is (.r (.bool false)) (A_ l p) 1) No:=by
 have ic:=Oy G l p k s hl hp;rw[ho] at ic;unfold A_ at ic ⊢;refine A8 func24 rfl (by kernel_rfl) (of_decide_eq_true (by kernel_rfl)) ?_;intro E hG hE;subst hG;simp only[Ai];(repeat' (first |refine A6 ?_ |refine A2 ?_ |refine A3 ?_ |refine A5 ?_ |((first |refine rR (fun K kp hK hkp=>?_) |refine oR [0] ic ?_ |refine iG ?_);simp(implicitDefEqProofs:=false) (maxSteps:=2000000) (disch:=omega) only[go_sem];(repeat' (first |(refine hK _ ?_;clear hK hkp kp K) |(with_reducible refine And.intro ?_ ?_) |omega))) |((first |refine aG (fun h=>?_) (fun h=>?_) |refine aD (fun h=>?_) (fun h=>?_) |refine aX (fun h=>?_) (fun h=>?_))<;>simp only[h]) |refine A0 rfl ?_ |refine A1 rfl ?_ |((refine A4 rfl (fun h=>?_) (fun h=>?_)<;>try simp only[AK] at h)<;>(try (exfalso;omega))) |refine A7 ?_));(refine AB (by(simp(implicitDefEqProofs:=false) (maxSteps:=2000000) (disch:=omega) only[go_sem,results24]);rfl) ?_;refine(AC hE [0] rfl ?_ ?_).s<;>simp[AI,AH,lk,ren,renL,A9,AG])
theorem C0 (G:List (Nat×List Value))(l:List TK0)(p:Nat)(k:Int)(s:ByteArray)(hl:l.length≤100)(hp:p≤100)(ho:AP l p k s=true):Con prog G 24 [.p 0 0 0,.r (.int .i64 k),.r (.string s)] (A_ l p) 1 (Is (.r (.bool true)) (A_ l (p+1)) 1) No:=by
 have ic:=Oy G l p k s hl hp;rw[ho] at ic;unfold A_ at ic ⊢;refine A8 func24 rfl (by kernel_rfl) (of_decide_eq_true (by kernel_rfl)) ?_;intro E hG hE;subst hG;simp only[Ai];(repeat' (first |refine A6 ?_ |refine A2 ?_ |refine A3 ?_ |refine A5 ?_ |((first |refine rR (fun K kp hK hkp=>?_) |refine oR [0] ic ?_ |refine iG ?_);simp(implicitDefEqProofs:=false) (maxSteps:=2000000) (disch:=omega) only[go_sem];(repeat' (first |(refine hK _ ?_;clear hK hkp kp K) |(with_reducible refine And.intro ?_ ?_) |omega))) |((first |refine aG (fun h=>?_) (fun h=>?_) |refine aD (fun h=>?_) (fun h=>?_) |refine aX (fun h=>?_) (fun h=>?_))<;>simp only[h]) |refine A0 rfl ?_ |refine A1 rfl ?_ |((refine A4 rfl (fun h=>?_) (fun h=>?_)<;>try simp only[AK] at h)<;>(try (exfalso;omega))) |refine A7 ?_));(refine AB (by(simp(implicitDefEqProofs:=false) (maxSteps:=2000000) (disch:=omega) only[go_sem,results24]);rfl) ?_;refine(AC hE [0] rfl ?_ ?_).s<;>simp[AI,AH,lk,ren,renL,A9,AG])
theorem H1 (G:List (Nat×List Value))(l:List TK0)(p:Nat)(s:ByteArray)(hl:l.length≤100)(hp:p≤100):Con prog G 30 [.p 0 0 0,.r (.string s)] (A_ l p) 1
  (PQ (Ar l p s) (fun _ _=> .tup []) (fun _ p=>A_ l p) 1) (PP (Ar l p s) 1):=by
 cases ho:AP l p 4 s
 ·refine Con.of_bad (e:=if l.length≤p then 7 else 6) (p:=p) (by rw[Ar,ho];rfl) ?_
  have ec:=AU G l p 4 s hl hp ho;have gc:=DV G l p 6 hl hp;generalize (if l.length≤p then (7:Int) else 6)=e at gc ⊢;unfold A_ at *;refine A8 func30 rfl (by kernel_rfl) (of_decide_eq_true (by kernel_rfl)) ?_;intro E hG hE;subst hG;simp only[Ai];(repeat' (first |refine A6 ?_ |refine A2 ?_ |refine A3 ?_ |refine A5 ?_ |((first |refine rR (fun K kp hK hkp=>?_) |refine oR [0] ec ?_ |refine iG ?_);simp(implicitDefEqProofs:=false) (maxSteps:=2000000) (disch:=omega) only[go_sem];(repeat' (first |(refine hK _ ?_;clear hK hkp kp K) |(with_reducible refine And.intro ?_ ?_) |omega))) |refine oP [0] gc ?_ |((first |refine aG (fun h=>?_) (fun h=>?_) |refine aD (fun h=>?_) (fun h=>?_) |refine aX (fun h=>?_) (fun h=>?_))<;>simp only[h]) |refine A0 rfl ?_ |refine A1 rfl ?_ |((refine A4 rfl (fun h=>?_) (fun h=>?_)<;>try simp only[AK] at h)<;>(try (exfalso;omega))) |refine A7 ?_));(refine hkp _ _ ?_;clear hkp hK kp K;refine AD ?_;refine AC hE [0] rfl ?_ ?_<;>simp[AH,lk,ren,renL,A9,AG,Aa])
 ·refine Con.of_ok (a:=()) (p:=p+1) (by rw[Ar,ho];rfl) ?_
  have ec:=C0 G l p 4 s hl hp ho;unfold A_ at *;refine A8 func30 rfl (by kernel_rfl) (of_decide_eq_true (by kernel_rfl)) ?_;intro E hG hE;subst hG;simp only[Ai];(repeat' (first |refine A6 ?_ |refine A2 ?_ |refine A3 ?_ |refine A5 ?_ |((first |refine rR (fun K kp hK hkp=>?_) |refine oR [0] ec ?_ |refine iG ?_);simp(implicitDefEqProofs:=false) (maxSteps:=2000000) (disch:=omega) only[go_sem];(repeat' (first |(refine hK _ ?_;clear hK hkp kp K) |(with_reducible refine And.intro ?_ ?_) |omega))) |((first |refine aG (fun h=>?_) (fun h=>?_) |refine aD (fun h=>?_) (fun h=>?_) |refine aX (fun h=>?_) (fun h=>?_))<;>simp only[h]) |refine A0 rfl ?_ |refine A1 rfl ?_ |((refine A4 rfl (fun h=>?_) (fun h=>?_)<;>try simp only[AK] at h)<;>(try (exfalso;omega))) |refine A7 ?_));(refine BM ?_;(refine AB (by(simp(implicitDefEqProofs:=false) (maxSteps:=2000000) (disch:=omega) only[go_sem,results30]);rfl) ?_;refine(AC hE [0] rfl ?_ ?_).s<;>simp[AI,AH,lk,ren,renL,A9,AG]))
theorem FW {G:List (Nat×List Value)}(T:Tabs G)(l:List TK0)(p:Nat)(hl:l.length≤100)(hp:p≤100)(hs: ∀t ∈ l,Fh t.s):Con prog G 26 [.p 0 0 0] (A_ l p) 1
  (PQ (D8 l p) (fun s _=> .r (.string s)) (fun _ p=>A_ l p) 1) (PP (D8 l p) 1):=by
 cases hx:l[p]? with
 |none=>
  have h1:=List.getElem?_eq_none_iff.1 hx;refine Con.of_bad (e:=if l.length≤p then 7 else 6) (p:=p) (by rw[D8,hx];rfl) ?_;have d1:decide ((p:Int)≥(l.length:Int))=true:=decide_eq_true (by omega);have gc:=DV G l p 6 hl hp;generalize (if l.length≤p then (7:Int) else 6)=e at gc ⊢;unfold A_ at *;refine A8 func26 rfl (by kernel_rfl) (of_decide_eq_true (by kernel_rfl)) ?_;intro E hG hE;subst hG;simp only[Ai];(repeat' (first |refine A6 ?_ |refine A2 ?_ |refine A3 ?_ |refine A5 ?_ |((first |refine rR (fun K kp hK hkp=>?_) |refine rD (id:=1) AA 24 [0,1,2,3,4,5,6,7,8,9,10,11,12,13,14,15,16,17,18,19,20,21,22,23] (fun K kp hK hkp=>?_) |refine rD (id:=3) AA 12 [0,1,2,3,4,5,6,7,8,9,10,11] (fun K kp hK hkp=>?_) |refine iG ?_ |refine iD ?_);simp(implicitDefEqProofs:=false) (maxSteps:=2000000) (disch:=omega) only[go_sem,d1];(repeat' (first |(refine hK _ ?_;clear hK hkp kp K) |(with_reducible refine And.intro ?_ ?_) |omega))) |refine oP [0] gc ?_ |((first |refine aG (fun h=>?_) (fun h=>?_) |refine aD (fun h=>?_) (fun h=>?_) |refine aX (fun h=>?_) (fun h=>?_))<;>simp only[h]) |refine A0 rfl ?_ |refine A1 rfl ?_ |((refine A4 rfl (fun h=>?_) (fun h=>?_)<;>try simp only[AK] at h)<;>(try (exfalso;omega))) |refine A7 ?_));(refine hkp _ _ ?_;clear hkp hK kp K;refine AD ?_;refine AC hE [0] rfl ?_ ?_<;>simp[AH,lk,ren,renL,A9,AG,Aa])
 |some x=>
  have h1:=(List.getElem?_eq_some_iff.1 hx).1;have d1:decide ((p:Int)≥(l.length:Int))=false:=decide_eq_false (by omega);cases d2:(x.k !=1)
  ·have hk: ¬x.k≠1:=by simpa using d2
   have nc:=Kz T x.s (hs x (List.mem_of_getElem? hx));cases d3:(Ac x.s !=0)
   ·have hn: ¬Ac x.s≠0:=by simpa using d3
    refine Con.of_ok (a:=x.s) (p:=p+1) (by rw[D8,hx];simp only[if_neg hk,if_neg hn]) ?_;unfold A_ at *;refine A8 func26 rfl (by kernel_rfl) (of_decide_eq_true (by kernel_rfl)) ?_;intro E hG hE;subst hG;simp only[Ai];(repeat' (first |refine A6 ?_ |refine A2 ?_ |refine A3 ?_ |refine A5 ?_ |((first |refine rR (fun K kp hK hkp=>?_) |refine rD (id:=1) AA 24 [0,1,2,3,4,5,6,7,8,9,10,11,12,13,14,15,16,17,18,19,20,21,22,23] (fun K kp hK hkp=>?_) |refine rD (id:=3) AA 12 [0,1,2,3,4,5,6,7,8,9,10,11] (fun K kp hK hkp=>?_) |refine cR nc ?_ |refine cD nc ?_ |refine iG ?_ |refine iD ?_);simp(implicitDefEqProofs:=false) (maxSteps:=2000000) (disch:=omega) only[go_sem,d1,hx,eT,d2,d3];(repeat' (first |(refine hK _ ?_;clear hK hkp kp K) |(with_reducible refine And.intro ?_ ?_) |omega))) |((first |refine aG (fun h=>?_) (fun h=>?_) |refine aD (fun h=>?_) (fun h=>?_) |refine aX (fun h=>?_) (fun h=>?_))<;>simp only[h]) |refine A0 rfl ?_ |refine A1 rfl ?_ |((refine A4 rfl (fun h=>?_) (fun h=>?_)<;>try simp only[AK] at h)<;>(try (exfalso;omega))) |refine A7 ?_));(refine AB (by(simp(implicitDefEqProofs:=false) (maxSteps:=2000000) (disch:=omega) only[go_sem,results26]);rfl) ?_;refine(AC hE [0] rfl ?_ ?_).s<;>simp[AI,AH,lk,ren,renL,A9,AG])
   ·have hn:Ac x.s≠0:=by simpa using d3
    refine Con.of_bad (e:=if l.length≤p then 7 else Ac x.s) (p:=p) (by rw[D8,hx];simp only[if_neg hk,if_pos hn];rfl) ?_;have gc:=DV G l p (Ac x.s) hl hp;generalize (if l.length≤p then (7:Int) else Ac x.s)=e at gc ⊢;unfold A_ at *;refine A8 func26 rfl (by kernel_rfl) (of_decide_eq_true (by kernel_rfl)) ?_;intro E hG hE;subst hG;simp only[Ai];(repeat' (first |refine A6 ?_ |refine A2 ?_ |refine A3 ?_ |refine A5 ?_ |((first |refine rR (fun K kp hK hkp=>?_) |refine rD (id:=1) AA 24 [0,1,2,3,4,5,6,7,8,9,10,11,12,13,14,15,16,17,18,19,20,21,22,23] (fun K kp hK hkp=>?_) |refine rD (id:=3) AA 12 [0,1,2,3,4,5,6,7,8,9,10,11] (fun K kp hK hkp=>?_) |refine cR nc ?_ |refine cD nc ?_ |refine iG ?_ |refine iD ?_);simp(implicitDefEqProofs:=false) (maxSteps:=2000000) (disch:=omega) only[go_sem,d1,hx,eT,d2,d3];(repeat' (first |(refine hK _ ?_;clear hK hkp kp K) |(with_reducible refine And.intro ?_ ?_) |omega))) |refine oP [0] gc ?_ |((first |refine aG (fun h=>?_) (fun h=>?_) |refine aD (fun h=>?_) (fun h=>?_) |refine aX (fun h=>?_) (fun h=>?_))<;>simp only[h]) |refine A0 rfl ?_ |refine A1 rfl ?_ |((refine A4 rfl (fun h=>?_) (fun h=>?_)<;>try simp only[AK] at h)<;>(try (exfalso;omega))) |refine A7 ?_));(refine hkp _ _ ?_;clear hkp hK kp K;refine AD ?_;refine AC hE [0] rfl ?_ ?_<;>simp[AH,lk,ren,renL,A9,AG,Aa])
  ·have hk:x.k≠1:=by simpa using d2
   refine Con.of_bad (e:=if l.length≤p then 7 else 6) (p:=p) (by rw[D8,hx];simp only[if_pos hk];rfl) ?_;have gc:=DV G l p 6 hl hp;generalize (if l.length≤p then (7:Int) else 6)=e at gc ⊢;unfold A_ at *;refine A8 func26 rfl (by kernel_rfl) (of_decide_eq_true (by kernel_rfl)) ?_;intro E hG hE;subst hG;simp only[Ai];(repeat' (first |refine A6 ?_ |refine A2 ?_ |refine A3 ?_ |refine A5 ?_ |((first |refine rR (fun K kp hK hkp=>?_) |refine rD (id:=1) AA 24 [0,1,2,3,4,5,6,7,8,9,10,11,12,13,14,15,16,17,18,19,20,21,22,23] (fun K kp hK hkp=>?_) |refine rD (id:=3) AA 12 [0,1,2,3,4,5,6,7,8,9,10,11] (fun K kp hK hkp=>?_) |refine iG ?_ |refine iD ?_);simp(implicitDefEqProofs:=false) (maxSteps:=2000000) (disch:=omega) only[go_sem,d1,hx,eT,d2];(repeat' (first |(refine hK _ ?_;clear hK hkp kp K) |(with_reducible refine And.intro ?_ ?_) |omega))) |refine oP [0] gc ?_ |((first |refine aG (fun h=>?_) (fun h=>?_) |refine aD (fun h=>?_) (fun h=>?_) |refine aX (fun h=>?_) (fun h=>?_))<;>simp only[h]) |refine A0 rfl ?_ |refine A1 rfl ?_ |((refine A4 rfl (fun h=>?_) (fun h=>?_)<;>try simp only[AK] at h)<;>(try (exfalso;omega))) |refine A7 ?_));(refine hkp _ _ ?_;clear hkp hK kp K;refine AD ?_;refine AC hE [0] rfl ?_ ?_<;>simp[AH,lk,ren,renL,A9,AG,Aa])
set_option maxHeartbeats 4000000 in
theorem H0 (G:List (Nat×List Value))(t:Bool)(l:List TK0)(p:Nat)(s:ByteArray)(hl:l.length≤100)(hp:p≤100):Con prog G 25 [.p 0 0 0,.ro t 1 [Bc s]] (A_ l p) 1
  (PQ (BH l p [s]) (fun _ _=> .tup []) (fun _ p=>A_ l p) 1) (PP (BH l p [s]) 1):=by
 cases ho:AP l p 1 s
 ·refine Con.of_bad (e:=if l.length≤p then 7 else 6) (p:=p) (by rw[BH,ho];rfl) ?_
  have ec:=AU G l p 1 s hl hp ho;have gc:=DV G l p 6 hl hp;generalize (if l.length≤p then (7:Int) else 6)=e at gc ⊢;unfold A_ at *;refine A8 func25 rfl (by kernel_rfl) (of_decide_eq_true (by kernel_rfl)) ?_;intro E hG hE;subst hG;simp only[Ai];(repeat' (first |refine A6 ?_ |refine A2 ?_ |refine A3 ?_ |refine A5 ?_ |((first |refine rR (fun K kp hK hkp=>?_) |refine iG ?_);simp(implicitDefEqProofs:=false) (maxSteps:=2000000) (disch:=omega) only[go_sem];(repeat' (first |(refine hK _ ?_;clear hK hkp kp K) |(with_reducible refine And.intro ?_ ?_) |omega))) |((first |refine aG (fun h=>?_) (fun h=>?_) |refine aD (fun h=>?_) (fun h=>?_) |refine aX (fun h=>?_) (fun h=>?_))<;>simp only[h]) |refine A0 rfl ?_ |refine A1 rfl ?_ |((refine A4 rfl (fun h=>?_) (fun h=>?_)<;>try simp only[AK] at h)<;>(try (exfalso;omega))) |refine A7 ?_));refine Ap (fun k:Nat=>⟨[(8,.r (.int .i64 k)),(7,.r (.int .i64 1)),(6,.ro t 1 [Bc s]),(0,.p 0 0 0)],[(0,.box 43 [.ro true 3 (l.map eT),.r (.int .i64 p),.any])],1⟩) (fun k=>k=0) (fun k=>1 - k) 0 ?_ ?_ ?_
  ·rfl
  ·(refine Am hE [0] rfl ?_ ?_<;>simp[Bi,AH,lk,ren,renL,A9,AG]<;>(try omega))
  rintro k rfl;(repeat' (first |refine A6 ?_ |refine A2 ?_ |refine A3 ?_ |refine A5 ?_ |((first |refine rR (fun K kp hK hkp=>?_) |refine oR [0] ec ?_ |refine iG ?_);simp(implicitDefEqProofs:=false) (maxSteps:=2000000) (disch:=omega) only[go_sem,Bc];(repeat' (first |(refine hK _ ?_;clear hK hkp kp K) |(with_reducible refine And.intro ?_ ?_) |omega))) |refine oP [0] gc ?_ |((first |refine aG (fun h=>?_) (fun h=>?_) |refine aD (fun h=>?_) (fun h=>?_) |refine aX (fun h=>?_) (fun h=>?_))<;>simp only[h]) |refine A0 rfl ?_ |refine A1 rfl ?_ |((refine A4 rfl (fun h=>?_) (fun h=>?_)<;>try simp only[AK] at h)<;>(try (exfalso;omega))) |refine A7 ?_));(refine hkp _ _ ?_;clear hkp hK kp K;refine AD ?_;refine AC hE [0] rfl ?_ ?_<;>simp[AH,lk,ren,renL,A9,AG,Aa])
 ·refine Con.of_ok (a:=()) (p:=p+1) (by rw[BH,ho];rfl) ?_
  have ec:=C0 G l p 1 s hl hp ho;unfold A_ at *;refine A8 func25 rfl (by kernel_rfl) (of_decide_eq_true (by kernel_rfl)) ?_;intro E hG hE;subst hG;simp only[Ai];(repeat' (first |refine A6 ?_ |refine A2 ?_ |refine A3 ?_ |refine A5 ?_ |((first |refine rR (fun K kp hK hkp=>?_) |refine iG ?_);simp(implicitDefEqProofs:=false) (maxSteps:=2000000) (disch:=omega) only[go_sem];(repeat' (first |(refine hK _ ?_;clear hK hkp kp K) |(with_reducible refine And.intro ?_ ?_) |omega))) |((first |refine aG (fun h=>?_) (fun h=>?_) |refine aD (fun h=>?_) (fun h=>?_) |refine aX (fun h=>?_) (fun h=>?_))<;>simp only[h]) |refine A0 rfl ?_ |refine A1 rfl ?_ |((refine A4 rfl (fun h=>?_) (fun h=>?_)<;>try simp only[AK] at h)<;>(try (exfalso;omega))) |refine A7 ?_));refine Ap (fun k:Nat=>⟨[(8,.r (.int .i64 k)),(7,.r (.int .i64 1)),(6,.ro t 1 [Bc s]),(0,.p 0 0 0)],[(0,.box 43 [.ro true 3 (l.map eT),.r (.int .i64 (p+k:Nat)),.any])],1⟩) (fun k=>k≤1) (fun k=>1 - k) 0 ?_ ?_ ?_
  ·exact Nat.zero_le _
  ·(refine Am hE [0] rfl ?_ ?_<;>simp[Bi,AH,lk,ren,renL,A9,AG]<;>(try omega))
  rintro k hk
  rcases Nat.lt_or_eq_of_le hk with h |rfl
  ·obtain rfl:k=0:=by omega
   simp only[Nat.add_zero];(repeat' (first |refine A6 ?_ |refine A2 ?_ |refine A3 ?_ |refine A5 ?_ |((first |refine rR (fun K kp hK hkp=>?_) |refine oR [0] ec ?_ |refine iG ?_);simp(implicitDefEqProofs:=false) (maxSteps:=2000000) (disch:=omega) only[go_sem,Bc];(repeat' (first |(refine hK _ ?_;clear hK hkp kp K) |(with_reducible refine And.intro ?_ ?_) |omega))) |((first |refine aG (fun h=>?_) (fun h=>?_) |refine aD (fun h=>?_) (fun h=>?_) |refine aX (fun h=>?_) (fun h=>?_))<;>simp only[h]) |refine A0 rfl ?_ |refine A1 rfl ?_ |((refine A4 rfl (fun h=>?_) (fun h=>?_)<;>try simp only[AK] at h)<;>(try (exfalso;omega))) |refine A7 ?_))
   ((first |(refine Ba (1) ?_ ?_ ?_) |(refine BT (1) ?_ ?_ ?_) |(refine nextE (1) ?_ ?_ ?_));rotate_left;(·(try dsimp only);(first |omega |(simp only[List.length_drop,List.length_cons,List.length_append];omega) |(simp;done) |(simp;omega)));(·(refine Am hE [0] rfl ?_ ?_<;>simp[Bi,AH,lk,ren,renL,A9,AG,Bc]<;>(try omega))))
   exact Nat.le_refl _
  ·(repeat' (first |refine A6 ?_ |refine A2 ?_ |refine A3 ?_ |refine A5 ?_ |((first |refine rR (fun K kp hK hkp=>?_) |refine iG ?_);simp(implicitDefEqProofs:=false) (maxSteps:=2000000) (disch:=omega) only[go_sem];(repeat' (first |(refine hK _ ?_;clear hK hkp kp K) |(with_reducible refine And.intro ?_ ?_) |omega))) |((first |refine aG (fun h=>?_) (fun h=>?_) |refine aD (fun h=>?_) (fun h=>?_) |refine aX (fun h=>?_) (fun h=>?_))<;>simp only[h]) |refine A0 rfl ?_ |refine A1 rfl ?_ |((refine A4 rfl (fun h=>?_) (fun h=>?_)<;>try simp only[AK] at h)<;>(try (exfalso;omega))) |refine A7 ?_))
   (refine BM ?_;(refine AB (by(simp(implicitDefEqProofs:=false) (maxSteps:=2000000) (disch:=omega) only[go_sem,results25]);rfl) ?_;refine(AC hE [0] rfl ?_ ?_).s<;>simp[AI,AH,lk,ren,renL,A9,AG]))
set_option maxHeartbeats 8000000 in
theorem NZ (G:List (Nat×List Value))(l:List TK0)(p:Nat)(hl:l.length≤100)(hp:p≤100)(h:AP l p 1 Ah=true∨AP l p 1 BW=true∨AP l p 1 BD=true):Con prog G 50 [.p 0 0 0] (A_ l p) 1
  (PQ (Bj l p) Cy (fun _ p=>A_ l p) 1) (PP (Bj l p) 1):=by
 cases h1:AP l p 1 Ah
 ·have e1:=AU G l p 1 Ah hl hp h1
  simp only[Ah,str] at e1;cases h2:AP l p 1 BW
  ·have e2:=AU G l p 1 BW hl hp h2
   simp only[BW,str] at e2
   have h3:AP l p 1 BD=true:=by simpa[h1,h2] using h
   have e3:=C0 G l p 1 BD hl hp h3;simp only[BD,str] at e3;refine Con.of_ok (a:=some ⟨1,0,str []⟩) (p:=p+1) (by rw[Bj,h1,h2,h3];rfl) ?_;unfold A_ Cy at *;refine A8 func50 rfl (by kernel_rfl) (of_decide_eq_true (by kernel_rfl)) ?_;intro E hG hE;subst hG;simp only[Ai];(repeat' (first |refine A6 ?_ |refine A2 ?_ |refine A3 ?_ |refine A5 ?_ |((first |refine rR (fun K kp hK hkp=>?_) |refine rD (id:=7) AA 25 [0,1,2,3,4,5,6,7,8,9,10,11,12,13,14,15,16,17,18,19,20,21,22,23,24] (fun K kp hK hkp=>?_) |refine rD (id:=8) AA 13 [0,1,2,3,4,5,6,7,8,9,10,11,12] (fun K kp hK hkp=>?_) |refine rD (id:=11) AA 13 [0,1,2,3,4,5,6,7,8,9,10,11,12] (fun K kp hK hkp=>?_) |refine rD (id:=15) AA 24 [0,1,2,3,4,5,6,7,8,9,10,11,12,13,14,15,16,17,18,19,20,21,22,23] (fun K kp hK hkp=>?_) |refine rD (id:=17) AA 15 [0,1,2,3,4,5,6,7,8,9,10,11,12,13,14] (fun K kp hK hkp=>?_) |refine oR [0] e1 ?_ |refine oR [0] e2 ?_ |refine oR [0] e3 ?_ |refine iG ?_ |refine iD ?_);simp(implicitDefEqProofs:=false) (maxSteps:=2000000) (disch:=omega) only[go_sem];(repeat' (first |(refine hK _ ?_;clear hK hkp kp K) |(with_reducible refine And.intro ?_ ?_) |omega))) |((first |refine aG (fun h=>?_) (fun h=>?_) |refine aD (fun h=>?_) (fun h=>?_) |refine aX (fun h=>?_) (fun h=>?_))<;>simp only[h]) |refine A0 rfl ?_ |refine A1 rfl ?_ |((refine A4 rfl (fun h=>?_) (fun h=>?_)<;>try simp only[AK] at h)<;>(try (exfalso;omega))) |refine A7 ?_));(refine AB (by(simp(implicitDefEqProofs:=false) (maxSteps:=2000000) (disch:=omega) only[go_sem,results50,eV,str]);rfl) ?_;refine(AC hE [0] rfl ?_ ?_).s<;>simp[AI,AH,lk,ren,renL,A9,AG,eV,str])
  ·have e2:=C0 G l p 1 BW hl hp h2
   simp only[BW,str] at e2;refine Con.of_ok (a:=some ⟨1,1,str []⟩) (p:=p+1) (by rw[Bj,h1,h2];rfl) ?_;unfold A_ Cy at *;refine A8 func50 rfl (by kernel_rfl) (of_decide_eq_true (by kernel_rfl)) ?_;intro E hG hE;subst hG;simp only[Ai];(repeat' (first |refine A6 ?_ |refine A2 ?_ |refine A3 ?_ |refine A5 ?_ |((first |refine rR (fun K kp hK hkp=>?_) |refine rD (id:=7) AA 25 [0,1,2,3,4,5,6,7,8,9,10,11,12,13,14,15,16,17,18,19,20,21,22,23,24] (fun K kp hK hkp=>?_) |refine rD (id:=8) AA 13 [0,1,2,3,4,5,6,7,8,9,10,11,12] (fun K kp hK hkp=>?_) |refine rD (id:=11) AA 13 [0,1,2,3,4,5,6,7,8,9,10,11,12] (fun K kp hK hkp=>?_) |refine rD (id:=15) AA 24 [0,1,2,3,4,5,6,7,8,9,10,11,12,13,14,15,16,17,18,19,20,21,22,23] (fun K kp hK hkp=>?_) |refine rD (id:=17) AA 15 [0,1,2,3,4,5,6,7,8,9,10,11,12,13,14] (fun K kp hK hkp=>?_) |refine oR [0] e1 ?_ |refine oR [0] e2 ?_ |refine iG ?_ |refine iD ?_);simp(implicitDefEqProofs:=false) (maxSteps:=2000000) (disch:=omega) only[go_sem];(repeat' (first |(refine hK _ ?_;clear hK hkp kp K) |(with_reducible refine And.intro ?_ ?_) |omega))) |((first |refine aG (fun h=>?_) (fun h=>?_) |refine aD (fun h=>?_) (fun h=>?_) |refine aX (fun h=>?_) (fun h=>?_))<;>simp only[h]) |refine A0 rfl ?_ |refine A1 rfl ?_ |((refine A4 rfl (fun h=>?_) (fun h=>?_)<;>try simp only[AK] at h)<;>(try (exfalso;omega))) |refine A7 ?_));(refine AB (by(simp(implicitDefEqProofs:=false) (maxSteps:=2000000) (disch:=omega) only[go_sem,results50,eV,str]);rfl) ?_;refine(AC hE [0] rfl ?_ ?_).s<;>simp[AI,AH,lk,ren,renL,A9,AG,eV,str])
 ·have e1:=C0 G l p 1 Ah hl hp h1
  simp only[Ah,str] at e1;refine Con.of_ok (a:=some ⟨0,0,str []⟩) (p:=p+1) (by rw[Bj,h1];rfl) ?_;unfold A_ Cy at *;refine A8 func50 rfl (by kernel_rfl) (of_decide_eq_true (by kernel_rfl)) ?_;intro E hG hE;subst hG;simp only[Ai];(repeat' (first |refine A6 ?_ |refine A2 ?_ |refine A3 ?_ |refine A5 ?_ |((first |refine rR (fun K kp hK hkp=>?_) |refine rD (id:=7) AA 25 [0,1,2,3,4,5,6,7,8,9,10,11,12,13,14,15,16,17,18,19,20,21,22,23,24] (fun K kp hK hkp=>?_) |refine rD (id:=8) AA 13 [0,1,2,3,4,5,6,7,8,9,10,11,12] (fun K kp hK hkp=>?_) |refine rD (id:=11) AA 13 [0,1,2,3,4,5,6,7,8,9,10,11,12] (fun K kp hK hkp=>?_) |refine rD (id:=15) AA 24 [0,1,2,3,4,5,6,7,8,9,10,11,12,13,14,15,16,17,18,19,20,21,22,23] (fun K kp hK hkp=>?_) |refine rD (id:=17) AA 15 [0,1,2,3,4,5,6,7,8,9,10,11,12,13,14] (fun K kp hK hkp=>?_) |refine oR [0] e1 ?_ |refine iG ?_ |refine iD ?_);simp(implicitDefEqProofs:=false) (maxSteps:=2000000) (disch:=omega) only[go_sem];(repeat' (first |(refine hK _ ?_;clear hK hkp kp K) |(with_reducible refine And.intro ?_ ?_) |omega))) |((first |refine aG (fun h=>?_) (fun h=>?_) |refine aD (fun h=>?_) (fun h=>?_) |refine aX (fun h=>?_) (fun h=>?_))<;>simp only[h]) |refine A0 rfl ?_ |refine A1 rfl ?_ |((refine A4 rfl (fun h=>?_) (fun h=>?_)<;>try simp only[AK] at h)<;>(try (exfalso;omega))) |refine A7 ?_));(refine AB (by(simp(implicitDefEqProofs:=false) (maxSteps:=2000000) (disch:=omega) only[go_sem,results50,eV,str]);rfl) ?_;refine(AC hE [0] rfl ?_ ?_).s<;>simp[AI,AH,lk,ren,renL,A9,AG,eV,str])
set_option maxHeartbeats 8000000 in
theorem N_ (G:List (Nat×List Value))(l:List TK0)(p:Nat)(x:TK0)(hx:l[p]?=some x)(hl:l.length≤100)(hp:p≤100)(h1:AP l p 1 Ah=false)(h2:AP l p 1 BW=false)(h3:AP l p 1 BD=false)(hk:x.k=3):Con prog G 50 [.p 0 0 0] (A_ l p) 1
  (PQ (Bj l p) Cy (fun _ p=>A_ l p) 1) (PP (Bj l p) 1):=by
 have e1:=AU G l p 1 Ah hl hp h1;simp only[Ah,str] at e1;have e2:=AU G l p 1 BW hl hp h2;simp only[BW,str] at e2;have e3:=AU G l p 1 BD hl hp h3;simp only[BD,str] at e3;have hlt:=(List.getElem?_eq_some_iff.1 hx).1;have d1:decide ((p:Int)<(l.length:Int))=true:=decide_eq_true (by omega)
 have d2:(x.k==3)=true:=by simpa using hk
 have ht:CS l p=some x.s:=by rw[CS,hx];exact if_pos hk
 by_cases hs:20<x.s.size
 ·have d3:decide ((x.s.size:Int)>20)=true:=decide_eq_true (by omega)
  refine Con.of_bad (e:=if l.length≤p then 7 else 1) (p:=p) (by rw[Bj,h1,h2,h3,ht];simp only[Bool.false_eq_true,if_false,if_pos hs];rfl) ?_;have gc:=DV G l p 1 hl hp;generalize (if l.length≤p then (7:Int) else 1)=e at gc ⊢;unfold A_ at *;refine A8 func50 rfl (by kernel_rfl) (of_decide_eq_true (by kernel_rfl)) ?_;intro E hG hE;subst hG;simp only[Ai];(repeat' (first |refine A6 ?_ |refine A2 ?_ |refine A3 ?_ |refine A5 ?_ |((first |refine rR (fun K kp hK hkp=>?_) |refine rD (id:=7) AA 25 [0,1,2,3,4,5,6,7,8,9,10,11,12,13,14,15,16,17,18,19,20,21,22,23,24] (fun K kp hK hkp=>?_) |refine rD (id:=8) AA 13 [0,1,2,3,4,5,6,7,8,9,10,11,12] (fun K kp hK hkp=>?_) |refine rD (id:=11) AA 13 [0,1,2,3,4,5,6,7,8,9,10,11,12] (fun K kp hK hkp=>?_) |refine rD (id:=15) AA 24 [0,1,2,3,4,5,6,7,8,9,10,11,12,13,14,15,16,17,18,19,20,21,22,23] (fun K kp hK hkp=>?_) |refine rD (id:=17) AA 15 [0,1,2,3,4,5,6,7,8,9,10,11,12,13,14] (fun K kp hK hkp=>?_) |refine oR [0] e1 ?_ |refine oR [0] e2 ?_ |refine oR [0] e3 ?_ |refine iG ?_ |refine iD ?_);simp(implicitDefEqProofs:=false) (maxSteps:=2000000) (disch:=omega) only[go_sem,d1,hx,eT,d2,d3];(repeat' (first |(refine hK _ ?_;clear hK hkp kp K) |(with_reducible refine And.intro ?_ ?_) |omega))) |refine oP [0] gc ?_ |((first |refine aG (fun h=>?_) (fun h=>?_) |refine aD (fun h=>?_) (fun h=>?_) |refine aX (fun h=>?_) (fun h=>?_))<;>simp only[h]) |refine A0 rfl ?_ |refine A1 rfl ?_ |((refine A4 rfl (fun h=>?_) (fun h=>?_)<;>try simp only[AK] at h)<;>(try (exfalso;omega))) |refine A7 ?_));(refine hkp _ _ ?_;clear hkp hK kp K;refine AD ?_;refine AC hE [0] rfl ?_ ?_<;>simp[AH,lk,ren,renL,A9,AG,Aa])
 ·have d3:decide ((x.s.size:Int)>20)=false:=decide_eq_false (by omega)
  have z1:((p:Int)+1) - 1=(p:Int):=by omega
  refine Con.of_ok (a:=some ⟨3,0,x.s⟩) (p:=p+1) (by rw[Bj,h1,h2,h3,ht];simp only[Bool.false_eq_true,if_false,if_neg hs]) ?_;unfold A_ Cy at *;refine A8 func50 rfl (by kernel_rfl) (of_decide_eq_true (by kernel_rfl)) ?_;intro E hG hE;subst hG;simp only[Ai];(repeat' (first |refine A6 ?_ |refine A2 ?_ |refine A3 ?_ |refine A5 ?_ |((first |refine rR (fun K kp hK hkp=>?_) |refine rD (id:=7) AA 25 [0,1,2,3,4,5,6,7,8,9,10,11,12,13,14,15,16,17,18,19,20,21,22,23,24] (fun K kp hK hkp=>?_) |refine rD (id:=8) AA 13 [0,1,2,3,4,5,6,7,8,9,10,11,12] (fun K kp hK hkp=>?_) |refine rU (id:=11) AA 13 [⟨0,0,[],[]⟩,⟨0,0,[0],[]⟩,⟨0,0,[0,1],[]⟩,⟨0,0,[0,1,2],[]⟩,⟨0,0,[],[]⟩,⟨0,0,[4],[]⟩,⟨0,0,[4,5],[]⟩,⟨0,0,[4,5,6],[]⟩,⟨0,0,[4,5,6,7],[]⟩,⟨0,0,[0,1,2,3,4,5,6,7,8],[]⟩,⟨0,0,[0,1,2,3,4,5,6,7,8,9],[]⟩,⟨0,0,[0,1,2,3,4,5,6,7,8,9,10],[]⟩,⟨0,0,[0,1,2,3,4,5,6,7,8,9,10,11],[]⟩] 0 [64,65,66,67,68,69,70,71,72,73,74,75,76] [] (fun K kp hK hkp=>?_) |refine rD (id:=15) AA 24 [0,1,2,3,4,5,6,7,8,9,10,11,12,13,14,15,16,17,18,19,20,21,22,23] (fun K kp hK hkp=>?_) |refine rD (id:=17) AA 15 [0,1,2,3,4,5,6,7,8,9,10,11,12,13,14] (fun K kp hK hkp=>?_) |refine oR [0] e1 ?_ |refine oR [0] e2 ?_ |refine oR [0] e3 ?_ |refine iG ?_ |refine iD ?_);simp(implicitDefEqProofs:=false) (maxSteps:=2000000) (disch:=omega) only[go_sem,d1,hx,eT,d2,d3,z1];(repeat' (first |(refine hK _ ?_;clear hK hkp kp K) |(with_reducible refine And.intro ?_ ?_) |omega))) |((first |refine aG (fun h=>?_) (fun h=>?_) |refine aD (fun h=>?_) (fun h=>?_) |refine aX (fun h=>?_) (fun h=>?_))<;>simp only[h]) |refine A0 rfl ?_ |refine A1 rfl ?_ |((refine A4 rfl (fun h=>?_) (fun h=>?_)<;>try simp only[AK] at h)<;>(try (exfalso;omega))) |refine A7 ?_));(refine AB (by(simp(implicitDefEqProofs:=false) (maxSteps:=2000000) (disch:=omega) only[go_sem,results50,eV,str]);rfl) ?_;refine(AC hE [0] rfl ?_ ?_).s<;>simp[AI,AH,lk,ren,renL,A9,AG,eV,str])
set_option maxHeartbeats 8000000 in
theorem M5 (G:List (Nat×List Value))(l:List TK0)(p:Nat)(hk: ∀t ∈ l,TokOk t)(hl:l.length≤100)(hp:p≤100)(h1:AP l p 1 Ah=false)(h2:AP l p 1 BW=false)(h3:AP l p 1 BD=false)(ht:CS l p=none)(hm:AP l p 4 B7=true):Con prog G 50 [.p 0 0 0] (A_ l p) 1
  (PQ (Bj l p) Cy (fun _ p=>A_ l p) 1) (PP (Bj l p) 1):=by
 have e1:=AU G l p 1 Ah hl hp h1;simp only[Ah,str] at e1;have e2:=AU G l p 1 BW hl hp h2;simp only[BW,str] at e2;have e3:=AU G l p 1 BD hl hp h3;simp only[BD,str] at e3;have e4:=C0 G l p 4 B7 hl hp hm;simp only[B7,str] at e4;have hlt:=Aq hm;have d1:decide ((p:Int)<(l.length:Int))=true:=decide_eq_true (by omega);obtain⟨x,hx⟩: ∃x,l[p]?=some x:=⟨_,List.getElem?_eq_getElem hlt⟩;have d2:=DC ht hx
 have dm:decide ((-1:Int)<0)=true:=by decide
 cases hn:Bw l (p+1) with
 |none=>
  refine Con.of_bad (e:=if l.length≤p+1 then 7 else 6) (p:=p+1) (by rw[Bj,h1,h2,h3,ht,hm];simp only[Bool.false_eq_true,if_false,if_true,hn];rfl) ?_;have gc:=DV G l (p+1) 6 hl (by omega);generalize (if l.length≤p+1 then (7:Int) else 6)=e at gc ⊢
  cases hy:l[p+1]? with
  |none=>
   have:=List.getElem?_eq_none_iff.1 hy;have d3:decide (((p+1:Nat):Int)<(l.length:Int))=false:=decide_eq_false (by omega);unfold A_ at *;refine A8 func50 rfl (by kernel_rfl) (of_decide_eq_true (by kernel_rfl)) ?_;intro E hG hE;subst hG;simp only[Ai];(repeat' (first |refine A6 ?_ |refine A2 ?_ |refine A3 ?_ |refine A5 ?_ |((first |refine rR (fun K kp hK hkp=>?_) |refine rD (id:=7) AA 25 [0,1,2,3,4,5,6,7,8,9,10,11,12,13,14,15,16,17,18,19,20,21,22,23,24] (fun K kp hK hkp=>?_) |refine rD (id:=8) AA 13 [0,1,2,3,4,5,6,7,8,9,10,11,12] (fun K kp hK hkp=>?_) |refine rU (id:=11) AA 13 [⟨0,0,[],[]⟩,⟨0,0,[0],[]⟩,⟨0,0,[0,1],[]⟩,⟨0,0,[0,1,2],[]⟩,⟨0,0,[],[]⟩,⟨0,0,[4],[]⟩,⟨0,0,[4,5],[]⟩,⟨0,0,[4,5,6],[]⟩,⟨0,0,[4,5,6,7],[]⟩,⟨0,0,[0,1,2,3,4,5,6,7,8],[]⟩,⟨0,0,[0,1,2,3,4,5,6,7,8,9],[]⟩,⟨0,0,[0,1,2,3,4,5,6,7,8,9,10],[]⟩,⟨0,0,[0,1,2,3,4,5,6,7,8,9,10,11],[]⟩] 0 [64,65,66,67,68,69,70,71,72,73,74,75,76] [] (fun K kp hK hkp=>?_) |refine rD (id:=15) AA 24 [0,1,2,3,4,5,6,7,8,9,10,11,12,13,14,15,16,17,18,19,20,21,22,23] (fun K kp hK hkp=>?_) |refine rU (id:=17) AA 15 [⟨0,0,[],[]⟩,⟨0,0,[],[]⟩,⟨0,0,[1],[]⟩,⟨0,0,[1,2],[]⟩,⟨0,0,[1,2,3],[]⟩,⟨0,0,[],[]⟩,⟨0,0,[5],[]⟩,⟨0,0,[5,6],[]⟩,⟨0,0,[5,6,7],[]⟩,⟨0,0,[5,6,7,8],[]⟩,⟨0,0,[1,2,3,4,5,6,7,8,9],[]⟩,⟨0,0,[1,2,3,4,5,6,7,8,9,10],[]⟩,⟨0,0,[1,2,3,4,5,6,7,8,9,10,11],[]⟩,⟨0,0,[0,1,2,3,4,5,6,7,8,9,10,11,12],[]⟩,⟨0,0,[0,1,2,3,4,5,6,7,8,9,10,11,12,13],[]⟩] 0 [110,111,112,113,114,115,116,117,118,119,120,121,122,123,124] [] (fun K kp hK hkp=>?_) |refine oR [0] e1 ?_ |refine oR [0] e2 ?_ |refine oR [0] e3 ?_ |refine oR [0] e4 ?_ |refine iG ?_ |refine iD ?_);simp(implicitDefEqProofs:=false) (maxSteps:=2000000) (disch:=omega) only[go_sem,d1,hx,eT,d2,d3,dm];(repeat' (first |(refine hK _ ?_;clear hK hkp kp K) |(with_reducible refine And.intro ?_ ?_) |omega))) |refine oP [0] gc ?_ |((first |refine aG (fun h=>?_) (fun h=>?_) |refine aD (fun h=>?_) (fun h=>?_) |refine aX (fun h=>?_) (fun h=>?_))<;>simp only[h]) |refine A0 rfl ?_ |refine A1 rfl ?_ |((refine A4 rfl (fun h=>?_) (fun h=>?_)<;>try simp only[AK] at h)<;>(try (exfalso;omega))) |refine A7 ?_));(refine hkp _ _ ?_;clear hkp hK kp K;refine AD ?_;refine AC hE [0] rfl ?_ ?_<;>simp[AH,lk,ren,renL,A9,AG,Aa])
  |some y=>
   have:=(List.getElem?_eq_some_iff.1 hy).1;have d3:decide (((p+1:Nat):Int)<(l.length:Int))=true:=decide_eq_true (by omega);have d4:=Cn hn hy;unfold A_ at *;refine A8 func50 rfl (by kernel_rfl) (of_decide_eq_true (by kernel_rfl)) ?_;intro E hG hE;subst hG;simp only[Ai];(repeat' (first |refine A6 ?_ |refine A2 ?_ |refine A3 ?_ |refine A5 ?_ |((first |refine rR (fun K kp hK hkp=>?_) |refine rD (id:=7) AA 25 [0,1,2,3,4,5,6,7,8,9,10,11,12,13,14,15,16,17,18,19,20,21,22,23,24] (fun K kp hK hkp=>?_) |refine rD (id:=8) AA 13 [0,1,2,3,4,5,6,7,8,9,10,11,12] (fun K kp hK hkp=>?_) |refine rU (id:=11) AA 13 [⟨0,0,[],[]⟩,⟨0,0,[0],[]⟩,⟨0,0,[0,1],[]⟩,⟨0,0,[0,1,2],[]⟩,⟨0,0,[],[]⟩,⟨0,0,[4],[]⟩,⟨0,0,[4,5],[]⟩,⟨0,0,[4,5,6],[]⟩,⟨0,0,[4,5,6,7],[]⟩,⟨0,0,[0,1,2,3,4,5,6,7,8],[]⟩,⟨0,0,[0,1,2,3,4,5,6,7,8,9],[]⟩,⟨0,0,[0,1,2,3,4,5,6,7,8,9,10],[]⟩,⟨0,0,[0,1,2,3,4,5,6,7,8,9,10,11],[]⟩] 0 [64,65,66,67,68,69,70,71,72,73,74,75,76] [] (fun K kp hK hkp=>?_) |refine rD (id:=15) AA 24 [0,1,2,3,4,5,6,7,8,9,10,11,12,13,14,15,16,17,18,19,20,21,22,23] (fun K kp hK hkp=>?_) |refine rU (id:=17) AA 15 [⟨0,0,[],[]⟩,⟨0,0,[],[]⟩,⟨0,0,[1],[]⟩,⟨0,0,[1,2],[]⟩,⟨0,0,[1,2,3],[]⟩,⟨0,0,[],[]⟩,⟨0,0,[5],[]⟩,⟨0,0,[5,6],[]⟩,⟨0,0,[5,6,7],[]⟩,⟨0,0,[5,6,7,8],[]⟩,⟨0,0,[1,2,3,4,5,6,7,8,9],[]⟩,⟨0,0,[1,2,3,4,5,6,7,8,9,10],[]⟩,⟨0,0,[1,2,3,4,5,6,7,8,9,10,11],[]⟩,⟨0,0,[0,1,2,3,4,5,6,7,8,9,10,11,12],[]⟩,⟨0,0,[0,1,2,3,4,5,6,7,8,9,10,11,12,13],[]⟩] 0 [110,111,112,113,114,115,116,117,118,119,120,121,122,123,124] [] (fun K kp hK hkp=>?_) |refine oR [0] e1 ?_ |refine oR [0] e2 ?_ |refine oR [0] e3 ?_ |refine oR [0] e4 ?_ |refine iG ?_ |refine iD ?_);simp(implicitDefEqProofs:=false) (maxSteps:=2000000) (disch:=omega) only[go_sem,d1,hx,eT,d2,d3,hy,d4,dm];(repeat' (first |(refine hK _ ?_;clear hK hkp kp K) |(with_reducible refine And.intro ?_ ?_) |omega))) |refine oP [0] gc ?_ |((first |refine aG (fun h=>?_) (fun h=>?_) |refine aD (fun h=>?_) (fun h=>?_) |refine aX (fun h=>?_) (fun h=>?_))<;>simp only[h]) |refine A0 rfl ?_ |refine A1 rfl ?_ |((refine A4 rfl (fun h=>?_) (fun h=>?_)<;>try simp only[AK] at h)<;>(try (exfalso;omega))) |refine A7 ?_));(refine hkp _ _ ?_;clear hkp hK kp K;refine AD ?_;refine AC hE [0] rfl ?_ ?_<;>simp[AH,lk,ren,renL,A9,AG,Aa])
 |some n=>
  obtain⟨y,hy,hyk,rfl⟩:=DD hn;have hyo:=hk y (List.mem_of_getElem? hy);have hy0:=hyo.lo hyk;have hy1:=hyo.hi;have:=(List.getElem?_eq_some_iff.1 hy).1;have d3:decide (((p+1:Nat):Int)<(l.length:Int))=true:=decide_eq_true (by omega)
  have d4:(y.k==2)=true:=by simpa using hyk
  have z1:((p+1:Nat):Int)+1=((p+2:Nat):Int):=by omega
  have z2:((p+2:Nat):Int) - 1=((p+1:Nat):Int):=by omega
  have z3:(-1:Int) * y.n= -y.n:=by omega
  refine Con.of_ok (a:=some ⟨2,-y.n,str []⟩) (p:=p+2) (by rw[Bj,h1,h2,h3,ht,hm];simp only[Bool.false_eq_true,if_false,if_true,hn]) ?_;unfold A_ Cy at *;refine A8 func50 rfl (by kernel_rfl) (of_decide_eq_true (by kernel_rfl)) ?_;intro E hG hE;subst hG;simp only[Ai];(repeat' (first |refine A6 ?_ |refine A2 ?_ |refine A3 ?_ |refine A5 ?_ |((first |refine rR (fun K kp hK hkp=>?_) |refine rD (id:=7) AA 25 [0,1,2,3,4,5,6,7,8,9,10,11,12,13,14,15,16,17,18,19,20,21,22,23,24] (fun K kp hK hkp=>?_) |refine rD (id:=8) AA 13 [0,1,2,3,4,5,6,7,8,9,10,11,12] (fun K kp hK hkp=>?_) |refine rU (id:=11) AA 13 [⟨0,0,[],[]⟩,⟨0,0,[0],[]⟩,⟨0,0,[0,1],[]⟩,⟨0,0,[0,1,2],[]⟩,⟨0,0,[],[]⟩,⟨0,0,[4],[]⟩,⟨0,0,[4,5],[]⟩,⟨0,0,[4,5,6],[]⟩,⟨0,0,[4,5,6,7],[]⟩,⟨0,0,[0,1,2,3,4,5,6,7,8],[]⟩,⟨0,0,[0,1,2,3,4,5,6,7,8,9],[]⟩,⟨0,0,[0,1,2,3,4,5,6,7,8,9,10],[]⟩,⟨0,0,[0,1,2,3,4,5,6,7,8,9,10,11],[]⟩] 0 [64,65,66,67,68,69,70,71,72,73,74,75,76] [] (fun K kp hK hkp=>?_) |refine rD (id:=15) AA 24 [0,1,2,3,4,5,6,7,8,9,10,11,12,13,14,15,16,17,18,19,20,21,22,23] (fun K kp hK hkp=>?_) |refine rU (id:=17) AA 15 [⟨0,0,[],[]⟩,⟨0,0,[],[]⟩,⟨0,0,[1],[]⟩,⟨0,0,[1,2],[]⟩,⟨0,0,[1,2,3],[]⟩,⟨0,0,[],[]⟩,⟨0,0,[5],[]⟩,⟨0,0,[5,6],[]⟩,⟨0,0,[5,6,7],[]⟩,⟨0,0,[5,6,7,8],[]⟩,⟨0,0,[1,2,3,4,5,6,7,8,9],[]⟩,⟨0,0,[1,2,3,4,5,6,7,8,9,10],[]⟩,⟨0,0,[1,2,3,4,5,6,7,8,9,10,11],[]⟩,⟨0,0,[0,1,2,3,4,5,6,7,8,9,10,11,12],[]⟩,⟨0,0,[0,1,2,3,4,5,6,7,8,9,10,11,12,13],[]⟩] 0 [110,111,112,113,114,115,116,117,118,119,120,121,122,123,124] [] (fun K kp hK hkp=>?_) |refine oR [0] e1 ?_ |refine oR [0] e2 ?_ |refine oR [0] e3 ?_ |refine oR [0] e4 ?_ |refine iG ?_ |refine iD ?_);simp(implicitDefEqProofs:=false) (maxSteps:=2000000) (disch:=omega) only[go_sem,d1,hx,eT,d2,d3,hy,d4,dm,z1,z2,z3];(repeat' (first |(refine hK _ ?_;clear hK hkp kp K) |(with_reducible refine And.intro ?_ ?_) |omega))) |((first |refine aG (fun h=>?_) (fun h=>?_) |refine aD (fun h=>?_) (fun h=>?_) |refine aX (fun h=>?_) (fun h=>?_))<;>simp only[h]) |refine A0 rfl ?_ |refine A1 rfl ?_ |((refine A4 rfl (fun h=>?_) (fun h=>?_)<;>try simp only[AK] at h)<;>(try (exfalso;omega))) |refine A7 ?_));(refine AB (by(simp(implicitDefEqProofs:=false) (maxSteps:=2000000) (disch:=omega) only[go_sem,results50,eV,str]);rfl) ?_;refine(AC hE [0] rfl ?_ ?_).s<;>simp[AI,AH,lk,ren,renL,A9,AG,eV,str])
set_option maxHeartbeats 8000000 in
theorem Oo (G:List (Nat×List Value))(l:List TK0)(p:Nat)(hk: ∀t ∈ l,TokOk t)(hl:l.length≤100)(hp:p≤100)(h1:AP l p 1 Ah=false)(h2:AP l p 1 BW=false)(h3:AP l p 1 BD=false)(ht:CS l p=none)(hm:AP l p 4 B7=false):Con prog G 50 [.p 0 0 0] (A_ l p) 1
  (PQ (Bj l p) Cy (fun _ p=>A_ l p) 1) (PP (Bj l p) 1):=by
 have e1:=AU G l p 1 Ah hl hp h1;simp only[Ah,str] at e1;have e2:=AU G l p 1 BW hl hp h2;simp only[BW,str] at e2;have e3:=AU G l p 1 BD hl hp h3;simp only[BD,str] at e3;have e4:=AU G l p 4 B7 hl hp hm;simp only[B7,str] at e4
 have dm:decide ((1:Int)<0)=false:=by decide
 cases hn:Bw l p with
 |none=>
  refine Con.of_ok (a:=none) (p:=p) (by rw[Bj,h1,h2,h3,ht,hm];simp only[Bool.false_eq_true,if_false,hn]) ?_
  cases hy:l[p]? with
  |none=>
   have:=List.getElem?_eq_none_iff.1 hy;have d3:decide ((p:Int)<(l.length:Int))=false:=decide_eq_false (by omega);unfold A_ Cy at *;refine A8 func50 rfl (by kernel_rfl) (of_decide_eq_true (by kernel_rfl)) ?_;intro E hG hE;subst hG;simp only[Ai];(repeat' (first |refine A6 ?_ |refine A2 ?_ |refine A3 ?_ |refine A5 ?_ |((first |refine rR (fun K kp hK hkp=>?_) |refine rD (id:=7) AA 25 [0,1,2,3,4,5,6,7,8,9,10,11,12,13,14,15,16,17,18,19,20,21,22,23,24] (fun K kp hK hkp=>?_) |refine rD (id:=8) AA 13 [0,1,2,3,4,5,6,7,8,9,10,11,12] (fun K kp hK hkp=>?_) |refine rU (id:=11) AA 13 [⟨0,0,[],[]⟩,⟨0,0,[0],[]⟩,⟨0,0,[0,1],[]⟩,⟨0,0,[0,1,2],[]⟩,⟨0,0,[],[]⟩,⟨0,0,[4],[]⟩,⟨0,0,[4,5],[]⟩,⟨0,0,[4,5,6],[]⟩,⟨0,0,[4,5,6,7],[]⟩,⟨0,0,[0,1,2,3,4,5,6,7,8],[]⟩,⟨0,0,[0,1,2,3,4,5,6,7,8,9],[]⟩,⟨0,0,[0,1,2,3,4,5,6,7,8,9,10],[]⟩,⟨0,0,[0,1,2,3,4,5,6,7,8,9,10,11],[]⟩] 0 [64,65,66,67,68,69,70,71,72,73,74,75,76] [] (fun K kp hK hkp=>?_) |refine rD (id:=15) AA 24 [0,1,2,3,4,5,6,7,8,9,10,11,12,13,14,15,16,17,18,19,20,21,22,23] (fun K kp hK hkp=>?_) |refine rU (id:=17) AA 15 [⟨0,0,[],[]⟩,⟨0,0,[],[]⟩,⟨0,0,[1],[]⟩,⟨0,0,[1,2],[]⟩,⟨0,0,[1,2,3],[]⟩,⟨0,0,[],[]⟩,⟨0,0,[5],[]⟩,⟨0,0,[5,6],[]⟩,⟨0,0,[5,6,7],[]⟩,⟨0,0,[5,6,7,8],[]⟩,⟨0,0,[1,2,3,4,5,6,7,8,9],[]⟩,⟨0,0,[1,2,3,4,5,6,7,8,9,10],[]⟩,⟨0,0,[1,2,3,4,5,6,7,8,9,10,11],[]⟩,⟨0,0,[0,1,2,3,4,5,6,7,8,9,10,11,12],[]⟩,⟨0,0,[0,1,2,3,4,5,6,7,8,9,10,11,12,13],[]⟩] 0 [110,111,112,113,114,115,116,117,118,119,120,121,122,123,124] [] (fun K kp hK hkp=>?_) |refine oR [0] e1 ?_ |refine oR [0] e2 ?_ |refine oR [0] e3 ?_ |refine oR [0] e4 ?_ |refine iG ?_ |refine iD ?_);simp(implicitDefEqProofs:=false) (maxSteps:=2000000) (disch:=omega) only[go_sem,eT,d3,dm];(repeat' (first |(refine hK _ ?_;clear hK hkp kp K) |(with_reducible refine And.intro ?_ ?_) |omega))) |((first |refine aG (fun h=>?_) (fun h=>?_) |refine aD (fun h=>?_) (fun h=>?_) |refine aX (fun h=>?_) (fun h=>?_))<;>simp only[h]) |refine A0 rfl ?_ |refine A1 rfl ?_ |((refine A4 rfl (fun h=>?_) (fun h=>?_)<;>try simp only[AK] at h)<;>(try (exfalso;omega))) |refine A7 ?_));(refine AB (by(simp(implicitDefEqProofs:=false) (maxSteps:=2000000) (disch:=omega) only[go_sem,results50,eV,str]);rfl) ?_;refine(AC hE [0] rfl ?_ ?_).s<;>simp[AI,AH,lk,ren,renL,A9,AG,eV,str])
  |some y=>
   have:=(List.getElem?_eq_some_iff.1 hy).1;have d3:decide ((p:Int)<(l.length:Int))=true:=decide_eq_true (by omega);have d2:=DC ht hy;have d4:=Cn hn hy;unfold A_ Cy at *;refine A8 func50 rfl (by kernel_rfl) (of_decide_eq_true (by kernel_rfl)) ?_;intro E hG hE;subst hG;simp only[Ai];(repeat' (first |refine A6 ?_ |refine A2 ?_ |refine A3 ?_ |refine A5 ?_ |((first |refine rR (fun K kp hK hkp=>?_) |refine rD (id:=7) AA 25 [0,1,2,3,4,5,6,7,8,9,10,11,12,13,14,15,16,17,18,19,20,21,22,23,24] (fun K kp hK hkp=>?_) |refine rD (id:=8) AA 13 [0,1,2,3,4,5,6,7,8,9,10,11,12] (fun K kp hK hkp=>?_) |refine rU (id:=11) AA 13 [⟨0,0,[],[]⟩,⟨0,0,[0],[]⟩,⟨0,0,[0,1],[]⟩,⟨0,0,[0,1,2],[]⟩,⟨0,0,[],[]⟩,⟨0,0,[4],[]⟩,⟨0,0,[4,5],[]⟩,⟨0,0,[4,5,6],[]⟩,⟨0,0,[4,5,6,7],[]⟩,⟨0,0,[0,1,2,3,4,5,6,7,8],[]⟩,⟨0,0,[0,1,2,3,4,5,6,7,8,9],[]⟩,⟨0,0,[0,1,2,3,4,5,6,7,8,9,10],[]⟩,⟨0,0,[0,1,2,3,4,5,6,7,8,9,10,11],[]⟩] 0 [64,65,66,67,68,69,70,71,72,73,74,75,76] [] (fun K kp hK hkp=>?_) |refine rD (id:=15) AA 24 [0,1,2,3,4,5,6,7,8,9,10,11,12,13,14,15,16,17,18,19,20,21,22,23] (fun K kp hK hkp=>?_) |refine rU (id:=17) AA 15 [⟨0,0,[],[]⟩,⟨0,0,[],[]⟩,⟨0,0,[1],[]⟩,⟨0,0,[1,2],[]⟩,⟨0,0,[1,2,3],[]⟩,⟨0,0,[],[]⟩,⟨0,0,[5],[]⟩,⟨0,0,[5,6],[]⟩,⟨0,0,[5,6,7],[]⟩,⟨0,0,[5,6,7,8],[]⟩,⟨0,0,[1,2,3,4,5,6,7,8,9],[]⟩,⟨0,0,[1,2,3,4,5,6,7,8,9,10],[]⟩,⟨0,0,[1,2,3,4,5,6,7,8,9,10,11],[]⟩,⟨0,0,[0,1,2,3,4,5,6,7,8,9,10,11,12],[]⟩,⟨0,0,[0,1,2,3,4,5,6,7,8,9,10,11,12,13],[]⟩] 0 [110,111,112,113,114,115,116,117,118,119,120,121,122,123,124] [] (fun K kp hK hkp=>?_) |refine oR [0] e1 ?_ |refine oR [0] e2 ?_ |refine oR [0] e3 ?_ |refine oR [0] e4 ?_ |refine iG ?_ |refine iD ?_);simp(implicitDefEqProofs:=false) (maxSteps:=2000000) (disch:=omega) only[go_sem,eT,d2,d3,hy,d4,dm];(repeat' (first |(refine hK _ ?_;clear hK hkp kp K) |(with_reducible refine And.intro ?_ ?_) |omega))) |((first |refine aG (fun h=>?_) (fun h=>?_) |refine aD (fun h=>?_) (fun h=>?_) |refine aX (fun h=>?_) (fun h=>?_))<;>simp only[h]) |refine A0 rfl ?_ |refine A1 rfl ?_ |((refine A4 rfl (fun h=>?_) (fun h=>?_)<;>try simp only[AK] at h)<;>(try (exfalso;omega))) |refine A7 ?_));(refine AB (by(simp(implicitDefEqProofs:=false) (maxSteps:=2000000) (disch:=omega) only[go_sem,results50,eV,str]);rfl) ?_;refine(AC hE [0] rfl ?_ ?_).s<;>simp[AI,AH,lk,ren,renL,A9,AG,eV,str])
 |some n=>
  obtain⟨y,hy,hyk,rfl⟩:=DD hn;have hyo:=hk y (List.mem_of_getElem? hy);have hy0:=hyo.lo hyk;have hy1:=hyo.hi;have:=(List.getElem?_eq_some_iff.1 hy).1;have d3:decide ((p:Int)<(l.length:Int))=true:=decide_eq_true (by omega);have d2:=DC ht hy
  have d4:(y.k==2)=true:=by simpa using hyk
  have z1:((p:Int)+1) - 1=(p:Int):=by omega
  have z3:(1:Int) * y.n=y.n:=by omega
  refine Con.of_ok (a:=some ⟨2,y.n,str []⟩) (p:=p+1) (by rw[Bj,h1,h2,h3,ht,hm];simp only[Bool.false_eq_true,if_false,hn]) ?_;unfold A_ Cy at *;refine A8 func50 rfl (by kernel_rfl) (of_decide_eq_true (by kernel_rfl)) ?_;intro E hG hE;subst hG;simp only[Ai];(repeat' (first |refine A6 ?_ |refine A2 ?_ |refine A3 ?_ |refine A5 ?_ |((first |refine rR (fun K kp hK hkp=>?_) |refine rD (id:=7) AA 25 [0,1,2,3,4,5,6,7,8,9,10,11,12,13,14,15,16,17,18,19,20,21,22,23,24] (fun K kp hK hkp=>?_) |refine rD (id:=8) AA 13 [0,1,2,3,4,5,6,7,8,9,10,11,12] (fun K kp hK hkp=>?_) |refine rU (id:=11) AA 13 [⟨0,0,[],[]⟩,⟨0,0,[0],[]⟩,⟨0,0,[0,1],[]⟩,⟨0,0,[0,1,2],[]⟩,⟨0,0,[],[]⟩,⟨0,0,[4],[]⟩,⟨0,0,[4,5],[]⟩,⟨0,0,[4,5,6],[]⟩,⟨0,0,[4,5,6,7],[]⟩,⟨0,0,[0,1,2,3,4,5,6,7,8],[]⟩,⟨0,0,[0,1,2,3,4,5,6,7,8,9],[]⟩,⟨0,0,[0,1,2,3,4,5,6,7,8,9,10],[]⟩,⟨0,0,[0,1,2,3,4,5,6,7,8,9,10,11],[]⟩] 0 [64,65,66,67,68,69,70,71,72,73,74,75,76] [] (fun K kp hK hkp=>?_) |refine rD (id:=15) AA 24 [0,1,2,3,4,5,6,7,8,9,10,11,12,13,14,15,16,17,18,19,20,21,22,23] (fun K kp hK hkp=>?_) |refine rU (id:=17) AA 15 [⟨0,0,[],[]⟩,⟨0,0,[],[]⟩,⟨0,0,[1],[]⟩,⟨0,0,[1,2],[]⟩,⟨0,0,[1,2,3],[]⟩,⟨0,0,[],[]⟩,⟨0,0,[5],[]⟩,⟨0,0,[5,6],[]⟩,⟨0,0,[5,6,7],[]⟩,⟨0,0,[5,6,7,8],[]⟩,⟨0,0,[1,2,3,4,5,6,7,8,9],[]⟩,⟨0,0,[1,2,3,4,5,6,7,8,9,10],[]⟩,⟨0,0,[1,2,3,4,5,6,7,8,9,10,11],[]⟩,⟨0,0,[0,1,2,3,4,5,6,7,8,9,10,11,12],[]⟩,⟨0,0,[0,1,2,3,4,5,6,7,8,9,10,11,12,13],[]⟩] 0 [110,111,112,113,114,115,116,117,118,119,120,121,122,123,124] [] (fun K kp hK hkp=>?_) |refine oR [0] e1 ?_ |refine oR [0] e2 ?_ |refine oR [0] e3 ?_ |refine oR [0] e4 ?_ |refine iG ?_ |refine iD ?_);simp(implicitDefEqProofs:=false) (maxSteps:=2000000) (disch:=omega) only[go_sem,eT,d2,d3,hy,d4,dm,z1,z3];(repeat' (first |(refine hK _ ?_;clear hK hkp kp K) |(with_reducible refine And.intro ?_ ?_) |omega))) |((first |refine aG (fun h=>?_) (fun h=>?_) |refine aD (fun h=>?_) (fun h=>?_) |refine aX (fun h=>?_) (fun h=>?_))<;>simp only[h]) |refine A0 rfl ?_ |refine A1 rfl ?_ |((refine A4 rfl (fun h=>?_) (fun h=>?_)<;>try simp only[AK] at h)<;>(try (exfalso;omega))) |refine A7 ?_));(refine AB (by(simp(implicitDefEqProofs:=false) (maxSteps:=2000000) (disch:=omega) only[go_sem,results50,eV,str]);rfl) ?_;refine(AC hE [0] rfl ?_ ?_).s<;>simp[AI,AH,lk,ren,renL,A9,AG,eV,str])
theorem Uf (G:List (Nat×List Value))(l:List TK0)(p:Nat)(hk: ∀t ∈ l,TokOk t)(hl:l.length≤100)(hp:p≤100):Con prog G 50 [.p 0 0 0] (A_ l p) 1
  (PQ (Bj l p) Cy (fun _ p=>A_ l p) 1) (PP (Bj l p) 1):=by
 by_cases h:AP l p 1 Ah=true∨AP l p 1 BW=true∨AP l p 1 BD=true
 ·exact NZ G l p hl hp h
 simp only[not_or,Bool.not_eq_true] at h;obtain⟨h1,h2,h3⟩:=h
 cases ht:CS l p with
 |some s=>
  obtain⟨x,hx,hx3⟩: ∃x,l[p]?=some x∧x.k=3:=by
   unfold CS at ht;split at ht
   ·rename_i t hx;split at ht
    ·exact⟨t,hx,by assumption⟩
    ·cases ht
   ·cases ht
  exact N_ G l p x hx hl hp h1 h2 h3 hx3
 |none=>
  cases hm:AP l p 4 B7
  ·exact Oo G l p hk hl hp h1 h2 h3 ht hm
  ·exact M5 G l p hk hl hp h1 h2 h3 ht hm
end Go.AM
