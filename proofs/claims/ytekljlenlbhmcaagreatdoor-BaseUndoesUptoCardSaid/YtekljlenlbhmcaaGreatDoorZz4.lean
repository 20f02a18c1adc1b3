/- Texts of the law BaseUndoes, part 4: lemmas; what is proved stands in the last text. -/
import Derived.Test.YtekljlenlbhmcaaGreatDoorZz3
import Derived.Test.YtekljlenlbhmcaaGreatDoorProg
import Derived.Test.YtekljlenlbhmcaaGreatDoorZz1
import Derived.Below
import Derived.OpenShut
import Derived.WalkKit
import Derived.ProofKit
import Derived.ChangeOld
import Derived.Deep.Strs
open Go.Proofs.Tryz
set_option linter.unusedSimpArgs false
set_option linter.unusedVariables false
set_option maxRecDepth 100000
namespace Go.AM
open Go
section
variable {P:Program} {E:Env} {N:Nat}
structure OkU (ops:Array Oper)(n:Nat)(pl:List PU)(tot:Nat)(dss:List Nat)(zs:List Nat):Prop where
 len:pl.length=n
 le:n≤ops.size
 head: ∀s,HeadInv .any ops n s→ ∀i,i<n→i ∉ zs→s.getD i true=false→ ∀j ∈ Region.ready .any ops s,j<n
 strag: ∀z ∈ zs,z<n∧ ∃o,ops[z]?=some o∧SY o.op=true∧o.guard=none∧ ∀(j:Nat) oj,ops[j]?=some oj→j≠z→(∀p,pl[z]?=some p→j ∉ p.anc)→(∀e ∈ oj.after,Region.binds .any e=true→e.on≠z)→o.apart ops oj=true
 sel:zs≠[]→ ∀(j:Nat)(o:Oper) cs b,ops[j]?=some o→o.op≠ .select cs b
 dst: ∀(i:Nat) o p,i<n→ops[i]?=some o→pl[i]?=some p→ ∃d,o.dst=some d∧dss.contains d=true
 back: ∀(i:Nat) o,i<n→ops[i]?=some o→ ∀e ∈ o.after,Region.binds .any e=true→e.on<i
 anc: ∀(i:Nat) o p,i<n→ops[i]?=some o→pl[i]?=some p→ ∀a ∈ p.anc,∃e ∈ o.after,Region.binds .any e=true∧(e.on=a∨ ∃q,pl[e.on]?=some q∧a ∈ q.anc)
 tot: ∀(i:Nat) p,i<n→pl[i]?=some p→p.r+p.k≤tot
 pair: ∀(i h:Nat) o p oh q,i<n→h<n→h≠i→ops[i]?=some o→pl[i]?=some p→ops[h]?=some oh→pl[h]?=some q→oh.dst≠o.dst∧(q.k=0∨h ∈ p.anc∨(q.r,q.k) ∈ p.chk)∧(p.r+p.k≤q.r∨q.r+q.k≤p.r)
 seq:Region.seqB .any ops (ops.size - n) n ((List.range ops.size).map fun i=>decide (i<n)).toArray=true
theorem Ie {ops:Array Oper}{n:Nat}{zs:List Nat}{listed:Array Bool}(hs:Ru ops n zs=true)(hc:Region.chainB .any ops n=true)(hn:n<ops.size)(inv:HeadInv .any ops n listed):
  ∀(d i:Nat),n - i=d→i<n→i ∉ zs→listed.getD i true=false→ ∀t,n≤t→t ∉ Region.ready .any ops listed:=by
 intro d
 induction d using Nat.strongRecOn with
 |_ d ih=>
  intro i hd hi hiz hun t ht hr;obtain⟨_,ot,hot,hall⟩:=mem_ready.1 hr;have htlt:t<ops.size:=(Array.getElem?_eq_some_iff.1 hot).1
  by_cases htn:t=n
  ·subst htn
   have h1:=List.all_eq_true.1 hs i (List.mem_range.2 hi)
   rcases Bool.or_eq_true _ _▸h1 with h1 |h1
   ·exact hiz (by simpa using h1)
   obtain⟨j,hj,hj2⟩:=List.any_eq_true.1 h1;simp only[Bool.and_eq_true,decide_eq_true_eq,Bool.not_eq_true'] at hj2;obtain⟨oj,hoj,e,he,hb,hon⟩:=Region.waitsFor_spec hj2.2
   have hjle:j≤t:=by have:=List.mem_range.1 hj;omega
   have hjz:j ∉ zs:=by have:=hj2.1.2;simpa using this
   by_cases hjt:j=t
   ·subst hjt
    have:oj=ot:=Option.some.inj (hoj.symm.trans hot);subst this;have h2:=hall e he hb;rw[hon,getD_both hun] at h2;cases h2
   ·cases hl:listed.getD j false with
    |true=>
     have h2:=inv.closed j oj hoj hl e he hb;rw[hon,getD_both hun] at h2;cases h2
    |false=>
     have hjs:j<listed.size:=by rw[inv.size];omega
     exact ih (t - j) (by omega) j rfl (by omega) hjz (getD_in hjs hl) t (Nat.le_refl _) hr
  ·have h1:=List.all_eq_true.1 hc t (List.mem_range.2 htlt)
   simp only[Bool.or_eq_true,decide_eq_true_eq] at h1
   rcases h1 with h1 |h1
   ·omega
   ·obtain⟨o',ho',e,he,hb,hon⟩:=Region.waitsFor_spec h1
    have:o'=ot:=Option.some.inj (ho'.symm.trans hot);subst this;have h2:=hall e he hb;rw[hon,getD_both (inv.tail (t - 1) (by omega) (by omega))] at h2;cases h2
theorem N2 {P:Program}{ops:Array Oper}{Q:Exit→Act→World→Prop}{i:Nat}{oi:Oper}{v:Value}(hi:ops[i]?=some oi)(hsel: ∀(j:Nat)(o:Oper) cs b,ops[j]?=some o→o.op≠ .select cs b)(hQ: ∀c a w,Q (.panic c) (a.put oi.dst v) w→Q (.panic c) a w): ∀(f:Nat)(s:Array Bool)(a:Act)(w:World),(∀(j:Nat) oj,ops[j]?=some oj→j≠i→s.getD j true=false→(∀e ∈ oj.after,Region.binds .any e=true→e.on≠i)→oi.apart ops oj=true)→
   i ∈ Region.ready .any ops s→YieldsIf P ops (fun _=>True) oi v a→wpAny P .any ops Q f (s.setIfInBounds i true) (a.put oi.dst v) w→wpAny P .any ops Q (f+1) s a w:=by
 intro f
 induction f with
 |zero=>
  intro s a w hfree hr hy H;refine⟨fun h=>(by rw[h] at hr;cases hr),fun j hj=>?_⟩
  by_cases hji:j=i
  ·subst hji;exact hy.wpOp hi trivial H
  ·have:=ready_mono hj hji
   rw[H.1] at this;cases this
 |succ f ih=>
  intro s a w hfree hr hy H;refine⟨fun h=>(by rw[h] at hr;cases hr),fun j hj=>?_⟩
  by_cases hji:j=i
  ·subst hji;exact hy.wpOp hi trivial H
  ·have h1:=H.2 j (ready_mono hj hji)
   obtain⟨hjun,oj,hoj,hall⟩:=mem_ready.1 hj;have hiun:=(mem_ready.1 hr).1
   have hnot: ∀e ∈ oj.after,Region.binds .any e=true→e.on≠i:=fun e he hb heq=>by
    have h2:=hall e he hb;rw[heq,getD_both hiun] at h2;cases h2
   have h2:=wpOp_putIf hoj (hfree j oj hoj hji hjun hnot) (fun cs b=>hsel i oi cs b hi) (fun cs b=>hsel j oj cs b hoj) hQ hy h1
   refine wpOp_mono (fun a' w' h3=>ih _ a' w' (fun k ok hk hki hun hno=>hfree k ok hk hki (by
    by_cases hjk:j=k
    ·subst hjk;exact hjun
    ·rwa [getD_set_ne true hjk] at hun) hno) (ready_mono hr (Ne.symm hji)) h3.1 ?_) h2
   rw[Array.setIfInBounds_comm _ _ hji];exact h3.2
theorem Kc {P:Program}{ops:Array Oper}{o:Oper}(ho:SY o.op=true)(hg:o.guard=none){a:Act}{w:World}{K:Act→World→Prop}(h:o.wp P a w K (fun _ _ _=>False)): ∃u,YieldsIf P ops (fun _=>True) o u a∧K (a.put o.dst u) w:=by
 obtain⟨d,op,ty,pos,aft,gd⟩:=o;simp only at ho hg
 cases op with
 |extract t i=>
  unfold Oper.wp at h;simp only[execOp] at h;generalize hv:a.eval t=tv at h
  have key:(∃u,∀w',(Instr.extract tv i).run P w'= .ok u w')∨(∃e,∀w',(Instr.extract tv i).run P w'= .halt e w'∧ ∀x,e≠ .panic x):=by
   unfold Instr.extract;split
   ·split
    ·rename_i u _;exact .inl ⟨u,fun w'=>rfl⟩
    ·exact .inr ⟨_,fun w'=>⟨rfl,fun x hx=>by cases hx⟩⟩
   ·exact .inr ⟨_,fun w'=>⟨rfl,fun x hx=>by cases hx⟩⟩
  rcases key with ⟨u,hu⟩ |⟨e,he⟩
  ·refine⟨u,.inl ⟨by simp[Region.wanted,hg],fun w' _=>?_⟩,?_⟩
   ·simp only[execOp,hv,Sem.run_bind,hu,Result.andThen_ok];rfl
   ·simp only[Sem.run_bind,hu,Result.andThen_ok] at h;exact h
  ·exfalso
   simp only[Sem.run_bind,(he w).1] at h;have h':Oper.upon P ⟨d,.extract t i,ty,pos,aft,gd⟩ a K (fun _ _ _=>False) (.halt e w):=h
   cases e with
   |panic x=>exact h'
   |_=>exact h'
 |_=>cases ho
theorem SF {ops:Array Oper}{n:Nat}{pl:List PU}{tot:Nat}{dss zs:List Nat}(h:Y6 ops n pl tot dss zs=true):OkU ops n pl tot dss zs:=by
 simp only[Y6,Bool.and_eq_true,decide_eq_true_eq] at h;obtain⟨⟨⟨⟨h1,h2⟩,hz⟩,h3⟩,h4⟩:=h
 have hle:n≤ops.size:=by
  rcases Bool.or_eq_true _ _▸h2 with h2 |h2
  ·exact Nat.le_of_eq (of_decide_eq_true h2)
  ·simp only[Bool.and_eq_true,decide_eq_true_eq] at h2;exact Nat.le_of_lt h2.2
 have key: ∀(i:Nat) o p,i<n→ops[i]?=some o→pl[i]?=some p→_:=fun i o p hi ho hp=>(by
  have:=List.all_eq_true.1 h3 i (by simpa using hi);rw[ho,hp] at this
  exact this)
 refine⟨h1,hle,?_,?_,?_,fun i o p hi ho hp=>?_,fun i o hi ho e he hb=>?_,fun i o p hi ho hp a ha=>?_,fun i p hi hp=>?_,fun i h o p oh q hi hh hne ho hp hoh hq=>?_,h4⟩
 ·intro s inv i hi hiz hs j hj
  rcases Bool.or_eq_true _ _▸h2 with b2 |b2
  ·have:=of_decide_eq_true b2
   obtain⟨_,oj,hoj,_⟩:=mem_ready.1 hj;rw[this];exact(Array.getElem?_eq_some_iff.1 hoj).1
  ·simp only[Bool.and_eq_true,decide_eq_true_eq] at b2
   by_cases h:j<n
   ·exact h
   ·exact absurd hj (Ie b2.1.1 b2.1.2 b2.2 inv _ i rfl hi hiz hs j (by omega))
 ·intro z hzm
  rcases Bool.or_eq_true _ _▸hz with h0 |h0
  ·have:zs=[]:=by simpa using h0
   rw[this] at hzm;cases hzm
  ·simp only[Bool.and_eq_true] at h0
   have h5:=List.all_eq_true.1 h0.1 z hzm;simp only[Bool.and_eq_true,decide_eq_true_eq] at h5;obtain⟨h6,h7⟩:=h5;refine⟨h6,?_⟩;split at h7
   ·rename_i oz hoz
    simp only[Bool.and_eq_true] at h7;obtain⟨⟨h8,h9⟩,h10⟩:=h7;refine⟨oz,hoz,h8,by simpa using h9,fun j oj hj hne hna hno=>?_⟩;have h11:=List.all_eq_true.1 h10 j (by have:=(Array.getElem?_eq_some_iff.1 hj).1;simpa using this);rw[hj] at h11;simp only[Bool.or_eq_true,beq_iff_eq] at h11
    rcases h11 with (h11 |h11) |h11 |h11
    ·exact(hne h11).elim
    ·split at h11
     ·rename_i p hp;exact(hna p hp (by simpa using h11)).elim
     ·cases h11
    ·obtain⟨e,he,h12⟩:=List.any_eq_true.1 h11
     simp only[Bool.and_eq_true,beq_iff_eq] at h12;exact(hno e (by simpa using he) h12.1 h12.2).elim
    ·exact h11
   ·cases h7
 ·intro hne j o cs b hj hsel
  rcases Bool.or_eq_true _ _▸hz with h0 |h0
  ·exact hne (by simpa using h0)
  ·simp only[Bool.and_eq_true] at h0
   have:=List.all_eq_true.1 h0.2 o (by have:=Array.mem_of_getElem? hj;simpa using this);rw[hsel] at this;cases this
 ·have:=key i o p hi ho hp
  simp only[Bool.and_eq_true] at this;obtain⟨⟨⟨⟨g1,_⟩,_⟩,_⟩,_⟩:=this;split at g1
  ·rename_i d hd;exact⟨d,hd,g1⟩
  ·cases g1
 ·obtain⟨p,hp⟩: ∃p,pl[i]?=some p:=⟨pl[i]'(by omega),by simp⟩
  have:=key i o p hi ho hp;simp only[Bool.and_eq_true] at this;obtain⟨⟨⟨⟨_,g2⟩,_⟩,_⟩,_⟩:=this;have:=List.all_eq_true.1 g2 e (by simpa using he);simpa[hb] using this
 ·have:=key i o p hi ho hp
  simp only[Bool.and_eq_true] at this;obtain⟨⟨⟨⟨_,_⟩,g3⟩,_⟩,_⟩:=this;obtain⟨e,he,h5⟩:=List.any_eq_true.1 (List.all_eq_true.1 g3 a ha);simp only[Bool.and_eq_true,Bool.or_eq_true,beq_iff_eq] at h5;refine⟨e,by simpa using he,h5.1,h5.2.imp id fun h6=>?_⟩;split at h6
  ·rename_i q hq;exact⟨q,hq,by simpa using h6⟩
  ·cases h6
 ·obtain⟨o,ho⟩: ∃o,ops[i]?=some o:=⟨ops[i]'(by omega),by simp⟩
  have:=key i o p hi ho hp;simp only[Bool.and_eq_true,decide_eq_true_eq] at this;exact this.1.2
 ·have:=key i o p hi ho hp
  simp only[Bool.and_eq_true,decide_eq_true_eq] at this;have:=List.all_eq_true.1 this.2 h (by simpa using hh);rw[hoh,hq] at this;simp only[Bool.or_eq_true,Bool.and_eq_true,beq_iff_eq,decide_eq_true_eq,Bool.not_eq_true',beq_eq_false_iff_ne,ne_eq] at this;obtain⟨⟨g1,g2⟩,g3⟩:=this.resolve_left hne;refine⟨g1,?_,g3⟩
  rcases g2 with (g2 |g2) |g2
  ·exact .inl g2
  ·exact .inr (.inl (by simpa using g2))
  ·exact .inr (.inr (by simpa using g2))
theorem Ip {φ:Nat→Nat}: ∀ {o:List (Nat×Nd)}{i:Nat}{x:Nd},(∀p ∈ o,φ p.1=φ i→p.1=i)→lk o i=some x→lk (CJ φ o) (φ i)=some (A9 φ x)
 | [],i,x,_,h=>by simp[lk] at h
 |(j,y)::r,i,x,hi,h=>by
  simp only[lk] at h;simp only[CJ,List.map_cons,lk];split at h
  ·rename_i e;subst e;cases h;rw[if_pos rfl]
  ·rename_i e
   rw[if_neg (fun e2=>e (hi (j,y) (by simp) e2))];exact Ip (fun p hp=>hi p (by simp[hp])) h
theorem Qr {φ:Nat→Nat}{o:List (Nat×Nd)}{i:Nat}(h: ∀p ∈ o,φ p.1≠i):lk (CJ φ o) i=none:=by
 induction o with
 |nil=>rfl
 |cons p r ih=>
  obtain⟨j,y⟩:=p;simp only[CJ,List.map_cons,lk];rw[if_neg (h (j,y) (by simp))];exact ih (fun p hp=>h p (by simp[hp]))
theorem Z3 {ops:Array Oper}{n:Nat}{pl:List PU}{tot:Nat}{dss zs:List Nat}{L:List En}{bs:AS}{n0:Nat}{Q:Exit→Act→World→Prop}{g:Nat}(ok:OkU ops n pl tot dss zs)(hQ: ∀c a d v w,Q (.panic c) (a.put d v) w→Q (.panic c) a w)(hL:L.length=n)(hM:bs.n=n0+tot)(hbig:bs.n+tot≤1000000000)(hE:E.th0.length≤n0)
  (hprop: ∀j,j<n→ ∃o p e,ops[j]?=some o∧pl[j]?=some p∧L[j]?=some e∧PropE P E N bs n0 L j o p e)
  (hbm: ∀i x,lk bs.m i=some x→dss.contains i=false∧ ∀f:Nat→Nat,(∀i,i<n0→f i=i)→ren f x=x) (hbo: ∀i nd,lk bs.o i=some nd→i<n0∧ ∀f:Nat→Nat,(∀i,i<n0→f i=i)→A9 f nd=nd)
  (hend: ∀lD th z a w,(∀e ∈ lD,L[e.i]?=some e)→(∀e ∈ L,e ∈ lD)→Sim E N (LG bs lD) th z a w→wpAny P .any ops Q g ((List.range ops.size).map fun i=>decide (i<n)).toArray a w):
  ∀(f:Nat)(lD:List En)(s:Array Bool)(th:List NLoc)(z:AT)(a:Act)(w:World),HeadInv .any ops n s→f+lD.length=n→(∀e ∈ lD,e.i<n∧L[e.i]?=some e)→(lD.map (·.i)).Nodup→(∀i,i<n→(s.getD i false=true↔ ∃e ∈ lD,e.i=i))→
   (∀e ∈ lD,∀p,pl[e.i]?=some p→ ∀x ∈ p.anc,∃e' ∈ lD,e'.i=x)→Sim E N (LG bs lD) th z a w→wpAny P .any ops Q (f+g) s a w:=by
 have same: ∀ {a b:En},L[a.i]?=some a→L[b.i]?=some b→a.i=b.i→a=b:=fun {a b} h1 h2 h=>by rw[h] at h1;exact Option.some.inj (h1.symm.trans h2)
 have range:(List.range n).Nodup:=List.nodup_range;intro f
 induction f with
 |zero=>
  intro lD s th z a w inv hlen hmem hnd hs hanc hsim
  have hall: ∀i,i<n→ ∃e ∈ lD,e.i=i:=by
   intro i hi;apply Classical.byContradiction;intro hno
   have h1:(i::lD.map (·.i)).Nodup:=List.nodup_cons.2 ⟨fun h=>by
    obtain⟨e,he,rfl⟩:=List.mem_map.1 h
    exact hno ⟨e,he,rfl⟩,hnd⟩
   have:=DB (l':=List.range n) h1 (fun x hx=>by
    rcases List.mem_cons.1 hx with rfl |hx
    ·simpa using hi
    ·obtain⟨e,he,rfl⟩:=List.mem_map.1 hx
     simpa using(hmem e he).1)
   simp at this;omega
  have hsF:s=((List.range ops.size).map fun i=>decide (i<n)).toArray:=by
   apply Array.ext
   ·simp[inv.size]
   ·intro i h1 h2
    simp only[List.getElem_toArray,List.getElem_map,List.getElem_range]
    by_cases hi:i<n
    ·have:=(hs i hi).2 (hall i hi)
     simp[h1] at this;simp[this,hi]
    ·have:=inv.tail i (by omega) (by rw[←inv.size];exact h1)
     simp[h1] at this;simp[this,hi]
  rw[Nat.zero_add,hsF];refine hend lD th z a w (fun e he=>(hmem e he).2) (fun e he=>?_) hsim;obtain⟨i,hi,rfl⟩:=List.mem_iff_getElem.1 he;rw[hL] at hi;obtain⟨e',he',h2⟩:=hall i hi;obtain⟨o,p,e,_,_,q3,q4⟩:=hprop i hi;have h3:=(hmem e' he').2;rw[h2] at h3
  have:L[i]'(by omega)=e':=by
   have:=List.getElem?_eq_some_iff.1 h3;exact this.2
  rw[this];exact he'
 |succ f ih=>
  intro lD s th z a w inv hlen hmem hnd hs hanc hsim
  have hund: ∀i,i<n→(¬ ∃e ∈ lD,e.i=i)→s.getD i true=false:=by
   intro i hi hno;refine getD_in (by rw[inv.size];have:=ok.le;omega) ?_
   cases hv:s.getD i false with
   |false=>rfl
   |true=>exact(hno ((hs i hi).1 hv)).elim
  have hready:Region.ready .any ops s≠[]:=by
   have hex: ∃i,i<n∧ ¬ ∃e ∈ lD,e.i=i:=by
    apply Classical.byContradiction;intro hno
    have:=DB (l':=lD.map (·.i)) range (fun i hi=>by
     have hi:i<n:=by simpa using hi
     have: ∃e ∈ lD,e.i=i:=Classical.byContradiction fun h=>hno ⟨i,hi,h⟩;obtain⟨e,he,rfl⟩:=this
     exact List.mem_map_of_mem he)
    simp at this;omega
   obtain⟨i0,hi0⟩:=hex;obtain⟨i,⟨hi,hno⟩,hmin⟩:=D7 (fun i=>i<n∧ ¬ ∃e ∈ lD,e.i=i) i0 hi0;obtain⟨o,p,e,q1,q2,q3,q4⟩:=hprop i hi
   have:i ∈ Region.ready .any ops s:=mem_ready.2 ⟨hund i hi hno,o,q1,fun e he hb=>by
    have hlt:=ok.back i o hi q1 e he hb;refine(hs e.on (by omega)).2 (Classical.byContradiction fun h=>?_);have:=hmin e.on ⟨by omega,h⟩
    omega⟩
   intro h;rw[h] at this;cases this
  rw[show f+1+g=(f+g)+1 by omega]
  have body: ∀(Q2:Exit→Act→World→Prop)(i:Nat),i ∈ Region.ready .any ops s→i<n→ ∃o',ops[i]?=some o'∧o'.guard=none∧o'.wp P a w (fun a' w'=>wpAny P .any ops Q (f+g) (s.setIfInBounds i true) a' w') Q2:=by
   intro Q2 i hir hi;have hun:=(mem_ready.1 hir).1;obtain⟨_,o',ho',hdeps⟩:=mem_ready.1 hir;obtain⟨o,p,e,q1,q2,q3,⟨ei,eg,ed,⟨vM,oM,hfr,hk0,hk1⟩,efix,ekeys⟩⟩:=hprop i hi;obtain rfl:o'=o:=Option.some.inj (ho'.symm.trans q1)
   have hnot: ¬ ∃e ∈ lD,e.i=i:=fun h=>by
    have:=(hs i hi).2 h;rw[getD_both hun] at this;cases this
   have hancD: ∀x ∈ p.anc,∃e' ∈ lD,e'.i=x:=by
    intro x hx;obtain⟨ed',he',hb,h6⟩:=ok.anc i o' p hi q1 q2 x hx;have hdone:=hdeps ed' he' hb;have hlt:=ok.back i o' hi q1 ed' he' hb;obtain⟨e1,h7,h8⟩:=(hs ed'.on (by omega)).1 hdone
    rcases h6 with rfl |⟨q,hq,hxq⟩
    ·exact⟨e1,h7,h8⟩
    ·exact hanc e1 h7 q (by rw[h8];exact hq) x hxq
   have epair: ∀e1 ∈ lD,∃o1 p1,ops[e1.i]?=some o1∧pl[e1.i]?=some p1∧PropE P E N bs n0 L e1.i o1 p1 e1∧e1.i≠i:=by
    intro e1 he1;obtain⟨h1,h2⟩:=hmem e1 he1;obtain⟨o1,p1,e1',r1,r2,r3,r4⟩:=hprop e1.i h1;rw[h2] at r3;cases r3;exact⟨o1,p1,r1,r2,r4,fun h=>hnot ⟨e1,he1,h⟩⟩
   have hdist: ∀a ∈ lD,∀b ∈ lD,a.d=b.d→a=b:=by
    intro a ha b hb hab;obtain⟨o1,p1,r1,r2,r3,_⟩:=epair a ha;obtain⟨o2,p2,t1,t2,t3,_⟩:=epair b hb
    by_cases hne:b.i=a.i
    ·exact same (hmem a ha).2 (hmem b hb).2 hne.symm
    ·have:=(ok.pair a.i b.i o1 p1 o2 p2 (hmem a ha).1 (hmem b hb).1 hne r1 r2 t1 t2).1
     rw[t3.d,r3.d,hab] at this;exact(this rfl).elim
   have hle:(LG bs (IK p.anc (L.take i).reverse)).le (LG bs lD):=by
    have hin: ∀e1 ∈ IK p.anc (L.take i).reverse,e1 ∈ lD:=by
     intro e1 he1;obtain⟨h1,h2⟩:=KY.1 he1;obtain⟨e2,h3,h4⟩:=hancD e1.i (by simpa using h2);obtain⟨k,hk,hk2⟩:=List.mem_iff_getElem.1 (List.mem_of_mem_take (List.mem_reverse.1 h1))
     have hkn:k<n:=by omega
     obtain⟨_,_,e3,_,_,u3,u4⟩:=hprop k hkn
     have:e3=e1:=by
      have:=List.getElem?_eq_some_iff.1 u3;exact this.2.symm.trans hk2
     subst this
     have hl:L[e3.i]?=some e3:=by rw[u4.i];exact u3
     rw[same hl (hmem e2 h3).2 h4.symm];exact h3
    have hbase: ∀e1 ∈ lD,dss.contains e1.d=true:=by
     intro e1 he1;obtain⟨o1,p1,r1,r2,r3,_⟩:=epair e1 he1;obtain⟨d,h1,h2⟩:=ok.dst e1.i o1 p1 (hmem e1 he1).1 r1 r2;rw[r3.d] at h1;cases h1;exact h2
    refine⟨fun j x hj=>?_,fun j x hj=>?_⟩
    ·rcases JU hj with ⟨e1,h1,rfl,rfl⟩ |⟨_,h2⟩
     ·exact Kb (hin e1 h1) hdist
     ·show lk (IM lD bs.m) j=some x
      rw[IL (fun e1 he1 h=>by have:=hbase e1 he1;rw[h,(hbm j x h2).1] at this;cases this)];exact h2
    ·refine Ka (fun e1 he1 y hy=>?_) ?_
     ·obtain⟨o1,p1,r1,r2,r3,_⟩:=epair e1 he1
      have hk1:=r3.keys _ (Bi hy)
      rcases Ft hj with ⟨e2,h1,h2⟩ |h2
      ·obtain⟨o2,p2,t1,t2,t3,_⟩:=epair e2 (hin e2 h1)
       have hk2:=t3.keys _ (Bi h2)
       by_cases hne:e2.i=e1.i
       ·rw[same (hmem e2 (hin e2 h1)).2 (hmem e1 he1).2 hne,hy] at h2;exact Option.some.inj h2
       ·have:=(ok.pair e1.i e2.i o1 p1 o2 p2 (hmem e1 he1).1 (hmem e2 (hin e2 h1)).1 hne r1 r2 t1 t2).2.2
        simp only at hk1 hk2;omega
      ·have:=(hbo j x h2).1
       simp only at hk1;omega
     ·rcases Ft hj with ⟨e2,h1,h2⟩ |h2
      ·exact .inl ⟨e2,hin e2 h1,h2⟩
      ·exact .inr h2
   have hptot:=ok.tot i p hi q2;refine⟨o',q1,eg,hfr (LG bs lD) th z a w hle rfl hsim _ _ (fun th' z' a' w' hS=>?_)⟩
   have hnext: ∃th'',Sim E N (LG bs (e::lD)) th'' z' a' w':=by
    rw[ed] at hS
    by_cases hk:p.k=0
    ·obtain⟨rfl,rfl⟩:=hk0 hk
     rw[hk] at hS;exact⟨th',hS⟩
    ·obtain⟨rfl,rfl⟩:=hk1 (by omega)
     refine⟨_,hS.renL (G5 bs.n (n0+p.r) p.k) (VI (by omega)) (by show bs.n+p.k≤1000000000;omega) ?_ ?_ (by rw[Tb];rfl) ?_ Qf⟩
     ·intro j x hj
      have hj':lk ((e.d,e.v)::IM lD bs.m) j=some x:=hj;show lk ((e.d,ren (AL (G5 bs.n (n0+p.r) p.k)) e.v)::IM lD bs.m) j=_;simp only[lk] at hj' ⊢;split at hj'
      ·rename_i h;cases hj';rw[if_pos h]
      ·rename_i h
       rw[if_neg h,hj']
       congr 1
       rcases JU hj' with ⟨e1,h1,_,rfl⟩ |⟨_,h2⟩
       ·obtain⟨o1,p1,r1,r2,r3,r4⟩:=epair e1 h1
        rcases(ok.pair e1.i i o1 p1 o' p (hmem e1 h1).1 hi (Ne.symm r4) r1 r2 q1 q2).2.1 with h5 |h5 |h5
        ·exact(hk h5).elim
        ·exact(hnot (hanc e1 h1 p1 r2 i h5)).elim
        ·exact(KZ r3.fix h5).1.symm
       ·exact((hbm j x h2).2 _ (fun i hi=>by rw[FC (by omega),if_neg (by omega)])).symm
     ·intro j nd hj
      have hj':lk (e.o++Mj lD bs.o) j=some nd:=hj;have eqS: ∀j,lk (({LG bs lD with o:=CJ (AL (G5 bs.n (n0+p.r) p.k)) e.o++(LG bs lD).o,n:=(LG bs lD).n+p.k}.put (some e.d) (ren (AL (G5 bs.n (n0+p.r) p.k)) e.v)).o) j=lk (CJ (AL (G5 bs.n (n0+p.r) p.k)) e.o++Mj lD bs.o) j:=fun _=>rfl;rw[D4] at hj';split at hj'
      ·rename_i y hy;cases hj'
       have hkk:=ekeys _ (Bi hy);simp only at hkk;refine⟨bs.n+(j - (n0+p.r)),by rw[JO (by omega),if_pos (by omega)],?_⟩
       have e1:AL (G5 bs.n (n0+p.r) p.k) j=bs.n+(j - (n0+p.r)):=by rw[FC (by omega),if_pos (by omega)]
       rw[eqS,D4,←e1,Ip (fun q hq h=>by
        have:=ekeys q hq;rw[FC (by omega),FC (by omega),if_pos (by omega),if_pos (by omega)] at h
        omega) hy]
      ·rename_i hy
       have hjn:j<bs.n∧ ¬(n0+p.r≤j∧j<n0+p.r+p.k)∧A9 (AL (G5 bs.n (n0+p.r) p.k)) nd=nd:=by
        rcases Ft hj' with ⟨e1,h1,h2⟩ |h2
        ·obtain⟨o1,p1,r1,r2,r3,r4⟩:=epair e1 h1
         have hk1:=r3.keys _ (Bi h2);have ht1:=ok.tot e1.i p1 (hmem e1 h1).1 r2;simp only at hk1;have hp:=ok.pair e1.i i o1 p1 o' p (hmem e1 h1).1 hi (Ne.symm r4) r1 r2 q1 q2;refine⟨by omega,by have:=hp.2.2;omega,?_⟩
         rcases hp.2.1 with h5 |h5 |h5
         ·exact(hk h5).elim
         ·exact(hnot (hanc e1 h1 p1 r2 i h5)).elim
         ·exact(KZ r3.fix h5).2 _ (Bi h2)
        ·obtain⟨h3,h4⟩:=hbo j nd h2
         exact⟨by omega,by omega,h4 _ (fun i hi=>by rw[FC (by omega),if_neg (by omega)])⟩
       refine⟨j,by rw[JO hjn.1,if_neg hjn.2.1],?_⟩
       rw[eqS,D4,Qr (fun q hq h=>by
        have:=ekeys q hq;rw[FC (by omega),if_pos (by omega)] at h
        omega),hjn.2.2]
       exact hj'
     ·intro j hj
      rw[JO (by omega),if_neg (by omega)]
   obtain⟨th'',hS2⟩:=hnext;refine ih (e::lD) (s.setIfInBounds i true) th'' z' a' w' (inv.set hir hi) (by simp;omega) ?_ ?_ ?_ ?_ hS2
   ·intro e1 he1
    rcases List.mem_cons.1 he1 with rfl |he1
    ·rw[ei];exact⟨hi,q3⟩
    ·exact hmem e1 he1
   ·rw[List.map_cons,ei]
    exact List.nodup_cons.2 ⟨fun h=>by
     obtain⟨e1,h1,h2⟩:=List.mem_map.1 h
     exact hnot ⟨e1,h1,h2⟩,hnd⟩
   ·intro j hj
    by_cases hij:i=j
    ·subst hij
     refine⟨fun _=>⟨e,by simp,ei⟩,fun _=>?_⟩
     have:i<s.size:=by rw[inv.size];have:=ok.le;omega
     simp[this]
    ·rw[getD_set_ne false hij,hs j hj]
     constructor
     ·rintro⟨e1,h1,h2⟩;exact⟨e1,by simp[h1],h2⟩
     ·rintro⟨e1,h1,h2⟩
      rcases List.mem_cons.1 h1 with rfl |h1
      ·exact(hij (ei.symm.trans h2)).elim
      ·exact⟨e1,h1,h2⟩
   ·intro e1 he1 p1 hp1 x hx
    rcases List.mem_cons.1 he1 with rfl |he1
    ·rw[ei,q2] at hp1;cases hp1
     obtain⟨e2,h1,h2⟩:=hancD x hx;exact⟨e2,by simp[h1],h2⟩
    ·obtain⟨e2,h1,h2⟩:=hanc e1 he1 p1 hp1 x hx
     exact⟨e2,by simp[h1],h2⟩
  by_cases hz: ∃z ∈ zs,z ∈ Region.ready .any ops s
  ·obtain⟨z,hzm,hzr⟩:=hz
   obtain⟨hzn,oz,hoz,hext,hgz,hfree⟩:=ok.strag z hzm;obtain⟨o',q1,_,h1⟩:=body (fun _ _ _=>False) z hzr hzn;obtain rfl:o'=oz:=Option.some.inj (q1.symm.trans hoz);obtain⟨u,hy,hK⟩:=Kc (ops:=ops) hext hgz h1;refine N2 hoz (ok.sel (fun h=>by rw[h] at hzm;cases hzm)) (fun c a w=>hQ c a _ _ w) (f+g) s a w (fun j oj hj hne hun hno=>hfree j oj hj hne (fun p hp hja=>?_) hno) hzr hy hK;obtain⟨_,o2,ho2,hdeps⟩:=mem_ready.1 hzr;obtain⟨ed,he,hb,h6⟩:=ok.anc z o2 p hzn ho2 hp j hja;have hdone:=hdeps ed he hb;have hlt:=ok.back z o2 hzn ho2 ed he hb;obtain⟨e1,h7,h8⟩:=(hs ed.on (by omega)).1 hdone
   have hj2: ∃e' ∈ lD,e'.i=j:=by
    rcases h6 with rfl |⟨q,hq,hxq⟩
    ·exact⟨e1,h7,h8⟩
    ·exact hanc e1 h7 q (by rw[h8];exact hq) j hxq
   obtain⟨e2,h9,h10⟩:=hj2;have:=(hs j (by rw[←h10];exact(hmem e2 h9).1)).2 ⟨e2,h9,h10⟩;rw[getD_both hun] at this;cases this
  refine⟨fun h=>absurd h hready,fun i hir=>?_⟩
  have hi:i<n:=by
   have hex: ∃i,i<n∧ ¬ ∃e ∈ lD,e.i=i:=by
    apply Classical.byContradiction;intro hno
    have:=DB (l':=lD.map (·.i)) range (fun i hi=>by
     have hi:i<n:=by simpa using hi
     have: ∃e ∈ lD,e.i=i:=Classical.byContradiction fun h=>hno ⟨i,hi,h⟩;obtain⟨e,he,rfl⟩:=this
     exact List.mem_map_of_mem he)
    simp at this;omega
   obtain⟨i0,hi0⟩:=hex;obtain⟨i1,⟨hi1,hno⟩,hmin⟩:=D7 (fun i=>i<n∧ ¬ ∃e ∈ lD,e.i=i) i0 hi0;obtain⟨o,p,e,q1,q2,q3,q4⟩:=hprop i1 hi1
   have hr1:i1 ∈ Region.ready .any ops s:=mem_ready.2 ⟨hund i1 hi1 hno,o,q1,fun e he hb=>by
    have hlt:=ok.back i1 o hi1 q1 e he hb;refine(hs e.on (by omega)).2 (Classical.byContradiction fun h=>?_);have:=hmin e.on ⟨by omega,h⟩
    omega⟩
   exact ok.head s inv i1 hi1 (fun h=>hz ⟨i1,h,hr1⟩) (hund i1 hi1 hno) i hir
  obtain⟨o',q1,eg,h1⟩:=body Q i hir hi;unfold wpOp;simp only[q1]
  have hw:Region.wanted o' (yielded ops a.tmps)=true:=by simp[Region.wanted,eg]
  rw[if_pos hw];exact .inl h1
end
end Go.AM
namespace Go.AM
open Go
section
variable {P:Program} {E:Env} {N:Nat} {st:AS}
theorem W6 {id:Nat}{ops:Array Oper}{AQ:AExit→AS→Prop}{ds:List (Option Nat)}{l l':List Oper}(hm:P.follows .mixedOrders=true)(n:Nat)(pl:List PU)(tot:Nat)(dss zs:List Nat)(hB:Y6 ops n pl tot dss zs=true)(hd:Cr N ops=true)(hds:BI ops=ds)(ht:ops.toList.drop n=l')(hh:ops.toList.take n=l)
  {m':List (Nat×AV)} {M:Nat} (hf:IJ dss st.m=m') (hM:st.n+tot=M) (hbig:M+tot≤1000000000) (hcl:Ur st.o=true) (h: ∀(K:AS→Prop)(kp:AV→AS→Prop),(∀st',AQ .normal st'→K st')→(∀x st',AQ (.pan x) st'→kp x st')→Sn P E N ds kp l' st.n ⟨m',st.o,M⟩ pl l 0 [] K):AWP P E N (.region id ops true) st AQ:=by
 subst hds ht hh hf;have h:=h (AQ .normal) (fun x st=>AQ (.pan x) st) (fun _ h=>h) (fun _ _ h=>h);have ok:=SF hB;intro Q hQ th z a w hs
 let Q':Exit→Act→World→Prop:=fun e a w=>match e with
  | .panic c=> ∀a':Act,a'.defers=a.defers→Q (.panic c) a' w
  |e=>Q e a w
 refine wp_mono (Q:=Q') ?_ (fun e a w hq=>by
  cases e
  case panic c=>exact hq a rfl
  all_goals exact hq)
 refine wp_region_any hm ?_;have hdst:=Bj hd
 obtain⟨L,_,hL,hprop,htail⟩:=Q6 (N:=N) (es:=[]) (j:=0) rfl (fun o ho=>hdst o (List.mem_of_mem_take ho)) (fun p hp=>by
  obtain⟨i,hi⟩:=List.mem_iff_getElem?.1 hp
  have hi':i<n:=by have:=(List.getElem?_eq_some_iff.1 hi).1;have:=ok.len;omega
  have:=ok.tot i p hi' hi;show st.n+p.r+p.k≤M
  omega) h
 have hlen:(ops.toList.take n).length=n:=by have:=ok.le;simp;omega
 rw[hlen,Nat.zero_add] at hL;simp only[Nat.zero_add] at hprop
 have hprop': ∀j,j<n→ ∃o p e,ops[j]?=some o∧pl[j]?=some p∧L[j]?=some e∧PropE P E N ⟨IJ dss st.m,st.o,M⟩ st.n L j o p e:=by
  intro j hj;obtain⟨o,p,e,q1,q2,q3,q4⟩:=hprop j (by omega);rw[List.getElem?_take_of_lt hj] at q1;exact⟨o,p,e,by simpa using q1,q2,q3,q4⟩
 have hs0:=hs.ext (Ea w);have hm0:=hs.mem.len;have inv0:HeadInv .any ops n (Array.replicate ops.size false):=
  ⟨by simp,fun j oj _ hl=>(by rw[getD_replicate_false] at hl;cases hl),fun t _ ht=>getD_in (by simpa using ht) (getD_replicate_false _ _)⟩
 have hbase:Sim E N (LG ⟨IJ dss st.m,st.o,M⟩ []) (th++List.replicate tot ⟨0,0,0,0,false⟩) z a w.drew:=
  (hs0.more tot).sub (by show M=st.n+tot;omega) (fun i x hi=>hi) (fun i x hi=>(JZ hi).2)
 have hE:E.th0.length≤st.n:=by
  apply Classical.byContradiction;intro hno;have:=hs.mem.pre st.n E.th0[st.n] (by simp[show st.n<E.th0.length by omega]);have:=(List.getElem?_eq_some_iff.1 this).1;omega
 have key:=Z3 (Q:=Q') (g:=ops.size - n) (bs:=⟨IJ dss st.m,st.o,M⟩) (n0:=st.n) ok (fun c a d v w h a2 ha=>h a2 (by rw[ha];cases d<;>rfl)) hL hM.symm hbig hE hprop'
  (fun i x hi=>by
   obtain⟨h1,h2⟩:=JZ hi;refine⟨h1,fun f hf=>?_⟩;obtain⟨y,_,hr⟩:=hs.slots i x h2
   exact hr.lt (fun i hi=>hf i (by omega)))
  (fun i nd hi=>by
   obtain⟨L,h1,h2,_⟩:=hs.mem.nds i nd hi
   exact⟨by have:=(List.getElem?_eq_some_iff.1 h1).1;omega,fun f hf=>h2.lt (QC hcl hi) (fun i hi=>hf i (by omega))⟩)
  (fun lD th' z' a' w' hin hall hsim=>by
   have hsub:Sim E N (LG ⟨IJ dss st.m,st.o,M⟩ L.reverse) th' z' a' w':=by
    have hLi: ∀e ∈ L,L[e.i]?=some e:=fun e he=>hin e (hall e he)
    have props: ∀e ∈ L,∃o p,e.i<n∧ops[e.i]?=some o∧pl[e.i]?=some p∧PropE P E N ⟨IJ dss st.m,st.o,M⟩ st.n L e.i o p e:=by
     intro e he;have h1:=hLi e he
     have hlt:e.i<n:=by have:=(List.getElem?_eq_some_iff.1 h1).1;omega
     obtain⟨o,p,e',q1,q2,q3,q4⟩:=hprop' e.i hlt;rw[h1] at q3;cases q3;exact⟨o,p,hlt,q1,q2,q4⟩
    have back: ∀e ∈ lD,e ∈ L:=fun e he=>List.mem_of_getElem? (hin e he)
    have hdist: ∀a ∈ lD,∀b ∈ lD,a.d=b.d→a=b:=by
     intro a ha b hb hab;obtain⟨o1,p1,l1,r1,r2,r3⟩:=props a (back a ha);obtain⟨o2,p2,l2,t1,t2,t3⟩:=props b (back b hb)
     by_cases hne:b.i=a.i
     ·have h1:=hin a ha
      have h2:=hin b hb;rw[hne,h1] at h2;exact Option.some.inj h2
     ·have:=(ok.pair a.i b.i o1 p1 o2 p2 l1 l2 hne r1 r2 t1 t2).1
      rw[t3.d,r3.d,hab] at this;exact(this rfl).elim
    refine hsim.sub rfl (fun i x hi=>?_) (fun i x hi=>?_)
    ·refine Ka (fun e1 he1 y hy=>?_) ?_
     ·obtain⟨o1,p1,l1,r1,r2,r3⟩:=props e1 (back e1 he1)
      have hk1:=r3.keys _ (Bi hy)
      rcases Ft hi with ⟨e2,h1,h2⟩ |h2
      ·obtain⟨o2,p2,l2,t1,t2,t3⟩:=props e2 (List.mem_reverse.1 h1)
       have hk2:=t3.keys _ (Bi h2)
       by_cases hne:e2.i=e1.i
       ·have g1:=hLi e2 (List.mem_reverse.1 h1)
        have g2:=hin e1 he1;rw[hne,g2] at g1;rw[←Option.some.inj g1,hy] at h2;exact Option.some.inj h2
       ·have:=(ok.pair e1.i e2.i o1 p1 o2 p2 l1 l2 hne r1 r2 t1 t2).2.2
        simp only at hk1 hk2;omega
      ·obtain⟨L',g1,_⟩:=hs.mem.nds i x h2
       have:=(List.getElem?_eq_some_iff.1 g1).1;simp only at hk1;omega
     ·rcases Ft hi with ⟨e2,h1,h2⟩ |h2
      ·exact .inl ⟨e2,hall e2 (List.mem_reverse.1 h1),h2⟩
      ·exact .inr h2
    ·rcases JU hi with ⟨e2,h1,rfl,rfl⟩ |⟨h1,h2⟩
     ·exact Kb (hall e2 (List.mem_reverse.1 h1)) hdist
     ·show lk (IM lD _) i=_
      rw[IL (fun e1 he1=>h1 e1 (List.mem_reverse.2 (back e1 he1)))];exact h2
   have:=wpAny_of_seq (md:= .any) (Q':=Q') (ops.toList.drop n) n ((List.range ops.size).map fun i=>decide (i<n)).toArray a' w' (fun j=>by simp[List.getElem?_drop]) (by simpa using ok.seq)
    (CF (Q:=Q') (K:=AQ .normal) (kp:=fun x st=>AQ (.pan x) st) (fun x v st' th' z' a' w' g1 g2 g3 a2 ha=>hQ.2.2.2 x v st' th' z' w' g1 g2.mem g3 a2 (ha.trans g2.dfs)) (fun st' th' z' a' w' g1 g2=>hQ.1 st' th' z' a' w' g1 g2) _ (fun o ho=>hdst o (List.mem_of_mem_drop ho)) hsub (Dc htail))
   simpa using this)
  n [] (Array.replicate ops.size false) _ z a w.drew inv0 (by simp) (by simp) (by simp) (fun i hi=>by rw[getD_replicate_false];simp) (by simp) hbase
 have e:n+(ops.size - n)=ops.size:=by have:=ok.le;omega
 rw[e] at key;exact key
end
section
variable (P:Program) (E:Env) (N:Nat) (ds:List (Option Nat)) (kp:AV→AS→Prop) (tail:List Oper) (n0:Nat) (bs:AS) (p:PU) (pl:List PU) (rest:List Oper) (j d:Nat) (es:List En) (K:AS→Prop)
def FJ (v:AV)(oo:List (Nat×Nd)):Prop:=PE bs.n n0 p.chk v oo∧Sn P E N ds kp tail n0 bs pl rest (j+1) (⟨j,d,v,oo⟩::es) K
def Vl (r:SR):Prop:=match r with
 | .val v _=>p.k=0∧FJ P E N ds kp tail n0 bs p pl rest j d es K v []
 |_=>False
def Xe (r:Option (Prop×TypeId×Nat×Nat×List (List AV))):Prop:=match r with
 |some (c,e,sz,len,els)=>c∧p.k=1∧FJ P E N ds kp tail n0 bs p pl rest j d es K (.s (n0+p.r) 0 len) [(n0+p.r,.lst e sz els)]
 |none=>False
def Xg (T:TypeId)(r:Option TY):Prop:=match r with
 |some ⟨_,_,_,some zs⟩=>p.k=1∧FJ P E N ds kp tail n0 bs p pl rest j d es K (.p (n0+p.r) 0 0) [(n0+p.r,.box T (zs.map .r))]
 |_=>False
def QJ (R:AS)(g:Nat)(xs:List AV):Prop:=Uw P E.G R g xs (n0+p.r) p.k (FJ P E N ds kp tail n0 bs p pl rest j d es K)
def Xf (R:AS)(f:Option AV)(xs:Option (List AV)):Prop:=match f,xs with
 |some (.fn g caps),some xs=>QJ P E N ds kp tail n0 bs p pl rest j d es K R g (xs++caps)
 |_,_=>False
def Xh (q:Bool)(R:AS)(op:Op):Prop:=match q with
 |true=>Vl P E N ds kp tail n0 bs p pl rest j d es K (A_ P E.G R op)
 |false=>I_ P E R op (n0+p.r) p.k (FJ P E N ds kp tail n0 bs p pl rest j d es K)
@[go_sem] theorem YP (pl:List PU):Sn P E N ds kp tail n0 bs pl [] j es K=ex P E N ds kp tail (LG bs es) K:=by cases pl<;>rfl
theorem Tl (R:AS)(op:Op)(h:Cw op=true)(r k:Nat)(kont:AV→List (Nat×Nd)→Prop):I_ P E R op r k kont=(match A_ P E.G R op with | .val v _=>k=0∧kont v [] |_=>False):=by
 have key: ∀x:Option AV,(match x with |some v=>k=0∧kont v [] |none=>False)=(match HF R x with | .val v _=>k=0∧kont v [] |_=>False):=by
  intro x;cases x<;>rfl
 cases op
 case call c=>
  obtain⟨callee,args,ats⟩:=c
  cases callee with
  |value f=>simp[Cw] at h
  |builtin b=>cases b<;>first |(simp[Cw] at h;done) |(rw[BN (by simp) (by simp) (by simp)];exact key _)
  |invoke a b=>simp[Cw] at h
 all_goals first |(simp[Cw] at h;done) |exact key _ |exact key none |rfl
@[go_sem] theorem Xo (op:Op) (t:TypeId) (pp:String) (af:Array Edge):Sn P E N ds kp tail n0 bs (p::pl) (⟨some d,op,t,pp,af,none⟩::rest) j es K=Xh P E N ds kp tail n0 bs p pl rest j d es K (Cw op) (LG bs (IK p.anc es)) op:=by
  have e:Sn P E N ds kp tail n0 bs (p::pl) (⟨some d,op,t,pp,af,none⟩::rest) j es K=I_ P E (LG bs (IK p.anc es)) op (n0+p.r) p.k (FJ P E N ds kp tail n0 bs p pl rest j d es K):=by
   simp only[Sn,true_and];rfl
  rw[e];cases h:Cw op
  ·rfl
  ·exact Tl P E _ op h _ _ _
@[go_sem] theorem ZS (R:AS) (op:Op):Xh P E N ds kp tail n0 bs p pl rest j d es K true R op=Vl P E N ds kp tail n0 bs p pl rest j d es K (A_ P E.G R op):=rfl
@[go_sem] theorem Xb (R:AS) (T:TypeId) (len:Nat) (ps:Array (Nat×Operand)):Xh P E N ds kp tail n0 bs p pl rest j d es K false R (.buildSlice T len ps)=Xe P E N ds kp tail n0 bs p pl rest j d es K (Tm P E.G R (.buildSlice T len ps)):=rfl
@[go_sem] theorem Wa (R:AS) (T:TypeId):Xh P E N ds kp tail n0 bs p pl rest j d es K false R (.alloc T)=Xg P E N ds kp tail n0 bs p pl rest j d es K T (AR P T):=rfl
@[go_sem] theorem Wd (T:TypeId) (k1:TK) (s1 b1:Nat) (zs:List Value):Xg P E N ds kp tail n0 bs p pl rest j d es K T (some ⟨k1,s1,b1,some zs⟩)=(p.k=1∧FJ P E N ds kp tail n0 bs p pl rest j d es K (.p (n0+p.r) 0 0) [(n0+p.r,.box T (zs.map .r))]):=rfl
@[go_sem] theorem Xc (R:AS) (f:Operand) (args:Array Operand) (ats:Array TypeId):Xh P E N ds kp tail n0 bs p pl rest j d es K false R (.call {callee:= .value f,args:=args,argTypes:=ats})=Xf P E N ds kp tail n0 bs p pl rest j d es K R (ev R E.G f) (E7 R E.G args.toList):=rfl
@[go_sem] theorem Xd (v:AV) (s:AS):Vl P E N ds kp tail n0 bs p pl rest j d es K (.val v s)=(p.k=0∧FJ P E N ds kp tail n0 bs p pl rest j d es K v []):=rfl
@[go_sem] theorem Wb (c:Prop) (e:TypeId) (sz len:Nat) (els:List (List AV)):Xe P E N ds kp tail n0 bs p pl rest j d es K (some (c,e,sz,len,els))=(c∧p.k=1∧FJ P E N ds kp tail n0 bs p pl rest j d es K (.s (n0+p.r) 0 len) [(n0+p.r,.lst e sz els)]):=rfl
@[go_sem] theorem Wc (R:AS) (g:Nat) (caps xs:List AV):Xf P E N ds kp tail n0 bs p pl rest j d es K R (some (.fn g caps)) (some xs)=QJ P E N ds kp tail n0 bs p pl rest j d es K R g (xs++caps):=rfl
@[go_sem] theorem XL (v:AV) (oo:List (Nat×Nd)):FJ P E N ds kp tail n0 bs p pl rest j d es K v oo=(PE bs.n n0 p.chk v oo∧Sn P E N ds kp tail n0 bs pl rest (j+1) (⟨j,d,v,oo⟩::es) K):=rfl
end
section
variable {P:Program} {E:Env} {N:Nat} {ds:List (Option Nat)} {kp:AV→AS→Prop} {tail:List Oper} {n0:Nat} {bs:AS} {p:PU} {pl:List PU} {rest:List Oper} {j d:Nat} {es:List En} {K:AS→Prop}
theorem UP {R:AS}{g:Nat}{xs ys:List AV}{res:AV}{os:List (Nat×Nd)}{k:Nat}(hc:Con P E.G g ys [] 0 (Is res os k) No)(hb:CA R xs=some ys)(hp:PT res)(hq: ∀p ∈ os,EO p.2)
  (hx:k=p.k∧(∀x ∈ os,x.1<p.k)∧(p.k=0→ren (· +R.n) res=ren (· +(n0+p.r)) res)∧(0<p.k→ren (AL (G5 R.n (n0+p.r) p.k)) (ren (· +(n0+p.r)) res)=ren (· +R.n) res∧CJ (AL (G5 R.n (n0+p.r) p.k)) (I0 (n0+p.r) os)=I0 R.n os))
  (hk:FJ P E N ds kp tail n0 bs p pl rest j d es K (ren (· +(n0+p.r)) res) (I0 (n0+p.r) os)):QJ P E N ds kp tail n0 bs p pl rest j d es K R g xs:=by
 obtain⟨rfl,h1,h2,h3⟩:=hx;exact⟨ys,res,os,hc,hb,hp,hq,h1,h2,h3,hk⟩
@[go_sem] theorem Wj {M r k i:Nat} (h:i<M) (h1:i<r):AL (G5 M r k) i=i:=by rw[FC h,if_neg (by omega)]
end
attribute [go_sem] LG IM Mj IK IJ PE UE Tm K4 FI CJ Qo true_and and_true cond_true cond_false
end Go.AM
namespace Go.AM
open Go
section
variable {P:Program} {E:Env} {N:Nat} {st:AS} {AQ:AExit→AS→Prop}
theorem rR {id:Nat}{ops:Array Oper}(h: ∀(K:AS→Prop)(kp:AV→AS→Prop),(∀st',AQ .normal st'→K st')→(∀x st',AQ (.pan x) st'→kp x st')→ex P E N (BI ops) kp ops.toList st K)(hd:Cr N ops=true:=by kernel_rfl):AWP P E N (.region id ops false) st AQ:=Xx hd h
theorem rD {id:Nat}{ops:Array Oper}{ds:List (Option Nat)}{l l':List Oper}(hm:P.follows .mixedOrders=true)(n:Nat)(ord:List Nat)
  (h: ∀(K:AS→Prop)(kp:AV→AS→Prop),(∀st',AQ .normal st'→K st')→(∀x st',AQ (.pan x) st'→kp x st')→G7 P E N ds kp l' l st K)
  (hB:Ep ops n ord=true:=by kernel_rfl) (hd:Cr N ops=true:=by kernel_rfl) (hg:((Ah ops ord).all fun o=>SX o.op)=true:=by kernel_rfl)
  (hds:BI ops=ds:=by simp only[go_sem];rfl) (ht:ops.toList.drop n=l':=by simp only[go_sem];rfl) (hh:Ah ops ord=l:=by simp only[go_sem];rfl):AWP P E N (.region id ops true) st AQ:=
 W7 hm n ord hB hd hg hds ht hh h
theorem rX {id:Nat}{ops:Array Oper}{ds:List (Option Nat)}{l l':List Oper}(hm:P.follows .mixedOrders=true)(ws:List Nat)(n:Nat)(ord:List Nat)
  (h: ∀(K:AS→Prop)(kp:AV→AS→Prop),(∀st',AQ .normal st'→K st')→(∀x st',AQ (.pan x) st'→kp x st')→Gi P E N ws ds kp l' l st K)
  (hB:Ep ops n ord=true:=by kernel_rfl) (hd:Cr N ops=true:=by kernel_rfl)
  (hds:BI ops=ds:=by simp only[go_sem];rfl) (ht:ops.toList.drop n=l':=by simp only[go_sem];rfl) (hh:Ah ops ord=l:=by simp only[go_sem];rfl) (hws:S8 ws st=true:=by rfl):AWP P E N (.region id ops true) st AQ:=
 W5 hm ws n ord hB hd hds ht hh hws h
theorem rU {id:Nat}{ops:Array Oper}{ds:List (Option Nat)}{l l':List Oper}{m':List (Nat×AV)}{M:Nat}(hm:P.follows .mixedOrders=true)(n:Nat)(pl:List PU)(tot:Nat)(dss zs:List Nat)
  (h: ∀(K:AS→Prop)(kp:AV→AS→Prop),(∀st',AQ .normal st'→K st')→(∀x st',AQ (.pan x) st'→kp x st')→Sn P E N ds kp l' st.n ⟨m',st.o,M⟩ pl l 0 [] K)
  (hB:Y6 ops n pl tot dss zs=true:=by kernel_rfl) (hd:Cr N ops=true:=by kernel_rfl)
  (hds:BI ops=ds:=by simp only[go_sem];rfl) (ht:ops.toList.drop n=l':=by simp only[go_sem];rfl) (hh:ops.toList.take n=l:=by simp only[go_sem];rfl)
  (hf:IJ dss st.m=m':=by simp only[go_sem];rfl) (hM:st.n+tot=M:=by simp only[go_sem];rfl) (hbig:M+tot≤1000000000:=by omega) (hcl:Ur st.o=true:=by rfl):AWP P E N (.region id ops true) st AQ:=
 W6 hm n pl tot dss zs hB hd hds ht hh hf hM hbig hcl h
variable {ds:List (Option Nat)} {kp:AV→AS→Prop} {tail rest:List Oper} {K:AS→Prop} {d:Option Nat} {ws:List Nat}
theorem cR {f:Nat}{xs ys:List AV}{res:AV}{os:List (Nat×Nd)}{m:Nat}(hc:Con P E.G f ys [] 0 (Is res os m) No)(hk:ex P E N ds kp rest ({st with o:=I0 st.n os++st.o,n:=st.n+m}.put d (ren (· +st.n) res)) K)
 (hb:CA st xs=some ys:=by first |(simp(implicitDefEqProofs:=false) (maxSteps:=2000000) (disch:=omega) only[go_sem];first |done |rfl) |rfl |(simp(implicitDefEqProofs:=false) (maxSteps:=2000000) (disch:=omega) only[go_sem, *,List.map_take,List.map_drop];first |done |rfl))
 (hp:PT res:=by first |(simp[-List.map_drop,-List.map_take];done) |exact .ro _ _ (Dv _ _))
 (hq: ∀p ∈ os,EO p.2:=by first |(simp[-List.map_drop,-List.map_take];done) |(intro _ h;simp only[List.mem_singleton] at h;subst h;exact Dv _ _)):OF P E N ds kp rest st K f xs d:=UQ hc hb hp hq hk
theorem cD {f:Nat}{xs ys:List AV}{res:AV}{os:List (Nat×Nd)}{m:Nat}(hc:Con P E.G f ys [] 0 (Is res os m) No)(hk:G7 P E N ds kp tail rest ({st with o:=I0 st.n os++st.o,n:=st.n+m}.put d (ren (· +st.n) res)) K)
 (hb:CA st xs=some ys:=by first |(simp(implicitDefEqProofs:=false) (maxSteps:=2000000) (disch:=omega) only[go_sem];first |done |rfl) |rfl |(simp(implicitDefEqProofs:=false) (maxSteps:=2000000) (disch:=omega) only[go_sem, *,List.map_take,List.map_drop];first |done |rfl))
 (hp:PT res:=by first |(simp[-List.map_drop,-List.map_take];done) |exact .ro _ _ (Dv _ _))
 (hq: ∀p ∈ os,EO p.2:=by first |(simp[-List.map_drop,-List.map_take];done) |(intro _ h;simp only[List.mem_singleton] at h;subst h;exact Dv _ _)):Sy P E N ds kp tail rest st K f xs d:=UR hc hb hp hq hk
theorem cU {n0:Nat}{bs:AS}{p:PU}{pl:List PU}{j d:Nat}{es:List En}{R:AS}{g:Nat}{xs ys:List AV}{res:AV}{os:List (Nat×Nd)}{k:Nat}(hc:Con P E.G g ys [] 0 (Is res os k) No)
 (hk:FJ P E N ds kp tail n0 bs p pl rest j d es K (ren (· +(n0+p.r)) res) (I0 (n0+p.r) os))
 (hb:CA R xs=some ys:=by first |(simp(implicitDefEqProofs:=false) (maxSteps:=2000000) (disch:=omega) only[go_sem];first |done |rfl) |rfl |(simp(implicitDefEqProofs:=false) (maxSteps:=2000000) (disch:=omega) only[go_sem, *,List.map_take,List.map_drop];first |done |rfl))
 (hp:PT res:=by first |(simp[-List.map_drop,-List.map_take];done) |exact .ro _ _ (Dv _ _))
 (hq: ∀p ∈ os,EO p.2:=by first |(simp[-List.map_drop,-List.map_take];done) |(intro _ h;simp only[List.mem_singleton] at h;subst h;exact Dv _ _))
 (hx:k=p.k∧(∀x ∈ os,x.1<p.k)∧(p.k=0→ren (· +R.n) res=ren (· +(n0+p.r)) res)∧(0<p.k→ren (AL (G5 R.n (n0+p.r) p.k)) (ren (· +(n0+p.r)) res)=ren (· +R.n) res∧CJ (AL (G5 R.n (n0+p.r) p.k)) (I0 (n0+p.r) os)=I0 R.n os):=by simp(disch:=omega) [go_sem]):
 QJ P E N ds kp tail n0 bs p pl rest j d es K R g xs:=UP hc hb hp hq hx hk
variable {op:Op} {b w:Bool}
theorem aG (h1:b=true→Mh P E N ds kp rest st K (.ask true w) d op)(h2:b=false→Mh P E N ds kp rest st K (.ask false w) d op):Mh P E N ds kp rest st K (.ask b w) d op:=U7 h1 h2
theorem aD (h1:b=true→Ez P E N ds kp tail rest st K (.ask true w) d op)(h2:b=false→Ez P E N ds kp tail rest st K (.ask false w) d op):Ez P E N ds kp tail rest st K (.ask b w) d op:=Se h1 h2
theorem iG {g:GV}(h:Mh P E N ds kp rest st K g d op):Mh P E N ds kp rest st K g d op:=h
theorem iD {g:GV}(h:Ez P E N ds kp tail rest st K g d op):Ez P E N ds kp tail rest st K g d op:=h
theorem eN {x y:AV}(hE:E.th0.length=0)(hx:x=ren (AL []) y)(hb:st.n≤1000000000:=by simp):OT E N st x [] 0 y:=(Al hE hb hx).s
end
theorem BQ:(∀(p:Prop)[Decidable p],(decide p=true)=p)∧(∀(p:Prop)[Decidable p],(decide p=false)= ¬p)∧(∀a b:Int,(¬a<b)=(b≤a))∧(∀a b:Int,(¬a≤b)=(b<a))∧(∀b:Bool,(¬b=true)=(b=false))∧(∀b:Bool,(¬b=false)=(b=true))∧
  (∀a b:Int,((a !=b)=true)= ¬a=b)∧(∀a b:Int,((a==b)=true)=(a=b))∧(∀a b:Int,((a !=b)=false)=(a=b))∧(∀a b:Int,((a==b)=false)= ¬a=b):=by
 refine⟨fun p _=>by simp,fun p _=>by simp,fun a b=>by simp,fun a b=>by simp,fun b=>by simp,fun b=>by simp,fun a b=>by simp,fun a b=>by simp,fun a b=>by simp,fun a b=>by simp⟩
end Go.AM
namespace Go.AM
open Go
theorem mixed:prog.follows .mixedOrders=true:=by kernel_rfl
@[go_sem] theorem Ze:AR prog 3=some ⟨.int .i64,1,8,some [.int .i64 0]⟩:=by kernel_rfl
@[go_sem] theorem Zd:AR prog 4=some ⟨.bool,1,1,some [.bool false]⟩:=by kernel_rfl
@[go_sem] theorem Zc:AR prog 5=some ⟨.int .u8,1,1,some [.int .u8 0]⟩:=by kernel_rfl
@[go_sem] theorem Zb:AR prog 9=some ⟨.str,1,16,some [.string ⟨#[]⟩]⟩:=by kernel_rfl
@[go_sem] theorem ZK:AR prog 25=some ⟨.int .i64,1,8,some [.int .i64 0]⟩:=by kernel_rfl
@[go_sem] theorem ZJ:AR prog 29=some ⟨.slice 71,1,24,some [.slice none 0 0]⟩:=by kernel_rfl
@[go_sem] theorem ZI:AR prog 30=some ⟨.slice 50,1,24,some [.slice none 0 0]⟩:=by kernel_rfl
@[go_sem] theorem ZH:AR prog 31=some ⟨.slice 131,1,24,some [.slice none 0 0]⟩:=by kernel_rfl
@[go_sem] theorem ZG:AR prog 33=some ⟨.struct [(0,1),(1,1)],2,32,some [.slice none 0 0,.int .i64 0]⟩:=by kernel_rfl
@[go_sem] theorem ZF:AR prog 35=some ⟨.struct [(0,1),(1,1),(2,1),(3,2)],5,96,some [.string ⟨#[]⟩,.slice none 0 0,.slice none 0 0,.slice none 0 0,.int .i64 0]⟩:=by kernel_rfl
@[go_sem] theorem ZE:AR prog 36=some ⟨.slice 3,1,24,some [.slice none 0 0]⟩:=by kernel_rfl
@[go_sem] theorem ZD:AR prog 50=some ⟨.slice 74,1,24,some [.slice none 0 0]⟩:=by kernel_rfl
@[go_sem] theorem ZC:AR prog 51=some ⟨.slice 9,1,24,some [.slice none 0 0]⟩:=by kernel_rfl
@[go_sem] theorem ZB:AR prog 52=some ⟨.slice 214,1,24,some [.slice none 0 0]⟩:=by kernel_rfl
@[go_sem] theorem ZA:AR prog 54=some ⟨.struct [(0,1),(1,1),(2,1),(3,1),(4,1),(5,1),(6,1),(7,1),(8,1),(9,1),(10,1),(11,1)],12,200,some [.int .i64 0,.string ⟨#[]⟩,.slice none 0 0,.slice none 0 0,.slice none 0 0,.bool false,.slice none 0 0,.string ⟨#[]⟩,.bool false,.int .i64 0,.string ⟨#[]⟩,.slice none 0 0]⟩:=by kernel_rfl
@[go_sem] theorem Z9:AR prog 71=some ⟨.struct [(0,1),(1,1)],2,24,some [.string ⟨#[]⟩,.int .i64 0]⟩:=by kernel_rfl
@[go_sem] theorem Z8:AR prog 74=some ⟨.struct [(0,1),(1,1),(2,1)],3,32,some [.int .i64 0,.int .i64 0,.string ⟨#[]⟩]⟩:=by kernel_rfl
@[go_sem] theorem Z7:AR prog 78=some ⟨.slice 83,1,24,some [.slice none 0 0]⟩:=by kernel_rfl
@[go_sem] theorem Z6:AR prog 81=some ⟨.slice 5,1,24,some [.slice none 0 0]⟩:=by kernel_rfl
@[go_sem] theorem Z5:AR prog 83=some ⟨.struct [(0,1),(1,1)],2,32,some [.slice none 0 0,.int .i64 0]⟩:=by kernel_rfl
@[go_sem] theorem Yg:AR prog 129=some ⟨.slice 81,1,24,some [.slice none 0 0]⟩:=by kernel_rfl
@[go_sem] theorem Yf:AR prog 131=some ⟨.struct [(0,1),(1,1),(2,1),(3,1),(4,1)],5,88,some [.bool false,.slice none 0 0,.slice none 0 0,.slice none 0 0,.int .i64 0]⟩:=by kernel_rfl
@[go_sem] theorem Ye:AR prog 149=some ⟨.slice 179,1,24,some [.slice none 0 0]⟩:=by kernel_rfl
@[go_sem] theorem Yd:AR prog 159=some ⟨.int .u64,1,8,some [.int .u64 0]⟩:=by kernel_rfl
@[go_sem] theorem Yc:AR prog 179=some ⟨.struct [(0,1),(1,1),(2,1)],3,32,some [.int .i64 0,.string ⟨#[]⟩,.int .i64 0]⟩:=by kernel_rfl
@[go_sem] theorem Yb:AR prog 184=some ⟨.map 3 230,1,8,some [.map none]⟩:=by kernel_rfl
@[go_sem] theorem Ya:AR prog 185=some ⟨.slice 36,1,24,some [.slice none 0 0]⟩:=by kernel_rfl
@[go_sem] theorem Y_:AR prog 187=some ⟨.struct [(0,2),(2,1),(3,1)],4,64,some [.slice none 0 0,.int .i64 0,.map none,.slice none 0 0]⟩:=by kernel_rfl
@[go_sem] theorem YZ:AR prog 190=some ⟨.slice 4,1,24,some [.slice none 0 0]⟩:=by kernel_rfl
@[go_sem] theorem YY:AR prog 204=some ⟨.slice 149,1,24,some [.slice none 0 0]⟩:=by kernel_rfl
@[go_sem] theorem YX:AR prog 206=some ⟨.arr 4 9,4,64,some [.string ⟨#[]⟩,.string ⟨#[]⟩,.string ⟨#[]⟩,.string ⟨#[]⟩]⟩:=by kernel_rfl
@[go_sem] theorem YW:AR prog 230=some ⟨.struct [],0,0,some []⟩:=by kernel_rfl
@[go_sem] theorem YV:AR prog 233=some ⟨.int .u64,1,8,some [.int .u64 0]⟩:=by kernel_rfl
@[go_sem] theorem ZW:Nu prog 71=some (.str [(0,1,.prim .str),(1,1,.prim (.int .i64))]):=by kernel_rfl
@[go_sem] theorem ZV:Nu prog 74=some (.str [(0,1,.prim (.int .i64)),(1,1,.prim (.int .i64)),(2,1,.prim .str)]):=by kernel_rfl
end Go.AM
namespace Go.AM
open Go Go.ChangeShapes Go.WideShapes Go.ChangeAt Go.RowKit
theorem M6 (a:Addr)(n:Nat)(h:a.spot=none):a.add n=⟨a.block,a.off+n,none⟩:=by
 unfold Addr.add;split
 ·rename_i h0;subst h0;cases a;simp_all
 ·rfl
def G4 (w:World):AT:=fun _ b=>b<w.heap.size
theorem DZ {H α:Type}{E:TypeId×Value→H}{P:Program}{w:World}{base:Nat}{spare:Nat→Bool}{held:Bool}{k fuel:Nat}{t e:TypeId}{cs:List Value}{x:DataW H×List MemPlace}
  (enc:α→List AV) (R:α→DataW H→Prop) (tt:Bool) (ht:P.underlying t=some (.slice e)) (hk:P.cellsOf e=k) (hk0:0<k)
  (leaf: ∀fuel cs x,DataW.trod E P w base spare held fuel e cs=some x→ ∃y,Reps w (G4 w) [] (enc y) cs∧(∀v ∈ cs,v.oneCell'=true)∧R y x.1)
  (h:DataW.trod E P w base spare held fuel t cs=some x):
  ∃(v:Value)(l:List α),cs=[v]∧Rep w (G4 w) [] (.ro tt k (l.map enc)) v∧v.oneCell'=true∧
   ((l=[]∧x.1= .nil)∨ ∃ds rest,x.1= .slice ds rest∧ds.length=l.length∧ ∀(i:Nat) y,l[i]?=some y→ ∃d,ds[i]?=some d∧R y d):=by
 rcases DataW.trod_slice ht h with ⟨rfl,rfl⟩ |⟨a,len,cap,elems,rest,n,_,rfl,rfl,hb,hl,hm,hlen,hel,-,-⟩
 ·exact⟨_,[],rfl,.nil _ _ _ _ _,rfl,.inl ⟨rfl,rfl⟩⟩
 have hy: ∀i:Fin len,∃y cs',w.cells? base (a.add (i.1 * k)) k=some cs'∧Reps w (G4 w) [] (enc y) cs'∧(∀v ∈ cs',v.oneCell'=true)∧ ∃d,(elems.map (·.1))[i.1]?=some d∧R y d:=fun⟨i,hi⟩=>by
  have h1:=hel i hi;rw[List.getElem?_eq_getElem (by omega),hk] at h1;obtain⟨cs',h2,h3⟩:=Option.bind_eq_some_iff.1 h1;obtain⟨y,h4,h5,hR⟩:=leaf _ _ _ h3;exact⟨y,cs',h2,h4,h5,_,by simp[show i<elems.length by omega],hR⟩
 obtain⟨f,hf⟩:=Classical.axiomOfChoice hy;obtain⟨g,hg⟩:=Classical.axiomOfChoice hf;refine⟨_,List.ofFn f,rfl,?_,rfl,.inr ⟨_,_,rfl,by simp[hlen],fun i y hi=>?_⟩⟩
 ·by_cases h0:len=0
  ·subst h0;simp only[List.ofFn_zero,List.map_nil];exact .nil _ _ _ _ _
  have c0:=hg ⟨0,by omega⟩;obtain⟨_,l0,g0⟩:=World.cells?_some c0.1;have g1:=g0 0 hk0;rw[List.getElem?_eq_getElem (by omega)] at g1
  have hs:a.spot=none:=by
   simp only[Nat.zero_mul] at g1
   have e0:(a.add 0).add 0=a:=by simp[Addr.add]
   rw[e0] at g1;unfold World.cell? at g1;split at g1
   ·split at g1
    ·cases g1
    ·rename_i h5;simpa using h5
   ·cases g1
  have hlt:a.block<w.heap.size:=by
   have:=World.block_lt_of_cell? _ _ g1;simpa[Addr.add] using this
  have ha:a=⟨a.block,a.off,none⟩:=by cases a;simp_all
  have hlk: ∀i:Fin len,(g i).length=k:=fun i=>(World.cells?_some (hg i).1).2.1
  have hmem: ∀(i:Nat)(e:List AV),((List.ofFn f).map enc)[i]?=some e→ ∃h:i<len,e=enc (f ⟨i,h⟩):=by
   intro i e hi;rw[List.getElem?_map,List.getElem?_ofFn] at hi;split at hi
   ·rename_i h;exact⟨h,by simpa using hi.symm⟩
   ·simp at hi
  have key: ∀(i:Nat)(e:List AV)(j:Nat)(x:AV),((List.ofFn f).map enc)[i]?=some e→e[j]?=some x→ ∃(h:i<len)(y:Value),(g ⟨i,h⟩)[j]?=some y∧Rep w (G4 w) [] x y∧w.cell? ⟨a.block,a.off+i * k+j,none⟩=some y:=by
   intro i e j x hi hj;obtain⟨h,rfl⟩:=hmem i e hi;obtain⟨y,h1,h2⟩:=(hg ⟨i,h⟩).2.1.get hj;refine⟨h,y,h1,h2,?_⟩;obtain⟨_,l1,g2⟩:=World.cells?_some (hg ⟨i,h⟩).1
   have hj':j<k:=by rw[←hlk ⟨i,h⟩];exact(List.getElem?_eq_some_iff.1 h1).1
   have g3:=g2 j hj';rw[M6 a _ hs,M6 _ _ rfl] at g3;rw[←h1,←g3]
  have hlen2:((List.ofFn f).map enc).length=len:=by simp
  let ys:Nat→Nat→Value:=fun i j=>if h:i<len then ((g ⟨i,h⟩)[j]?).getD undef else undef
  have hys: ∀ {i j:Nat}(h:i<len){y:Value},(g ⟨i,h⟩)[j]?=some y→ys i j=y:=by
   intro i j h y hy;simp only[ys];rw[dif_pos h,hy];rfl
  have hro:=Rep.ro (w:=w) (z:=G4 w) [] tt k ((List.ofFn f).map enc) a.block a.off cap ys hlt (by rw[hlen2];exact hl) (fun i e hi=>by obtain⟨h,rfl⟩:=hmem i e hi;rw[←(hg ⟨i,h⟩).2.1.1];exact hlk _)
   (fun i e j x hi hj=>by obtain⟨h,y,h1,_,h3⟩:=key i e j x hi hj;rw[hys h h1];exact h3)
   (fun i e j x hi hj=>by obtain⟨h,y,h1,_,_⟩:=key i e j x hi hj;rw[hys h h1];exact(hg ⟨i,h⟩).2.2.1 y (List.mem_of_getElem? h1))
   (fun i e j x hi hj=>by obtain⟨h,y,h1,h2,_⟩:=key i e j x hi hj;rw[hys h h1];exact h2)
  rw[hlen2,←ha] at hro;exact hro
 ·obtain⟨hi',rfl⟩: ∃h:i<len,f ⟨i,h⟩=y:=by
   rw[List.getElem?_ofFn] at hi;split at hi
   ·rename_i h;exact⟨h,by simpa using hi⟩
   ·cases hi
  exact(hg ⟨i,hi'⟩).2.2.2
theorem Yj {w:World}{z:AT}{th:List NLoc}{x:AV}{v:Value}(h:Rep w z th x v):Reps w z th [x] [v]:= .cons h .nil
end Go.AM
namespace Go.AM
open Go
section
variable {P:Program}
def M8 (G:List (Nat×List Value))(w:World):Prop:= ∀g cs,(g,cs) ∈ G→g<w.heap.size∧ ∀(j:Nat) u,cs[j]?=some u→w.cell? ⟨g,j,none⟩=some u
theorem BF {f:Nat}{G:List (Nat×List Value)}{xs:List AV}{v:Value}(hok:K9 P f=true)
  (h: ∀(w:World)(z:AT)(vs:List Value),(∀t b,z t b→b<w.heap.size)→Reps w z [] xs vs→M8 G w→Calls P f vs.toArray w (fun e w'=>e= .returned v∧Go.RowKit.Below w.heap.size w w')):Con P G f xs [] 0 (Is (.r v) [] 0) No:=by
 refine⟨hok,fun w th z own vs ho hm hr=>?_⟩;have hth:th=[]:=List.length_eq_zero_iff.1 hm.len;subst hth;refine(h w z vs hm.zlt hr (fun g cs hg=>⟨hm.zlt _ _ (hm.globs g cs hg).1,(hm.globs g cs hg).2⟩)).mono ?_;rintro e w' ⟨rfl,hb⟩;refine⟨v,.r v,[],0,[],z,.inl ⟨rfl,rfl,rfl,rfl⟩,?_,.r _ _⟩;refine⟨rfl,fun i nd hi=>by simp[lk] at hi,fun i j x y L M hi=>by simp[lk] at hi,fun t b hz=>Nat.lt_of_lt_of_le (hm.zlt t b hz) hb.size,hb.size,fun b hlt _=>hb.block b hlt,fun t b h=>h,fun b h=> .inl h,fun b h=>h,?_,fun i L hi=>by simp at hi,⟨hb.os,hb.tape,hb.output⟩,⟨fun _ _=>False,fun i T k els op L hi=>by simp[lk] at hi,fun _ _ h=>h.elim,fun _ _ h=>h.elim,fun _ _ h=>h.elim,fun _ _ _ h=>h.elim,fun i nd L j hi=>by simp[lk] at hi⟩⟩;intro g cs hg;obtain⟨h1,h2⟩:=hm.globs g cs hg;exact⟨h1,fun j u hu=>(B7 (hb.block g (hm.zlt _ _ h1)) j).trans (h2 j u hu)⟩
mutual
def wk:AV→AV→Prop
 | .r (.slice none 0 0),.ro _ _ []=>True
 | .agg a,.agg b=>LF a b
 |x,y=>x=y
def LF:List AV→List AV→Prop
 | [],[]=>True
 |x::a,y::b=>wk x y∧LF a b
 |_,_=>False
end
variable {w:World} {z:AT} {th:List NLoc}
mutual
theorem Ra: ∀ {x y:AV}{v:Value},wk x y→Rep w z th x v→Rep w z th y v
 | .r u,y,v,h,hr=>by
   unfold wk at h;split at h
   ·rename_i t k e;cases e;exact SG _ _ hr
   ·rename_i a b e;cases e
   ·subst h;exact hr
 | .agg a,y,v,h,hr=>by
   unfold wk at h;split at h
   ·rename_i e;cases e
   ·rename_i a' b e;cases e
    obtain⟨ys,rfl,hc⟩:=hr.agg_inv;have:=JL h hc;exact .agg _ _ _ this.1 this.2
   ·subst h;exact hr
 | .ro t k e,y,v,h,hr=>by simp[wk] at h;subst h;exact hr
 | .re t c o,y,v,h,hr=>by simp[wk] at h;subst h;exact hr
 | .s n l k,y,v,h,hr=>by simp[wk] at h;subst h;exact hr
 | .p n i o,y,v,h,hr=>by simp[wk] at h;subst h;exact hr
 | .tup c,y,v,h,hr=>by simp[wk] at h;subst h;exact hr
 | .fn f c,y,v,h,hr=>by simp[wk] at h;subst h;exact hr
 | .ifc t c,y,v,h,hr=>by simp[wk] at h;subst h;exact hr
 | .q n,y,v,h,hr=>by simp[wk] at h;subst h;exact hr
 | .u a b c,y,v,h,hr=>by simp[wk] at h;subst h;exact hr
 | .any,y,v,h,hr=>by simp[wk] at h;subst h;exact hr
theorem JL: ∀ {x y:List AV}{vs:List Value},LF x y→Reps w z th x vs→Reps w z th y vs
 | [],[],vs,_,hr=>hr
 |x::a,y::b,vs,h,hr=>by
  unfold LF at h;obtain⟨v,r,rfl,h1,h2⟩:=hr.head;exact .cons (Ra h.1 h1) (JL h.2 h2)
 | [],_::_,_,h,_=>by simp[LF] at h
 |_::_,[],_,h,_=>by simp[LF] at h
end
theorem Con.weak {G:List (Nat×List Value)}{f:Nat}{xs xs':List AV}{o:List (Nat×Nd)}{n:Nat}{Q R:AV→List (Nat×Nd)→Nat→Prop}(hc:Con P G f xs' o n Q R)(h:LF xs xs'):Con P G f xs o n Q R:=
 hc.args (fun _ _ _ _ hr=>JL h hr)
end
end Go.AM
namespace Go.AM
open Go
structure V where
 k:Int
 n:Int
 s:ByteArray
def eV (x:V):List AV:=[.r (.int .i64 x.k),.r (.int .i64 x.n),.r (.string x.s)]
def LY (x y:V):Bool:=x.k==y.k&&(x.n==y.n&&x.s.toList==y.s.toList)
def DJ:List V→List V→Bool
 | [],[]=>true
 |x::r,y::q=>LY x y&&DJ r q
 |_,_=>false
theorem BA {α:Type}{l:List α}{k:Nat}{x:α}(h:l[k]?=some x):l.drop k=x::l.drop (k+1):=by
 obtain⟨hk,rfl⟩:=List.getElem?_eq_some_iff.1 h;exact List.drop_eq_getElem_cons hk
theorem Jt: ∀ {a b:List V},DJ a b=true→a.length=b.length
 | [],[],_=>rfl
 |x::r,y::q,h=>by simp[DJ] at h;simp[Jt h.2]
 | [],_::_,h=>by simp[DJ] at h
 |_::_,[],h=>by simp[DJ] at h
def eI (n:Int):List AV:=[.r (.int .i64 n)]
def O1 (s:ByteArray):List AV:=[.r (.string s)]
structure CO where
 nm:ByteArray
 k:Int
def eC (c:CO):List AV:=[.r (.string c.nm),.r (.int .i64 c.k)]
structure TK0 where
 k:Int
 s:ByteArray
 n:Int
def eT (t:TK0):List AV:=[.r (.int .i64 t.k),.r (.string t.s),.r (.int .i64 t.n)]
@[simp] theorem VO (a:V):(∀x,x ∈ eV a→PT x)=True:=eq_true (by intro x hx;simp[eV] at hx;rcases hx with rfl |rfl |rfl<;>exact .r _)
@[simp] theorem VP (a:TK0):(∀x,x ∈ eT a→PT x)=True:=eq_true (by intro x hx;simp[eT] at hx;rcases hx with rfl |rfl |rfl<;>exact .r _)
@[simp] theorem VR (a:Int):(∀x,x ∈ eI a→PT x)=True:=eq_true (by intro x hx;simp[eI] at hx;subst hx;exact .r _)
@[simp] theorem VS (a:CO):(∀x,x ∈ eC a→PT x)=True:=eq_true (by intro x hx;simp[eC] at hx;rcases hx with rfl |rfl<;>exact .r _)
instance:PTf eV:=⟨fun a=>of_eq_true (VO a)⟩
instance:PTf eT:=⟨fun a=>of_eq_true (VP a)⟩
instance:PTf eI:=⟨fun a=>of_eq_true (VR a)⟩
instance:PTf eC:=⟨fun a=>of_eq_true (VS a)⟩
end Go.AM
namespace Go.AM
open Go Go.RowKit
open Go.Proofs.YtekljlenlbhmcaaGreatDoor (OP AY FY DT Aq An StrsAt str)
attribute [local irreducible] AWP Aw
def eO (o:OP):List AV:=[.r (.int .i64 o.k),.r (.int .i64 o.vk),.r (.int .i64 o.vn),.r (.string o.vs),.r (.string o.nm)]
structure ST where
 k:Int
 tab:ByteArray
 cols:List CO
 row:List V
 names:List ByteArray
 count:Bool
 wh:List OP
 ord:ByteArray
 down:Bool
 lim:Int
 set:ByteArray
 to:List OP
def Bk (s:ST):List AV:=[.r (.int .i64 s.k),.r (.string s.tab),.ro true 2 (s.cols.map eC),.ro true 3 (s.row.map eV),.ro true 1 (s.names.map O1),.r (.bool s.count),.ro true 5 (s.wh.map eO),.r (.string s.ord),.r (.bool s.down),.r (.int .i64 s.lim),.r (.string s.set),.ro true 5 (s.to.map eO)]
def Bf:List CO→List CO→Int
 |_,[]=>0
 |p,c::r=>if AY c.nm≠0 then AY c.nm else if c.k<1∨3<c.k then 2 else if p.any (fun x=>x.nm.toList==c.nm.toList) then 9 else Bf (p++[c]) r
def Am (l:List CO):Int:=if l.length<1∨6<l.length then 1 else Bf [] l
def Pn:List V→Int
 | []=>0
 |v::r=>if FY v.k v.n v.s≠0 then FY v.k v.n v.s else Pn r
def Yh (l:List V):Int:=if l.length<1∨6<l.length then 1 else Pn l
def Ot:List ByteArray→Int
 | []=>0
 |s::r=>if AY s≠0 then AY s else Ot r
def MC (l:List OP):Int:=if l.length=0 then 0 else DT l
def Hv:List ByteArray:=[str [],str [66,79,79,76],str [73,78,84],str [84,69,88,84]]
structure Tabs (G:List (Nat×List Value)):Prop where
 marks:(2,Aq.map .string) ∈ G
 words:(0,An.map .string) ∈ G
 types:lk G 1=some (Hv.map .string)
theorem Pk {G:List (Nat×List Value)}{w:World}{g:Nat}{ss:List ByteArray}(h:M8 G w)(hm:(g,ss.map .string) ∈ G):StrsAt w g ss∧g<w.heap.size:=
 ⟨fun j hj=>(h _ _ hm).2 j _ (by simp[hj]),(h _ _ hm).1⟩
abbrev Gc (s:ByteArray):Prop:=s.size≤maxLen
theorem HH {G:List (Nat×List Value)}(T:Tabs G)(s:ByteArray)(hs:Gc s):Con prog G 84 [.r (.string s)] [] 0 (Is (.r (.int .i64 (AY s))) [] 0) No:=
 BF (by kernel_rfl) (fun w z vs hz hr hG=>by
  obtain⟨v,r,rfl,h1,h2⟩:=hr.head;obtain rfl:=h1.r_inv;obtain rfl:=h2.of_nil;obtain⟨m1,m2⟩:=Pk hG T.marks;obtain⟨w1,w2⟩:=Pk hG T.words
  exact Go.Proofs.YtekljlenlbhmcaaGreatDoor.SL s w hs m1 m2 w1 w2)
theorem EJ (G:List (Nat×List Value))(s:ByteArray)(hs:Gc s):Con prog G 90 [.r (.string s)] [] 0 (Is (.r (.int .i64 (AY s))) [] 0) No:=
 BF (by kernel_rfl) (fun w z vs hz hr hG=>by
  obtain⟨v,r,rfl,h1,h2⟩:=hr.head;obtain rfl:=h1.r_inv;obtain rfl:=h2.of_nil
  exact Go.Proofs.YtekljlenlbhmcaaGreatDoor.LK s w hs)
theorem Uv {w:World}{z:AT}{th:List NLoc}{us:List Value}{v:Value}(h:Rep w z th (.agg (us.map .r)) v):v= .agg us.toArray:=by
 obtain⟨ys,rfl,hc⟩:=h.agg_inv
 have:ys=us:=by
  apply List.ext_getElem?;intro i
  cases hi:us[i]? with
  |none=>rw[List.getElem?_eq_none_iff] at hi ⊢;rw[hc.1];simpa using hi
  |some u=>
   obtain⟨y,h1,h2⟩:=hc.get (show(us.map AV.r)[i]?=some (.r u) by rw[List.getElem?_map,hi];rfl);rw[h1,h2.r_inv]
 rw[this]
end Go.AM
namespace Go.AM
open Go Go.RowKit
open Go.Proofs.YtekljlenlbhmcaaGreatDoor (OP AY FY DT Aq An StrsAt str)
attribute [local irreducible] AWP Aw
def Nh {α:Type}(p:α→Bool):List α→Nat→Int
 | [],_=> -1
 |x::r,k=>if p x=true then (k:Int) else Nh p r (k+1)
theorem Ng {α:Type}(p:α→Bool): ∀(l:List α)(k:Nat),decide (Nh p l k≥0)=l.any p
 | [],k=>by simp[Nh]
 |x::r,k=>by
  unfold Nh
  by_cases e:p x=true
  ·simp[e]
  ·rw[if_neg e,Ng p r (k+1)];simp[e]
theorem KT (G:List (Nat×List Value))(t:Bool)(l:List CO)(g:Nat)(caps:List AV)(p:CO→Bool)(hl:l.length≤1048576)(hcap: ∀st,CA st caps=some caps)(hren: ∀f,renL f caps=caps)(hf: ∀G x,Con prog G g (.agg (eC x)::caps) [] 0 (Is (.r (.bool (p x))) [] 0) No):
  Con prog G 116 [.ro t 2 (l.map eC),.fn g caps] [] 0 (Is (.r (.int .i64 (Nh p l 0))) [] 0) No:=by
 refine AA func116 rfl (by kernel_rfl) (of_decide_eq_true (by kernel_rfl)) ?_;intro E hG hE;subst hG;simp only[B9];(repeat' (first |refine A0 ?_ |refine A5 ?_ |((refine rR (fun K kp hK hkp=>?_));simp(implicitDefEqProofs:=false) (maxSteps:=2000000) (disch:=omega) only[go_sem];(repeat' (refine hK _ ?_;clear hK hkp kp K)))));refine AH (fun k:Nat=>⟨[(8,.r (.int .i64 k)),(7,.r (.int .i64 l.length)),(0,.ro t 2 (l.map eC)),(1,.fn g caps)],[],0⟩) (fun k=>k≤l.length∧Nh p (l.drop k) k=Nh p l 0) (fun k=>l.length - k) 0 ?_ ?_ ?_
 ·simp
 ·(refine AE hE [] rfl ?_ ?_<;>simp[AU,AO,lk,ren,renL,A9,AL,hren]<;>(try omega))
 intro k ⟨hk,hno⟩
 by_cases hk':k<l.length
 ·obtain⟨x,hx⟩: ∃x,l[k]?=some x:=⟨l[k],by simp[hk']⟩
  have hd:=BA hx;rw[hd,Nh] at hno;have hfx:=hf E.G x;simp only[eC] at hfx;(repeat' (first |refine A0 ?_ |refine A5 ?_ |refine A6 ?_ |((first |refine rR (fun K kp hK hkp=>?_) |refine cR hfx ?_);simp(implicitDefEqProofs:=false) (maxSteps:=2000000) (disch:=omega) only[go_sem,hx,eC,hcap];(repeat' (refine hK _ ?_;clear hK hkp kp K))) |((refine AD rfl (fun h=>?_) (fun h=>?_)<;>try simp only[BQ] at h)<;>(try (exfalso;omega))) |refine A8 ?_))
  ·(refine A7 (by(simp(implicitDefEqProofs:=false) (maxSteps:=2000000) (disch:=omega) only[go_sem,results116]);rfl) ?_;refine eN hE ?_;simp[AG,ren,renL])
   rw[←hno,if_pos h]
  ·((refine AJ (k+1) ?_ ?_ ?_);rotate_left;(·(try dsimp only);(omega));(·(refine AE hE [] rfl ?_ ?_<;>simp[AU,AO,lk,ren,renL,A9,AL,hren]<;>(try omega))))
   exact⟨by omega,by rw[←hno,if_neg (by simp[h])]⟩
 ·(repeat' (first |refine A0 ?_ |refine AB ?_ |((refine rR (fun K kp hK hkp=>?_));simp(implicitDefEqProofs:=false) (maxSteps:=2000000) (disch:=omega) only[go_sem];(repeat' (refine hK _ ?_;clear hK hkp kp K))) |((refine AD rfl (fun h=>?_) (fun h=>?_)<;>try simp only[BQ] at h)<;>(try (exfalso;omega))) |refine A8 ?_))
  (refine A7 (by(simp(implicitDefEqProofs:=false) (maxSteps:=2000000) (disch:=omega) only[go_sem,results116]);rfl) ?_;refine eN hE ?_;simp[AG,ren,renL]);rw[←hno,List.drop_of_length_le (by omega)];rfl
theorem Hg (G:List (Nat×List Value))(t:Bool)(l:List CO)(g:Nat)(caps:List AV)(p:CO→Bool)(hl:l.length≤1048576)(hcap: ∀st,CA st caps=some caps)(hren: ∀f,renL f caps=caps)(hf: ∀G x,Con prog G g (.agg (eC x)::caps) [] 0 (Is (.r (.bool (p x))) [] 0) No):
  Con prog G 211 [.ro t 2 (l.map eC),.fn g caps] [] 0 (Is (.r (.bool (l.any p))) [] 0) No:=by
 refine AA func211 rfl (by kernel_rfl) (of_decide_eq_true (by kernel_rfl)) ?_;intro E hG hE;subst hG;simp only[B9];have hi:=KT E.G t l g caps p hl hcap hren hf;(repeat' (first |refine A0 ?_ |((first |refine rR (fun K kp hK hkp=>?_) |refine cR hi ?_);simp(implicitDefEqProofs:=false) (maxSteps:=2000000) (disch:=omega) only[go_sem,hcap];(repeat' (refine hK _ ?_;clear hK hkp kp K))) |refine A8 ?_));(refine A7 (by(simp(implicitDefEqProofs:=false) (maxSteps:=2000000) (disch:=omega) only[go_sem,results211]);rfl) ?_;refine eN hE ?_;simp[AG,ren,renL]);exact Ng p l 0
def Ih (c x:CO):Bool:=x.nm.toList==c.nm.toList
theorem RI (u:Bool)(c:CO)(G:List (Nat×List Value))(x:CO):Con prog G 212 [.agg (eC x),.re u (eC c) 0] [] 0 (Is (.r (.bool (Ih c x))) [] 0) No:=by
 refine AA func212 rfl (by kernel_rfl) (of_decide_eq_true (by kernel_rfl)) ?_;intro E hG hE;subst hG;simp only[B9];(repeat' (first |refine A0 ?_ |((refine rR (fun K kp hK hkp=>?_));simp(implicitDefEqProofs:=false) (maxSteps:=2000000) (disch:=omega) only[go_sem,eC];(repeat' (refine hK _ ?_;clear hK hkp kp K))) |refine A8 ?_));(refine A7 (by(simp(implicitDefEqProofs:=false) (maxSteps:=2000000) (disch:=omega) only[go_sem,results212,Ih]);rfl) ?_;refine eN hE ?_;simp[AG,ren,renL,Ih])
theorem GO {l:List CO}{k:Nat}{c:CO}(h:l[k]?=some c):Bf (l.take k) (l.drop k)=if AY c.nm≠0 then AY c.nm else if c.k<1∨3<c.k then 2 else if (l.take k).any (Ih c) then 9 else Bf (l.take (k+1)) (l.drop (k+1)):=by
 rw[BA h,Bf,List.take_add_one,h];rfl
set_option maxHeartbeats 4000000 in
theorem Ss {G:List (Nat×List Value)}(T:Tabs G)(t:Bool)(l:List CO)(hl:l.length≤1048576)(hs: ∀c ∈ l,Gc c.nm):Con prog G 159 [.ro t 2 (l.map eC)] [] 0 (Is (.r (.int .i64 (Am l))) [] 0) No:=by
 refine AA func159 rfl (by kernel_rfl) (of_decide_eq_true (by kernel_rfl)) ?_;intro E hG hE;subst hG;simp only[B9]
 by_cases h1:l.length<1
 ·have d1:decide ((l.length:Int)<1)=true:=decide_eq_true (by omega)
  (repeat' (first |refine A0 ?_ |((refine rR (fun K kp hK hkp=>?_));simp(implicitDefEqProofs:=false) (maxSteps:=2000000) (disch:=omega) only[go_sem,d1];(repeat' (refine hK _ ?_;clear hK hkp kp K))) |refine A3 rfl ?_ |refine A8 ?_));(refine A7 (by(simp(implicitDefEqProofs:=false) (maxSteps:=2000000) (disch:=omega) only[go_sem,results159,Am,h1]);rfl) ?_;refine eN hE ?_;simp[AG,ren,renL,Am,h1])
 have d1:decide ((l.length:Int)<1)=false:=decide_eq_false (by omega)
 by_cases h6:6<l.length
 ·have d2:decide ((l.length:Int)>6)=true:=decide_eq_true (by omega)
  (repeat' (first |refine A0 ?_ |((refine rR (fun K kp hK hkp=>?_));simp(implicitDefEqProofs:=false) (maxSteps:=2000000) (disch:=omega) only[go_sem,d1,d2];(repeat' (refine hK _ ?_;clear hK hkp kp K))) |refine A3 rfl ?_ |refine A8 ?_));(refine A7 (by(simp(implicitDefEqProofs:=false) (maxSteps:=2000000) (disch:=omega) only[go_sem,results159,Am,h6]);rfl) ?_;refine eN hE ?_;simp[AG,ren,renL,Am,h6])
 have d2:decide ((l.length:Int)>6)=false:=decide_eq_false (by omega)
 have hM:Am l=Bf [] l:=by rw[Am,if_neg (by omega)]
 rw[hM];(repeat' (first |refine A0 ?_ |refine A5 ?_ |refine A6 ?_ |((refine rR (fun K kp hK hkp=>?_));simp(implicitDefEqProofs:=false) (maxSteps:=2000000) (disch:=omega) only[go_sem,d1,d2];(repeat' (refine hK _ ?_;clear hK hkp kp K))) |refine A4 rfl ?_));refine AH (fun k:Nat=>⟨[(16,.r (.int .i64 k)),(15,.r (.int .i64 l.length)),(14,.ro t 2 (l.map eC)),(0,.ro t 2 (l.map eC))],[],0⟩) (fun k=>k≤l.length∧Bf (l.take k) (l.drop k)=Bf [] l) (fun k=>l.length - k) 0 ?_ ?_ ?_
 ·simp
 ·(refine AE hE [] rfl ?_ ?_<;>simp[AU,AO,lk,ren,renL,A9,AL]<;>(try omega))
 intro k ⟨hk,hno⟩
 by_cases hk':k<l.length
 ·obtain⟨c,hx⟩: ∃x,l[k]?=some x:=⟨l[k],by simp[hk']⟩
  rw[GO hx] at hno;have hc:Gc c.nm:=hs c (List.mem_of_getElem? hx)
  by_cases hn:AY c.nm=0
  ·rw[if_neg (by simpa using hn)] at hno
   have hnc:=HH T c.nm hc;rw[hn] at hnc
   by_cases hk1:c.k<1
   ·have d3:decide (c.k<1)=true:=decide_eq_true hk1
    (repeat' (first |refine A0 ?_ |refine A5 ?_ |refine A6 ?_ |((first |refine rR (fun K kp hK hkp=>?_) |refine cR hnc ?_);simp(implicitDefEqProofs:=false) (maxSteps:=2000000) (disch:=omega) only[go_sem,hx,eC,d3];(repeat' (refine hK _ ?_;clear hK hkp kp K))) |refine A3 rfl ?_ |refine A4 rfl ?_ |((refine AD rfl (fun h=>?_) (fun h=>?_)<;>try simp only[BQ] at h)<;>(try (exfalso;omega))) |refine A8 ?_));(refine A7 (by(simp(implicitDefEqProofs:=false) (maxSteps:=2000000) (disch:=omega) only[go_sem,results159]);rfl) ?_;refine eN hE ?_;simp[AG,ren,renL]);rw[←hno,if_pos (.inl hk1)]
   have d3:decide (c.k<1)=false:=decide_eq_false hk1
   by_cases hk3:c.k>3
   ·have d4:decide (c.k>3)=true:=decide_eq_true hk3
    (repeat' (first |refine A0 ?_ |refine A5 ?_ |refine A6 ?_ |((first |refine rR (fun K kp hK hkp=>?_) |refine cR hnc ?_);simp(implicitDefEqProofs:=false) (maxSteps:=2000000) (disch:=omega) only[go_sem,hx,eC,d3,d4];(repeat' (refine hK _ ?_;clear hK hkp kp K))) |refine A3 rfl ?_ |refine A4 rfl ?_ |((refine AD rfl (fun h=>?_) (fun h=>?_)<;>try simp only[BQ] at h)<;>(try (exfalso;omega))) |refine A8 ?_));(refine A7 (by(simp(implicitDefEqProofs:=false) (maxSteps:=2000000) (disch:=omega) only[go_sem,results159]);rfl) ?_;refine eN hE ?_;simp[AG,ren,renL]);rw[←hno,if_pos (.inr hk3)]
   have d4:decide (c.k>3)=false:=decide_eq_false hk3;rw[if_neg (by omega)] at hno;have hcf:=Hg E.G t (l.take k) 212 [.re false [.r (.string c.nm),.r (.int .i64 c.k)] 0] (Ih c) (by simp;omega) (by simp[CA,Ee]) (by simp[renL,ren]) (fun G x=>RI false c G x);(repeat' (first |refine A0 ?_ |refine A5 ?_ |refine A6 ?_ |((first |refine rR (fun K kp hK hkp=>?_) |refine cR hnc ?_ |refine cR hcf ?_);simp(implicitDefEqProofs:=false) (maxSteps:=2000000) (disch:=omega) only[go_sem,hx,eC,d3,d4,List.map_take];(repeat' (refine hK _ ?_;clear hK hkp kp K))) |refine A4 rfl ?_ |((refine AD rfl (fun h=>?_) (fun h=>?_)<;>try simp only[BQ] at h)<;>(try (exfalso;omega))) |refine A8 ?_))
   ·(refine A7 (by(simp(implicitDefEqProofs:=false) (maxSteps:=2000000) (disch:=omega) only[go_sem,results159]);rfl) ?_;refine eN hE ?_;simp[AG,ren,renL])
    rw[←hno,if_pos h]
   ·((refine AJ (k+1) ?_ ?_ ?_);rotate_left;(·(try dsimp only);(omega));(·(refine AE hE [] rfl ?_ ?_<;>simp[AU,AO,lk,ren,renL,A9,AL]<;>(try omega))))
    exact⟨by omega,by rw[←hno,if_neg (by simp[h])]⟩
  ·have hb:(AY c.nm !=0)=true:=by simpa using hn
   rw[if_pos hn] at hno;(repeat' (first |refine A0 ?_ |refine A5 ?_ |refine A6 ?_ |((first |refine rR (fun K kp hK hkp=>?_) |refine cR (HH T c.nm hc) ?_);simp(implicitDefEqProofs:=false) (maxSteps:=2000000) (disch:=omega) only[go_sem,hx,eC,hb];(repeat' (refine hK _ ?_;clear hK hkp kp K))) |refine A3 rfl ?_ |((refine AD rfl (fun h=>?_) (fun h=>?_)<;>try simp only[BQ] at h)<;>(try (exfalso;omega))) |refine A8 ?_));(refine A7 (by(simp(implicitDefEqProofs:=false) (maxSteps:=2000000) (disch:=omega) only[go_sem,results159]);rfl) ?_;refine eN hE ?_;simp[AG,ren,renL]);exact hno
 ·(repeat' (first |refine A0 ?_ |refine AB ?_ |((refine rR (fun K kp hK hkp=>?_));simp(implicitDefEqProofs:=false) (maxSteps:=2000000) (disch:=omega) only[go_sem];(repeat' (refine hK _ ?_;clear hK hkp kp K))) |((refine AD rfl (fun h=>?_) (fun h=>?_)<;>try simp only[BQ] at h)<;>(try (exfalso;omega))) |refine A8 ?_))
  (refine A7 (by(simp(implicitDefEqProofs:=false) (maxSteps:=2000000) (disch:=omega) only[go_sem,results159]);rfl) ?_;refine eN hE ?_;simp[AG,ren,renL]);rw[←hno,List.drop_of_length_le (by omega)];rfl
def Ao (s:ByteArray):TK0:=⟨1,s,0⟩
def BK (s:ByteArray):TK0:=⟨4,s,0⟩
theorem R_ (G:List (Nat×List Value))(s:ByteArray):Con prog G 216 [.r (.string s)] [] 0 (Is (.agg (eT (Ao s))) [] 0) No:=by
 refine AA func216 rfl (by kernel_rfl) (of_decide_eq_true (by kernel_rfl)) ?_;intro E hG hE;subst hG;simp only[B9];(repeat' (first |refine A0 ?_ |((refine rR (fun K kp hK hkp=>?_));simp(implicitDefEqProofs:=false) (maxSteps:=2000000) (disch:=omega) only[go_sem];(repeat' (refine hK _ ?_;clear hK hkp kp K))) |refine A8 ?_));(refine A7 (by(simp(implicitDefEqProofs:=false) (maxSteps:=2000000) (disch:=omega) only[go_sem,results216,eT,Ao]);rfl) ?_;refine eN hE ?_;simp[AG,ren,renL,eT,Ao])
theorem SN (G:List (Nat×List Value))(s:ByteArray):Con prog G 170 [.r (.string s)] [] 0 (Is (.agg (eT (BK s))) [] 0) No:=by
 refine AA func170 rfl (by kernel_rfl) (of_decide_eq_true (by kernel_rfl)) ?_;intro E hG hE;subst hG;simp only[B9];(repeat' (first |refine A0 ?_ |((refine rR (fun K kp hK hkp=>?_));simp(implicitDefEqProofs:=false) (maxSteps:=2000000) (disch:=omega) only[go_sem];(repeat' (refine hK _ ?_;clear hK hkp kp K))) |refine A8 ?_));(refine A7 (by(simp(implicitDefEqProofs:=false) (maxSteps:=2000000) (disch:=omega) only[go_sem,results170,eT,BK]);rfl) ?_;refine eN hE ?_;simp[AG,ren,renL,eT,BK])
theorem OR (G:List (Nat×List Value))(t:Bool)(l:List ByteArray)(hl:l.length≤1048576):Con prog G 165 [.ro t 1 (l.map O1)] [] 0 (Is (.s 0 0 (l.map Ao).length) [(0,.lst 179 3 ((l.map Ao).map eT))] 1) No:=by
 refine AA func165 rfl (by kernel_rfl) (of_decide_eq_true (by kernel_rfl)) ?_;intro E hG hE;subst hG;simp only[B9];(repeat' (first |refine A0 ?_ |refine A5 ?_ |((refine rR (fun K kp hK hkp=>?_));simp(implicitDefEqProofs:=false) (maxSteps:=2000000) (disch:=omega) only[go_sem];(repeat' (refine hK _ ?_;clear hK hkp kp K)))));(refine AWP.emb (C0 3 179 3 ?_) ?_;(·rfl);dsimp only);refine AH (fun k:Nat=>⟨[(8,.r (.int .i64 k)),(7,.r (.int .i64 l.length)),(6,.ro t 1 (l.map O1)),(3,.s 0 0 ((l.take k).map Ao).length)],[(0,.lst 179 3 (((l.take k).map Ao).map eT))],1⟩) (fun k=>k≤l.length) (fun k=>l.length - k) 0 ?_ ?_ ?_
 ·simp
 ·(refine AE hE [0] rfl ?_ ?_<;>simp[AU,AO,lk,ren,renL,A9,AL]<;>(try omega))
 intro k hk
 by_cases hk':k<l.length
 ·obtain⟨x,hx⟩: ∃x,l[k]?=some x:=⟨l[k],by simp[hk']⟩
  have hs:(l.take (k+1)).map Ao=(l.take k).map Ao++[Ao x]:=by rw[List.take_add_one,hx];simp
  have hle:((l.take k).map Ao).length≤1048576:=by simp;omega
  generalize hq:(l.take k).map Ao=q at hs hle ⊢;(repeat' (first |refine A0 ?_ |refine A5 ?_ |refine A6 ?_ |((first |refine rR (fun K kp hK hkp=>?_) |refine cR (R_ _ _) ?_);simp(implicitDefEqProofs:=false) (maxSteps:=2000000) (disch:=omega) only[go_sem,hx,O1,eT,Ao];(repeat' (first |(refine hK _ ?_;clear hK hkp kp K) |(with_reducible refine And.intro ?_ ?_) |omega))) |((refine AD rfl (fun h=>?_) (fun h=>?_)<;>try simp only[BQ] at h)<;>(try (exfalso;omega)))))
  ((refine AJ (k+1) ?_ ?_ ?_);rotate_left;(·(try dsimp only);(omega));(·(refine AE hE [2] rfl ?_ ?_<;>simp[AU,AO,lk,ren,renL,A9,AL,hs,eT,Ao]<;>(try omega))))
  omega
 ·obtain rfl:k=l.length:=by omega
  rw[List.take_of_length_le (Nat.le_refl _)];(repeat' (first |refine A0 ?_ |refine AB ?_ |((refine rR (fun K kp hK hkp=>?_));simp(implicitDefEqProofs:=false) (maxSteps:=2000000) (disch:=omega) only[go_sem];(repeat' (refine hK _ ?_;clear hK hkp kp K))) |((refine AD rfl (fun h=>?_) (fun h=>?_)<;>try simp only[BQ] at h)<;>(try (exfalso;omega))) |refine A8 ?_));(refine A7 (by(simp(implicitDefEqProofs:=false) (maxSteps:=2000000) (disch:=omega) only[go_sem,results165]);rfl) ?_;refine(Cx hE [0] rfl ?_ ?_).s<;>simp[AG,AO,lk,ren,renL,A9,AL])
def Up (ts:List TK0):List AV:=[.ro true 3 (ts.map eT)]
def CY:List (List TK0)→List TK0
 | []=>[]
 | [t]=>t
 |t::r=>t++BK (str [44])::CY r
def KK (l:List (List TK0)):List TK0:=BK (str [40])::CY l++[BK (str [41])]
theorem G2 (x y:List TK0)(z:List (List TK0)):CY (x::y::z)=x++BK (str [44])::CY (y::z):=rfl
theorem J3: ∀(l:List (List TK0))(t:List TK0),l≠[]→CY (l++[t])=CY l++BK (str [44])::t
 | [],t,h=>(h rfl).elim
 | [a],t,_=>by simp[CY]
 |a::b::r,t,_=>by
  have:=J3 (b::r) t (by simp);simp only[List.cons_append] at this ⊢;rw[G2,this,G2];simp
theorem F6: ∀(l:List (List TK0)),(∀x ∈ l,x.length≤1000)→(CY l).length≤1001 * l.length
 | [],_=>by simp[CY]
 | [a],h=>by have:=h a (by simp);simp[CY];omega
 |a::b::r,h=>by
  have h1:=h a (by simp);have:=F6 (b::r) (fun x hx=>h x (by simp[hx]));rw[G2];simp at this ⊢;omega
def BZ (l:List (List TK0)):List TK0:=BK (str [40])::CY l
theorem Qt:BZ []=[BK (str [40])]:=rfl
theorem Lk {l:List (List TK0)}{x:List TK0}(h:l[0]?=some x):BZ (l.take 1)=BZ []++x:=by
 have:l.take 1=[x]:=by rw[List.take_add_one,h];rfl
 rw[this];simp[BZ,CY]
theorem KJ {l:List (List TK0)}{k:Nat}{x:List TK0}(h:l[k]?=some x)(hk:0<k):BZ (l.take (k+1))=BZ (l.take k)++[BK (str [44])]++x:=by
 have hl:k<l.length:=(List.getElem?_eq_some_iff.1 h).1;rw[List.take_add_one,h,Option.toList,BZ,J3 _ _ (by intro e;have:=congrArg List.length e;simp only[List.length_take,List.length_nil] at this;omega)];simp[BZ]
theorem SS (G:List (Nat×List Value))(t:Bool)(l:List (List TK0))(hl:l.length≤1000)(hs: ∀x ∈ l,x.length≤1000):Con prog G 166 [.ro t 1 (l.map Up)] [] 0 (Is (.ro true 3 ((KK l).map eT)) [] 0) No:=by
 refine AA func166 rfl (by kernel_rfl) (of_decide_eq_true (by kernel_rfl)) ?_;intro E hG hE;subst hG;simp only[B9];have mc:=SN E.G;simp only[eT,BK] at mc;(repeat' (first |refine A0 ?_ |refine A5 ?_ |((first |refine rR (fun K kp hK hkp=>?_) |refine cR (mc _) ?_);simp(implicitDefEqProofs:=false) (maxSteps:=2000000) (disch:=omega) only[go_sem,eT,BK];(repeat' (refine hK _ ?_;clear hK hkp kp K)))));refine AH (fun k:Nat=>⟨[(10,.r (.int .i64 k)),(9,.r (.int .i64 l.length)),(8,.ro t 1 (l.map Up)),(3,.s 0 0 (BZ (l.take k)).length)],[(0,.lst 179 3 ((BZ (l.take k)).map eT))],1⟩) (fun k=>k≤l.length) (fun k=>l.length - k) 0 ?_ ?_ ?_
 ·simp
 ·(refine AE hE [0] rfl ?_ ?_<;>simp[AU,AO,lk,ren,renL,A9,AL,Qt,eT,BK,str]<;>(try omega))
 intro k hk
 have hle:(BZ (l.take k)).length≤1002001:=by
  have:=F6 (l.take k) (fun x hx=>hs x (List.mem_of_mem_take hx));simp[BZ] at this ⊢;omega
 by_cases hk':k<l.length
 ·obtain⟨x,hx⟩: ∃x,l[k]?=some x:=⟨l[k],by simp[hk']⟩
  have hxl:=hs x (List.mem_of_getElem? hx)
  by_cases h0:0<k
  ·have d1:decide ((k:Int)>0)=true:=decide_eq_true (by omega)
   have hm:=KJ hx h0;generalize BZ (l.take k)=q at hm hle ⊢;(repeat' (first |refine A0 ?_ |refine A5 ?_ |refine A6 ?_ |((first |refine rR (fun K kp hK hkp=>?_) |refine cR (mc _) ?_);simp(implicitDefEqProofs:=false) (maxSteps:=2000000) (disch:=omega) only[go_sem,hx,Up,eT,d1];(repeat' (first |(refine hK _ ?_;clear hK hkp kp K) |(with_reducible refine And.intro ?_ ?_) |omega))) |refine A3 rfl ?_ |((refine AD rfl (fun h=>?_) (fun h=>?_)<;>try simp only[BQ] at h)<;>(try (exfalso;omega)))))
   ((refine AJ (k+1) ?_ ?_ ?_);rotate_left;(·(try dsimp only);(omega));(·(refine AE hE [3] rfl ?_ ?_<;>simp[AU,AO,lk,ren,renL,A9,AL,hm,eT,BK,str]<;>(try omega))))
   omega
  ·obtain rfl:k=0:=by omega
   have hm:=Lk hx;simp only[List.take_zero] at hle ⊢;generalize BZ []=q at hm hle ⊢;(repeat' (first |refine A0 ?_ |refine A5 ?_ |refine A6 ?_ |((refine rR (fun K kp hK hkp=>?_));simp(implicitDefEqProofs:=false) (maxSteps:=2000000) (disch:=omega) only[go_sem,hx,Up,eT];(repeat' (first |(refine hK _ ?_;clear hK hkp kp K) |(with_reducible refine And.intro ?_ ?_) |omega))) |refine A4 rfl ?_ |((refine AD rfl (fun h=>?_) (fun h=>?_)<;>try simp only[BQ] at h)<;>(try (exfalso;omega)))))
   ((refine AJ (0+1) ?_ ?_ ?_);rotate_left;(·(try dsimp only);(omega));(·(refine AE hE [1] rfl ?_ ?_<;>simp[AU,AO,lk,ren,renL,A9,AL,hm]<;>(try omega))))
   omega
 ·obtain rfl:k=l.length:=by omega
  have hm:KK l=BZ l++[BK (str [41])]:=rfl;rw[hm];rw[List.take_of_length_le (Nat.le_refl _)] at hle ⊢;generalize BZ l=q at hm hle ⊢;(repeat' (first |refine A0 ?_ |refine AB ?_ |((first |refine rR (fun K kp hK hkp=>?_) |refine cR (mc _) ?_);simp(implicitDefEqProofs:=false) (maxSteps:=2000000) (disch:=omega) only[go_sem,eT];(repeat' (first |(refine hK _ ?_;clear hK hkp kp K) |(with_reducible refine And.intro ?_ ?_) |omega))) |((refine AD rfl (fun h=>?_) (fun h=>?_)<;>try simp only[BQ] at h)<;>(try (exfalso;omega))) |refine A8 ?_));(refine A7 (by(simp(implicitDefEqProofs:=false) (maxSteps:=2000000) (disch:=omega) only[go_sem,results166,eT,BK,str]);rfl) ?_;refine Ar (by simp only[AG];simp(implicitDefEqProofs:=false) (maxSteps:=2000000) (disch:=omega) only[go_sem,eT,BK,str];rfl) ?_;refine(Al hE (by simp) ?_).s;simp[AG,ren,renL,eT,BK,str])
end Go.AM
namespace Go.AM
open Go Go.RowKit
open Go.Proofs.YtekljlenlbhmcaaGreatDoor (OP AY FY DT Aq An StrsAt str E6 DI digB bt)
attribute [local irreducible] AWP Aw
theorem Ej (l:List UInt8)(i:Nat):(str l)[i]?=l[i]?:=by
 by_cases h:i<l.length
 ·have h1:i<(str l).size:=h
  rw[getElem?_def,dif_pos h1,List.getElem?_eq_getElem h];rfl
 ·have h1: ¬i<(str l).size:=h
  rw[getElem?_def,dif_neg h1,List.getElem?_eq_none (by omega)]
theorem BB (l:List UInt8):(str l).size=l.length:=by simp[str,ByteArray.size]
theorem T7 {a b:ByteArray}(h:a.toList=b.toList):a=b:=by
 rw[Go.Proofs.YtekljlenlbhmcaaGreatDoor.Gk a,Go.Proofs.YtekljlenlbhmcaaGreatDoor.Gk b,h]
theorem DW (a b:List UInt8):str a++str b=str (a++b):=by
 apply T7;rw[Go.Proofs.YtekljlenlbhmcaaGreatDoor.C4,ByteArray.toList_eq,ByteArray.data_append];simp[str]
theorem Pl (l:List UInt8)(i j:Nat):(str l).extract i j=str ((l.take j).drop i):=by
 apply T7;rw[Go.Proofs.YtekljlenlbhmcaaGreatDoor.C4,ByteArray.toList_eq];simp[str,ByteArray.data_extract,List.drop_take]
def Gl:List UInt8→List TK0
 | []=>[]
 |c::r=>[⟨if E6 c.toNat=true then 1 else 4,str (c::r),0⟩]
def Dp:List UInt8→List UInt8→List TK0
 |cur,[]=>Gl cur
 |cur,c::r=>if c=32 then Gl cur++Dp [] r else Dp (cur++[c]) r
def FG (l:List UInt8):List TK0:=Dp [] l
theorem GU: ∀(w cur r:List UInt8),(∀c ∈ w,c≠32)→Dp cur (w++r)=Dp (cur++w) r
 | [],cur,r,_=>by simp
 |c::w,cur,r,h=>by
  rw[List.cons_append,Dp,if_neg (h c (by simp)),GU w (cur++[c]) r (fun x hx=>h x (by simp[hx]))];simp
theorem Ic (cur r:List UInt8):Dp cur (32::r)=Gl cur++Dp [] r:=by rw[Dp,if_pos rfl]
theorem Gv (G:List (Nat×List Value))(c:UInt8):Con prog G 207 [.r (.int .u8 c.toNat)] [] 0 (Is (.r (.bool (E6 c.toNat))) [] 0) No:=
 BF (by kernel_rfl) (fun w z vs hz hr hG=>by
  obtain⟨v,r,rfl,h1,h2⟩:=hr.head;obtain rfl:=h1.r_inv;obtain rfl:=h2.of_nil;have:=c.toNat_lt
  exact(Go.Proofs.YtekljlenlbhmcaaGreatDoor.Gw c.toNat w (by omega) (by omega)).mono (fun e w' ⟨he,hw⟩=>by subst hw;exact⟨he,Below.refl _ _⟩))
def UY (l:List UInt8)(q:Nat×Nat×List TK0):Prop:=q.2.1≤q.1∧q.1≤l.length+1∧q.2.2.length≤q.1∧(q.1≤l.length→q.2.2++Dp ((l.take q.1).drop q.2.1) (l.drop q.1)=FG l)∧(q.1=l.length+1→q.2.2=FG l)
theorem Hw {l:List UInt8}{i:Nat}{out:List TK0}{q:List TK0}(hi:i<l.length)(h3:out.length≤i)(hq:q.length≤out.length+1)(h:q++Dp [] (l.drop (i+1))=FG l):UY l (i+1,i+1,q):=
 ⟨Nat.le_refl _,by simp only;omega,by simp only;omega,fun _=>by simp only;rw[List.drop_of_length_le (by simp;omega)];exact h,fun e=>by simp only at e;omega⟩
theorem O4 {l:List UInt8}{fr i:Nat}{c:UInt8}(hf:fr<i)(h:l[fr]?=some c): ∃tl,(l.take i).drop fr=c::tl:=by
 have:(l.take i)[fr]?=some c:=by rw[List.getElem?_take_of_lt hf];exact h
 exact⟨_,BA this⟩
set_option maxHeartbeats 8000000 in
theorem H3 (G:List (Nat×List Value))(l:List UInt8)(hl:l.length≤1000000):Con prog G 183 [.r (.string (str l))] [] 0 (Is (.s 0 0 (FG l).length) [(0,.lst 179 3 ((FG l).map eT))] 1) No:=by
 refine AA func183 rfl (by kernel_rfl) (of_decide_eq_true (by kernel_rfl)) ?_;intro E hG hE;subst hG;simp only[B9];(repeat' (first |refine A0 ?_ |refine A5 ?_ |((refine rR (fun K kp hK hkp=>?_));simp(implicitDefEqProofs:=false) (maxSteps:=2000000) (disch:=omega) only[go_sem];(repeat' (refine hK _ ?_;clear hK hkp kp K)))));(refine AWP.emb (C0 3 179 3 ?_) ?_;(·rfl);dsimp only);refine AH (fun q:Nat×Nat×List TK0=>⟨[(5,.r (.int .i64 q.1)),(4,.r (.int .i64 q.2.1)),(0,.r (.string (str l))),(3,.s 0 0 q.2.2.length)],[(0,.lst 179 3 (q.2.2.map eT))],1⟩) (UY l) (fun q=>l.length+1 - q.1) (0,0,[]) ?_ ?_ ?_
 ·refine⟨by simp,by simp,by simp,fun _=>by simp[FG],fun h=>by simp at h⟩
 ·(refine AE hE [0] rfl ?_ ?_<;>simp[AU,AO,lk,ren,renL,A9,AL]<;>(try omega))
 rintro⟨i,fr,out⟩ ⟨h1,h2,h3,h4,h5⟩;simp only at h1 h2 h3 h4 h5 ⊢
 by_cases hi:i≤l.length
 ·have hno:=h4 hi
  have d0:decide ((i:Int)≤(l.length:Int))=true:=decide_eq_true (by omega)
  by_cases hlt:i<l.length
  ·have d1:decide ((i:Int)<(l.length:Int))=true:=decide_eq_true (by omega)
   obtain⟨c,hc⟩: ∃c,l[i]?=some c:=⟨l[i],by simp[hlt]⟩;have hd:=BA hc;rw[hd] at hno
   by_cases h32:c=32
   ·have d2:((c.toNat:Int) !=32)=false:=by subst h32;rfl
    rw[Dp,if_pos h32] at hno
    by_cases hf:fr<i
    ·have d3:decide ((i:Int)>(fr:Int))=true:=decide_eq_true (by omega)
     obtain⟨c0,hc0⟩: ∃c,l[fr]?=some c:=⟨l[fr]'(by omega),by simp⟩;obtain⟨tl,hcur⟩:=O4 hf hc0;have hx:=Pl l fr i;have hw:=Gv E.G c0;cases hlet:E6 c0.toNat
     ·rw[hlet] at hw
      have hem:Gl ((l.take i).drop fr)=[⟨4,str ((l.take i).drop fr),0⟩]:=by rw[hcur,Gl,hlet];rfl
      (repeat' (first |refine A0 ?_ |refine A5 ?_ |refine A6 ?_ |((first |refine rR (fun K kp hK hkp=>?_) |refine cR hw ?_);simp(implicitDefEqProofs:=false) (maxSteps:=2000000) (disch:=omega) only[go_sem,Ej,BB,hc,hc0,d0,d1,d2,d3,hx];(repeat' (first |(refine hK _ ?_;clear hK hkp kp K) |(with_reducible refine And.intro ?_ ?_) |omega))) |refine A3 rfl ?_ |refine A4 rfl ?_))
      ((refine AJ ((i+1,i+1,out++[⟨4,str ((l.take i).drop fr),0⟩])) ?_ ?_ ?_);rotate_left;(·(try dsimp only);(omega));(·(refine AE hE [2] rfl ?_ ?_<;>simp[AU,AO,lk,ren,renL,A9,AL,eT]<;>(try omega))))
      exact Hw hlt h3 (by simp) (by rw[←hno,hem];simp)
     ·rw[hlet] at hw
      have hem:Gl ((l.take i).drop fr)=[⟨1,str ((l.take i).drop fr),0⟩]:=by rw[hcur,Gl,hlet];rfl
      (repeat' (first |refine A0 ?_ |refine A5 ?_ |refine A6 ?_ |((first |refine rR (fun K kp hK hkp=>?_) |refine cR hw ?_);simp(implicitDefEqProofs:=false) (maxSteps:=2000000) (disch:=omega) only[go_sem,Ej,BB,hc,hc0,d0,d1,d2,d3,hx];(repeat' (first |(refine hK _ ?_;clear hK hkp kp K) |(with_reducible refine And.intro ?_ ?_) |omega))) |refine A3 rfl ?_ |refine A4 rfl ?_))
      ((refine AJ ((i+1,i+1,out++[⟨1,str ((l.take i).drop fr),0⟩])) ?_ ?_ ?_);rotate_left;(·(try dsimp only);(omega));(·(refine AE hE [2] rfl ?_ ?_<;>simp[AU,AO,lk,ren,renL,A9,AL,eT]<;>(try omega))))
      exact Hw hlt h3 (by simp) (by rw[←hno,hem];simp)
    ·obtain rfl:fr=i:=by omega
     have d3:decide ((fr:Int)>(fr:Int))=false:=decide_eq_false (by omega)
     have hem:Gl ((l.take fr).drop fr)=[]:=by rw[List.drop_of_length_le (by simp;omega)];rfl
     rw[hem] at hno;(repeat' (first |refine A0 ?_ |refine A5 ?_ |refine A6 ?_ |((refine rR (fun K kp hK hkp=>?_));simp(implicitDefEqProofs:=false) (maxSteps:=2000000) (disch:=omega) only[go_sem,Ej,BB,hc,d0,d1,d2,d3];(repeat' (refine hK _ ?_;clear hK hkp kp K))) |refine A3 rfl ?_ |refine A4 rfl ?_))
     ((refine AJ ((fr+1,fr+1,out)) ?_ ?_ ?_);rotate_left;(·(try dsimp only);(omega));(·(refine AE hE [0] rfl ?_ ?_<;>simp[AU,AO,lk,ren,renL,A9,AL]<;>(try omega))))
     exact Hw hlt h3 (by omega) (by rw[←hno];simp)
   ·have d2:((c.toNat:Int) !=32)=true:=by
     simp only[bne_iff_ne,ne_eq];intro e;have e:c.toNat=32:=by omega
     exact h32 (UInt8.toNat_inj.1 e)
    (repeat' (first |refine A0 ?_ |refine A5 ?_ |refine A6 ?_ |refine AB ?_ |((refine rR (fun K kp hK hkp=>?_));simp(implicitDefEqProofs:=false) (maxSteps:=2000000) (disch:=omega) only[go_sem,Ej,BB,hc,d0,d1,d2];(repeat' (refine hK _ ?_;clear hK hkp kp K))) |refine A3 rfl ?_))
    ((refine AJ ((i+1,fr,out)) ?_ ?_ ?_);rotate_left;(·(try dsimp only);(omega));(·(refine AE hE [0] rfl ?_ ?_<;>simp[AU,AO,lk,ren,renL,A9,AL]<;>(try omega))))
    refine⟨by simp;omega,by simp;omega,by simp;omega,fun _=>?_,fun h=>?_⟩
    ·simp only
     rw[←hno,Dp,if_neg h32,List.take_add_one,hc,Option.toList,List.drop_append_of_le_length (by simp;omega)]
    ·simp only at h;omega
  ·obtain rfl:i=l.length:=by omega
   have d1:decide ((l.length:Int)<(l.length:Int))=false:=decide_eq_false (by omega);rw[List.drop_length,Dp] at hno
   by_cases hf:fr<l.length
   ·have d3:decide ((l.length:Int)>(fr:Int))=true:=decide_eq_true (by omega)
    obtain⟨c0,hc0⟩: ∃c,l[fr]?=some c:=⟨l[fr]'(by omega),by simp⟩;obtain⟨tl,hcur⟩:=O4 hf hc0;have hx:=Pl l fr l.length;have hw:=Gv E.G c0;cases hlet:E6 c0.toNat
    ·rw[hlet] at hw
     have hem:Gl ((l.take l.length).drop fr)=[⟨4,str ((l.take l.length).drop fr),0⟩]:=by rw[hcur,Gl,hlet];rfl
     (repeat' (first |refine A0 ?_ |refine A5 ?_ |refine A6 ?_ |((first |refine rR (fun K kp hK hkp=>?_) |refine cR hw ?_);simp(implicitDefEqProofs:=false) (maxSteps:=2000000) (disch:=omega) only[go_sem,Ej,BB,hc0,d0,d1,d3,hx];(repeat' (first |(refine hK _ ?_;clear hK hkp kp K) |(with_reducible refine And.intro ?_ ?_) |omega))) |refine A3 rfl ?_ |refine A4 rfl ?_))
     ((refine AJ ((l.length+1,l.length+1,out++[⟨4,str ((l.take l.length).drop fr),0⟩])) ?_ ?_ ?_);rotate_left;(·(try dsimp only);(omega));(·(refine AE hE [2] rfl ?_ ?_<;>simp[AU,AO,lk,ren,renL,A9,AL,eT]<;>(try omega))))
     refine⟨by simp,by simp,by simp;omega,fun h=>by simp at h;omega,fun _=>by rw[←hno,hem]⟩
    ·rw[hlet] at hw
     have hem:Gl ((l.take l.length).drop fr)=[⟨1,str ((l.take l.length).drop fr),0⟩]:=by rw[hcur,Gl,hlet];rfl
     (repeat' (first |refine A0 ?_ |refine A5 ?_ |refine A6 ?_ |((first |refine rR (fun K kp hK hkp=>?_) |refine cR hw ?_);simp(implicitDefEqProofs:=false) (maxSteps:=2000000) (disch:=omega) only[go_sem,Ej,BB,hc0,d0,d1,d3,hx];(repeat' (first |(refine hK _ ?_;clear hK hkp kp K) |(with_reducible refine And.intro ?_ ?_) |omega))) |refine A3 rfl ?_ |refine A4 rfl ?_))
     ((refine AJ ((l.length+1,l.length+1,out++[⟨1,str ((l.take l.length).drop fr),0⟩])) ?_ ?_ ?_);rotate_left;(·(try dsimp only);(omega));(·(refine AE hE [2] rfl ?_ ?_<;>simp[AU,AO,lk,ren,renL,A9,AL,eT]<;>(try omega))))
     refine⟨by simp,by simp,by simp;omega,fun h=>by simp at h;omega,fun _=>by rw[←hno,hem]⟩
   ·obtain rfl:fr=l.length:=by omega
    have d3:decide ((l.length:Int)>(l.length:Int))=false:=decide_eq_false (by omega)
    have hem:Gl ((l.take l.length).drop l.length)=[]:=by rw[List.drop_of_length_le (by simp)];rfl
    rw[hem] at hno;(repeat' (first |refine A0 ?_ |refine A5 ?_ |refine A6 ?_ |((refine rR (fun K kp hK hkp=>?_));simp(implicitDefEqProofs:=false) (maxSteps:=2000000) (disch:=omega) only[go_sem,Ej,BB,d0,d1,d3];(repeat' (refine hK _ ?_;clear hK hkp kp K))) |refine A3 rfl ?_ |refine A4 rfl ?_))
    ((refine AJ ((l.length+1,l.length+1,out)) ?_ ?_ ?_);rotate_left;(·(try dsimp only);(omega));(·(refine AE hE [0] rfl ?_ ?_<;>simp[AU,AO,lk,ren,renL,A9,AL]<;>(try omega))))
    refine⟨by simp,by simp,by simp;omega,fun h=>by simp at h;omega,fun _=>by rw[←hno];simp⟩
 ·obtain rfl:i=l.length+1:=by omega
  have d0:decide ((l.length:Int)+1≤(l.length:Int))=false:=decide_eq_false (by omega);obtain rfl:=h5 rfl;(repeat' (first |refine A0 ?_ |refine AB ?_ |((refine rR (fun K kp hK hkp=>?_));simp(implicitDefEqProofs:=false) (maxSteps:=2000000) (disch:=omega) only[go_sem,BB,d0];(repeat' (refine hK _ ?_;clear hK hkp kp K))) |((refine AD rfl (fun h=>?_) (fun h=>?_)<;>try simp only[BQ] at h)<;>(try (exfalso;omega))) |refine A8 ?_));(refine A7 (by(simp(implicitDefEqProofs:=false) (maxSteps:=2000000) (disch:=omega) only[go_sem,results183]);rfl) ?_;refine(Cx hE [0] rfl ?_ ?_).s<;>simp[AG,AO,lk,ren,renL,A9,AL])
end Go.AM
namespace Go.AM
open Go Go.RowKit
open Go.Proofs.YtekljlenlbhmcaaGreatDoor (OP AY FY DT Aq An StrsAt str)
attribute [local irreducible] AWP Aw
def CQ (k:Int):ByteArray:=if k=1 then str [66,79,79,76] else if k=2 then str [73,78,84] else str [84,69,88,84]
def BJ (c:CO):List TK0:=[Ao c.nm,Ao (CQ c.k)]
def Cs (s:ST):List TK0:=[Ao (str [67,82,69,65,84,69]),Ao (str [84,65,66,76,69]),Ao s.tab]++KK (s.cols.map BJ)
def Q4 (c:CO):Prop:=1≤c.k∧c.k≤3
set_option maxHeartbeats 8000000 in
theorem QV {G:List (Nat×List Value)}(T:Tabs G)(s:ST)(hk:s.k=1)(hl:s.cols.length≤6)(hc: ∀c ∈ s.cols,Q4 c):Con prog G 113 [.agg (Bk s)] [] 0 (Is (.ro true 3 ((Cs s).map eT)) [] 0) No:=by
 refine AA func113 rfl (by kernel_rfl) (of_decide_eq_true (by kernel_rfl)) ?_;intro E hG hE;subst hG;simp only[B9];have Tt:=T.types;(repeat' (first |refine A0 ?_ |refine A5 ?_ |((refine rR (fun K kp hK hkp=>?_));simp(implicitDefEqProofs:=false) (maxSteps:=2000000) (disch:=omega) only[go_sem,Bk,hk];(repeat' (refine hK _ ?_;clear hK hkp kp K))) |refine A3 rfl ?_));(refine AWP.emb (C0 3 149 1 ?_) ?_;(·rfl);dsimp only)
 refine AH (fun k:Nat=>⟨[(16,.r (.int .i64 k)),(15,.r (.int .i64 s.cols.length)),(14,.ro true 2 (s.cols.map eC)),(3,.s 1 0 ((s.cols.take k).map BJ).length),(1,.p 0 0 0)],
  [(0,.box 54 (Bk s)),(1,.lst 149 1 (((s.cols.take k).map BJ).map Up))],2⟩) (fun k=>k≤s.cols.length) (fun k=>s.cols.length - k) 0 ?_ ?_ ?_
 ·simp
 ·(refine AE hE [0,1] rfl ?_ ?_<;>simp[AU,AO,lk,ren,renL,A9,AL,Bk,hk]<;>(try omega))
 intro k hk
 by_cases hk':k<s.cols.length
 ·obtain⟨c,hx⟩: ∃x,s.cols[k]?=some x:=⟨s.cols[k],by simp[hk']⟩
  have hs:(s.cols.take (k+1)).map BJ=(s.cols.take k).map BJ++[BJ c]:=by rw[List.take_add_one,hx];simp
  have hle:((s.cols.take k).map BJ).length≤6:=by simp;omega
  generalize hq:(s.cols.take k).map BJ=q at hs hle ⊢;obtain⟨g1,g3⟩:=hc c (List.mem_of_getElem? hx);have ac:=OR E.G false [c.nm,CQ c.k] (by simp);simp only[List.map_cons,List.map_nil,List.length_cons,List.length_nil,O1,eT,Ao] at ac
  obtain hy |hy |hy:c.k=1∨c.k=2∨c.k=3:=by omega
  ·have hty:CQ c.k=str [66,79,79,76]:=by simp[CQ,hy]
   rw[hty] at ac;(repeat' (first |refine A0 ?_ |refine A5 ?_ |refine A6 ?_ |((first |refine rR (fun K kp hK hkp=>?_) |refine rD (id:=7) mixed 10 [0,1,2,3,4,5,6,7,8,9] (fun K kp hK hkp=>?_) |refine cD ac ?_);simp(implicitDefEqProofs:=false) (maxSteps:=2000000) (disch:=omega) only[go_sem,hx,eC,hy,Tt,Hv];(repeat' (first |(refine hK _ ?_;clear hK hkp kp K) |(with_reducible refine And.intro ?_ ?_) |omega))) |((refine AD rfl (fun h=>?_) (fun h=>?_)<;>try simp only[BQ] at h)<;>(try (exfalso;omega)))))
   ((refine AJ (k+1) ?_ ?_ ?_);rotate_left;(·(try dsimp only);(omega));(·(refine AE hE [0,6] rfl ?_ ?_<;>simp[AU,AO,lk,ren,renL,A9,AL,hs,Up,BJ,hty,eT,Ao,Bk]<;>(try omega))))
   omega
  ·have hty:CQ c.k=str [73,78,84]:=by simp[CQ,hy]
   rw[hty] at ac;(repeat' (first |refine A0 ?_ |refine A5 ?_ |refine A6 ?_ |((first |refine rR (fun K kp hK hkp=>?_) |refine rD (id:=7) mixed 10 [0,1,2,3,4,5,6,7,8,9] (fun K kp hK hkp=>?_) |refine cD ac ?_);simp(implicitDefEqProofs:=false) (maxSteps:=2000000) (disch:=omega) only[go_sem,hx,eC,hy,Tt,Hv];(repeat' (first |(refine hK _ ?_;clear hK hkp kp K) |(with_reducible refine And.intro ?_ ?_) |omega))) |((refine AD rfl (fun h=>?_) (fun h=>?_)<;>try simp only[BQ] at h)<;>(try (exfalso;omega)))))
   ((refine AJ (k+1) ?_ ?_ ?_);rotate_left;(·(try dsimp only);(omega));(·(refine AE hE [0,6] rfl ?_ ?_<;>simp[AU,AO,lk,ren,renL,A9,AL,hs,Up,BJ,hty,eT,Ao,Bk]<;>(try omega))))
   omega
  ·have hty:CQ c.k=str [84,69,88,84]:=by simp[CQ,hy]
   rw[hty] at ac;(repeat' (first |refine A0 ?_ |refine A5 ?_ |refine A6 ?_ |((first |refine rR (fun K kp hK hkp=>?_) |refine rD (id:=7) mixed 10 [0,1,2,3,4,5,6,7,8,9] (fun K kp hK hkp=>?_) |refine cD ac ?_);simp(implicitDefEqProofs:=false) (maxSteps:=2000000) (disch:=omega) only[go_sem,hx,eC,hy,Tt,Hv];(repeat' (first |(refine hK _ ?_;clear hK hkp kp K) |(with_reducible refine And.intro ?_ ?_) |omega))) |((refine AD rfl (fun h=>?_) (fun h=>?_)<;>try simp only[BQ] at h)<;>(try (exfalso;omega)))))
   ((refine AJ (k+1) ?_ ?_ ?_);rotate_left;(·(try dsimp only);(omega));(·(refine AE hE [0,6] rfl ?_ ?_<;>simp[AU,AO,lk,ren,renL,A9,AL,hs,Up,BJ,hty,eT,Ao,Bk]<;>(try omega))))
   omega
 ·obtain rfl:k=s.cols.length:=by omega
  rw[List.take_of_length_le (Nat.le_refl _)];have lc:=SS E.G false (s.cols.map BJ) (by simp;omega) (by intro x hx;obtain⟨c,_,rfl⟩:=List.mem_map.1 hx;simp[BJ]);have ac:=OR E.G false [str [67,82,69,65,84,69],str [84,65,66,76,69],s.tab] (by simp);simp only[List.map_cons,List.map_nil,List.length_cons,List.length_nil,O1,eT,Ao,str] at ac
  have hlM:(KK (s.cols.map BJ)).length≤8000:=by
   have:=F6 (s.cols.map BJ) (by intro x hx;obtain⟨c,_,rfl⟩:=List.mem_map.1 hx;simp[BJ]);simp[KK] at this ⊢;omega
  (repeat' (first |refine A0 ?_ |refine AB ?_ |((first |refine rR (fun K kp hK hkp=>?_) |refine cR ac ?_ |refine cR lc ?_);simp(implicitDefEqProofs:=false) (maxSteps:=2000000) (disch:=omega) only[go_sem,Bk];(repeat' (first |(refine hK _ ?_;clear hK hkp kp K) |(with_reducible refine And.intro ?_ ?_) |omega))) |((refine AD rfl (fun h=>?_) (fun h=>?_)<;>try simp only[BQ] at h)<;>(try (exfalso;omega))) |refine A8 ?_));(refine A7 (by(simp(implicitDefEqProofs:=false) (maxSteps:=2000000) (disch:=omega) only[go_sem,results113,Cs,eT,Ao,str]);rfl) ?_;refine Ar (by simp only[AG];simp(implicitDefEqProofs:=false) (maxSteps:=2000000) (disch:=omega) only[go_sem,Cs,eT,Ao,str];rfl) ?_;refine(Al hE (by simp) ?_).s;simp[AG,ren,renL,Cs,eT,Ao,str]);exact List.take_of_length_le (by simp;omega)
end Go.AM
namespace Go.AM
open Go Go.RowKit
open Go.Proofs.YtekljlenlbhmcaaGreatDoor (OP AY FY DT Aq An StrsAt str E6 DI digB bt)
attribute [local irreducible] AWP Aw
structure goodN (s:ByteArray):Prop where
 len:s.toList.length≤8
 first: ∃c r,s.toList=c::r∧E6 c.toNat=true
 none: ∀c ∈ s.toList,c≠32
theorem M0 {s:ByteArray}(h:goodN s):Gl s.toList=[Ao s]:=by
 obtain⟨c,r,e,hl⟩:=h.first;rw[e,Gl,if_pos hl,←e,←Go.Proofs.YtekljlenlbhmcaaGreatDoor.Gk];rfl
def TQ:List UInt8:=[67,82,69,65,84,69,32,84,65,66,76,69,32]
theorem QR {s:ByteArray}(h:goodN s):FG (TQ++s.toList++[32,40])=[Ao (str [67,82,69,65,84,69]),Ao (str [84,65,66,76,69]),Ao s]++BZ []:=by
 have e1:FG (TQ++s.toList++[32,40])=[Ao (str [67,82,69,65,84,69]),Ao (str [84,65,66,76,69])]++Dp [] (s.toList++[32,40]):=rfl;rw[e1,GU _ _ _ h.none,List.nil_append,Ic,M0 h]
 rfl
def TH (k:Int):List UInt8:=if k=1 then [66,79,79,76] else if k=2 then [73,78,84] else [84,69,88,84]
theorem Rg {c:CO}(h:goodN c.nm):FG (c.nm.toList++[32]++TH c.k)=BJ c:=by
 rw[FG,List.append_assoc,GU _ _ _ h.none,List.nil_append,List.cons_append,List.nil_append,Ic,M0 h,BJ,CQ,TH];split
 ·rfl
 ·split<;>rfl
set_option maxHeartbeats 8000000 in
theorem NC (G:List (Nat×List Value))(s:ST)(hk:s.k=1)(hl:s.cols.length≤6)(hc: ∀c ∈ s.cols,Q4 c∧goodN c.nm)(ht:goodN s.tab):Con prog G 123 [.agg (Bk s)] [] 0 (Is (.ro true 3 ((Cs s).map eT)) [] 0) No:=by
 refine AA func123 rfl (by kernel_rfl) (of_decide_eq_true (by kernel_rfl)) ?_;intro E hG hE;subst hG;simp only[B9];have htl:=ht.len;have et:=Go.Proofs.YtekljlenlbhmcaaGreatDoor.Gk s.tab;have hh:=QR ht;have tc:=H3 E.G (TQ++s.tab.toList++[32,40]) (by simp[TQ];omega);rw[hh] at tc;have e1:(⟨#[67,82,69,65,84,69,32,84,65,66,76,69,32]⟩:ByteArray)++str s.tab.toList=str (TQ++s.tab.toList):=DW TQ s.tab.toList;have e2:str (TQ++s.tab.toList)++(⟨#[32,40]⟩:ByteArray)=str (TQ++s.tab.toList++[32,40]):=DW _ [32,40];have z1:(⟨#[67,82,69,65,84,69,32,84,65,66,76,69,32]⟩:ByteArray).size=13:=rfl;have z2:(⟨#[32,40]⟩:ByteArray).size=2:=rfl;have z3:(str s.tab.toList).size=s.tab.toList.length:=BB _
 have z4:(str (TQ++s.tab.toList)).size=13+s.tab.toList.length:=by rw[BB];simp[TQ];omega
 generalize htb:s.tab.toList=tb at *;generalize hhd:[Ao (str [67,82,69,65,84,69]),Ao (str [84,65,66,76,69]),Ao s.tab]=hd at *
 have hhl:hd.length=3:=by rw[←hhd];rfl
 have hcT:Cs s=hd++BZ (s.cols.map BJ)++[BK (str [41])]:=by rw[Cs,hhd];simp[KK,BZ]
 rw[hcT];(repeat' (first |refine A0 ?_ |refine A5 ?_ |((first |refine rR (fun K kp hK hkp=>?_) |refine cR tc ?_);simp(implicitDefEqProofs:=false) (maxSteps:=2000000) (disch:=omega) only[go_sem,Bk,hk,et,e1,e2,z1,z2,z3,z4];(repeat' (refine hK _ ?_;clear hK hkp kp K))) |refine A3 rfl ?_))
 refine AH (fun k:Nat=>⟨[(4,.r (.int .i64 k)),(3,.s 1 0 (hd++BZ ((s.cols.map BJ).take k)).length),(1,.p 0 0 0)],
  [(0,.box 54 (Bk s)),(1,.lst 179 3 ((hd++BZ ((s.cols.map BJ).take k)).map eT))],2⟩) (fun k=>k≤s.cols.length) (fun k=>s.cols.length - k) 0 ?_ ?_ ?_
 ·simp
 ·(refine AE hE [0,1] rfl ?_ ?_<;>simp[AU,AO,lk,ren,renL,A9,AL,Bk,hk,et]<;>(try omega))
 intro k hkk;have tk:FG [44]=[BK (str [44])]:=rfl;have tm:=H3 E.G [44] (by simp);rw[tk] at tm;simp only[List.map_cons,List.map_nil,List.length_cons,List.length_nil,eT,BK] at tm
 have hle:(hd++BZ ((s.cols.map BJ).take k)).length≤8010:=by
  have:=F6 ((s.cols.map BJ).take k) (by intro x hx;obtain⟨c,_,rfl⟩:=List.mem_map.1 (List.mem_of_mem_take hx);simp[BJ]);simp[BZ] at this ⊢;omega
 by_cases hlt:k<s.cols.length
 ·obtain⟨c,hx⟩: ∃x,s.cols[k]?=some x:=⟨s.cols[k],by simp[hlt]⟩
  have hx2:(s.cols.map BJ)[k]?=some (BJ c):=by rw[List.getElem?_map,hx];rfl
  obtain⟨⟨g1,g3⟩,gn⟩:=hc c (List.mem_of_getElem? hx);have hnl:=gn.len;have ec:=Go.Proofs.YtekljlenlbhmcaaGreatDoor.Gk c.nm;have tcc:=H3 E.G (c.nm.toList++[32]++TH c.k) (by simp[TH];split<;>(try split)<;>simp<;>omega);rw[Rg gn] at tcc;have e3:str c.nm.toList++(⟨#[32]⟩:ByteArray)=str (c.nm.toList++[32]):=DW _ [32];have z5:(⟨#[32]⟩:ByteArray).size=1:=rfl;have z6:(str c.nm.toList).size=c.nm.toList.length:=BB _
  have z7:(str (c.nm.toList++[32])).size=c.nm.toList.length+1:=by rw[BB];simp
  by_cases h0:0<k
  ·have d1:decide ((k:Int)>0)=true:=decide_eq_true (by omega)
   have hm:hd++BZ ((s.cols.map BJ).take (k+1))=hd++BZ ((s.cols.map BJ).take k)++[BK (str [44])]++BJ c:=by rw[KJ hx2 h0];simp
   generalize hd++BZ ((s.cols.map BJ).take k)=q at hm hle ⊢
   obtain hy |hy |hy:c.k=1∨c.k=2∨c.k=3:=by omega
   ·have e4:str (c.nm.toList++[32])++(⟨#[66,79,79,76]⟩:ByteArray)=str (c.nm.toList++[32]++TH c.k):=by rw[hy];exact DW _ [66,79,79,76]
    have z8:(⟨#[66,79,79,76]⟩:ByteArray).size=4:=rfl
    have hty:CQ c.k=str [66,79,79,76]:=by simp[CQ,hy]
    simp only[BJ,List.map_cons,List.map_nil,List.length_cons,List.length_nil,eT,Ao,hty] at tcc;generalize c.nm.toList=nb at *;rw[hy] at e4 tcc;(repeat' (first |refine A0 ?_ |refine A5 ?_ |refine A6 ?_ |((first |refine rR (fun K kp hK hkp=>?_) |refine rD (id:=9) mixed 19 [0,1,2,3,4,5,6,7,9,10,11,12,13,14,8,15,16,17,18] (fun K kp hK hkp=>?_) |refine cR tm ?_ |refine cD tcc ?_);simp(implicitDefEqProofs:=false) (maxSteps:=2000000) (disch:=omega) only[go_sem,Bk,eC,hx,hy,ec,e3,e4,z5,z6,z7,z8,d1];(repeat' (first |(refine hK _ ?_;clear hK hkp kp K) |(with_reducible refine And.intro ?_ ?_) |omega))) |refine A3 rfl ?_ |((refine AD rfl (fun h=>?_) (fun h=>?_)<;>try simp only[BQ] at h)<;>(try (exfalso;omega)))))
    ((refine AJ (k+1) ?_ ?_ ?_);rotate_left;(·(try dsimp only);(omega));(·(refine AE hE [0,6] rfl ?_ ?_<;>simp[AU,AO,lk,ren,renL,A9,AL,hm,eT,Ao,BJ,hty,Bk,BK,ec]<;>(try omega))))
    omega
   ·have e4:str (c.nm.toList++[32])++(⟨#[73,78,84]⟩:ByteArray)=str (c.nm.toList++[32]++TH c.k):=by rw[hy];exact DW _ [73,78,84]
    have z8:(⟨#[73,78,84]⟩:ByteArray).size=3:=rfl
    have hty:CQ c.k=str [73,78,84]:=by simp[CQ,hy]
    simp only[BJ,List.map_cons,List.map_nil,List.length_cons,List.length_nil,eT,Ao,hty] at tcc;generalize c.nm.toList=nb at *;rw[hy] at e4 tcc;(repeat' (first |refine A0 ?_ |refine A5 ?_ |refine A6 ?_ |((first |refine rR (fun K kp hK hkp=>?_) |refine rD (id:=9) mixed 19 [0,1,2,3,4,5,6,7,9,10,11,12,13,14,8,15,16,17,18] (fun K kp hK hkp=>?_) |refine cR tm ?_ |refine cD tcc ?_);simp(implicitDefEqProofs:=false) (maxSteps:=2000000) (disch:=omega) only[go_sem,Bk,eC,hx,hy,ec,e3,e4,z5,z6,z7,z8,d1];(repeat' (first |(refine hK _ ?_;clear hK hkp kp K) |(with_reducible refine And.intro ?_ ?_) |omega))) |refine A3 rfl ?_ |((refine AD rfl (fun h=>?_) (fun h=>?_)<;>try simp only[BQ] at h)<;>(try (exfalso;omega)))))
    ((refine AJ (k+1) ?_ ?_ ?_);rotate_left;(·(try dsimp only);(omega));(·(refine AE hE [0,6] rfl ?_ ?_<;>simp[AU,AO,lk,ren,renL,A9,AL,hm,eT,Ao,BJ,hty,Bk,BK,ec]<;>(try omega))))
    omega
   ·have e4:str (c.nm.toList++[32])++(⟨#[84,69,88,84]⟩:ByteArray)=str (c.nm.toList++[32]++TH c.k):=by rw[hy];exact DW _ [84,69,88,84]
    have z8:(⟨#[84,69,88,84]⟩:ByteArray).size=4:=rfl
    have hty:CQ c.k=str [84,69,88,84]:=by simp[CQ,hy]
    simp only[BJ,List.map_cons,List.map_nil,List.length_cons,List.length_nil,eT,Ao,hty] at tcc;generalize c.nm.toList=nb at *;rw[hy] at e4 tcc;(repeat' (first |refine A0 ?_ |refine A5 ?_ |refine A6 ?_ |((first |refine rR (fun K kp hK hkp=>?_) |refine rD (id:=9) mixed 19 [0,1,2,3,4,5,6,7,9,10,11,12,13,14,8,15,16,17,18] (fun K kp hK hkp=>?_) |refine cR tm ?_ |refine cD tcc ?_);simp(implicitDefEqProofs:=false) (maxSteps:=2000000) (disch:=omega) only[go_sem,Bk,eC,hx,hy,ec,e3,e4,z5,z6,z7,z8,d1];(repeat' (first |(refine hK _ ?_;clear hK hkp kp K) |(with_reducible refine And.intro ?_ ?_) |omega))) |refine A3 rfl ?_ |((refine AD rfl (fun h=>?_) (fun h=>?_)<;>try simp only[BQ] at h)<;>(try (exfalso;omega)))))
    ((refine AJ (k+1) ?_ ?_ ?_);rotate_left;(·(try dsimp only);(omega));(·(refine AE hE [0,6] rfl ?_ ?_<;>simp[AU,AO,lk,ren,renL,A9,AL,hm,eT,Ao,BJ,hty,Bk,BK,ec]<;>(try omega))))
    omega
  ·obtain rfl:k=0:=by omega
   have hm:hd++BZ ((s.cols.map BJ).take (0+1))=hd++BZ ((s.cols.map BJ).take 0)++BJ c:=by rw[Lk hx2,List.take_zero];simp
   generalize hd++BZ ((s.cols.map BJ).take 0)=q at hm hle ⊢
   obtain hy |hy |hy:c.k=1∨c.k=2∨c.k=3:=by omega
   ·have e4:str (c.nm.toList++[32])++(⟨#[66,79,79,76]⟩:ByteArray)=str (c.nm.toList++[32]++TH c.k):=by rw[hy];exact DW _ [66,79,79,76]
    have z8:(⟨#[66,79,79,76]⟩:ByteArray).size=4:=rfl
    have hty:CQ c.k=str [66,79,79,76]:=by simp[CQ,hy]
    simp only[BJ,List.map_cons,List.map_nil,List.length_cons,List.length_nil,eT,Ao,hty] at tcc;generalize c.nm.toList=nb at *;rw[hy] at e4 tcc;(repeat' (first |refine A0 ?_ |refine A5 ?_ |refine A6 ?_ |((first |refine rR (fun K kp hK hkp=>?_) |refine rD (id:=9) mixed 19 [0,1,2,3,4,5,6,7,9,10,11,12,13,14,8,15,16,17,18] (fun K kp hK hkp=>?_) |refine cD tcc ?_);simp(implicitDefEqProofs:=false) (maxSteps:=2000000) (disch:=omega) only[go_sem,Bk,eC,hx,hy,ec,e3,e4,z5,z6,z7,z8];(repeat' (first |(refine hK _ ?_;clear hK hkp kp K) |(with_reducible refine And.intro ?_ ?_) |omega))) |refine A4 rfl ?_ |((refine AD rfl (fun h=>?_) (fun h=>?_)<;>try simp only[BQ] at h)<;>(try (exfalso;omega)))))
    ((refine AJ (0+1) ?_ ?_ ?_);rotate_left;(·(try dsimp only);(omega));(·(refine AE hE [0,4] rfl ?_ ?_<;>simp[AU,AO,lk,ren,renL,A9,AL,hm,eT,Ao,BJ,hty,Bk,BK,ec]<;>(try omega))))
    omega
   ·have e4:str (c.nm.toList++[32])++(⟨#[73,78,84]⟩:ByteArray)=str (c.nm.toList++[32]++TH c.k):=by rw[hy];exact DW _ [73,78,84]
    have z8:(⟨#[73,78,84]⟩:ByteArray).size=3:=rfl
    have hty:CQ c.k=str [73,78,84]:=by simp[CQ,hy]
    simp only[BJ,List.map_cons,List.map_nil,List.length_cons,List.length_nil,eT,Ao,hty] at tcc;generalize c.nm.toList=nb at *;rw[hy] at e4 tcc;(repeat' (first |refine A0 ?_ |refine A5 ?_ |refine A6 ?_ |((first |refine rR (fun K kp hK hkp=>?_) |refine rD (id:=9) mixed 19 [0,1,2,3,4,5,6,7,9,10,11,12,13,14,8,15,16,17,18] (fun K kp hK hkp=>?_) |refine cD tcc ?_);simp(implicitDefEqProofs:=false) (maxSteps:=2000000) (disch:=omega) only[go_sem,Bk,eC,hx,hy,ec,e3,e4,z5,z6,z7,z8];(repeat' (first |(refine hK _ ?_;clear hK hkp kp K) |(with_reducible refine And.intro ?_ ?_) |omega))) |refine A4 rfl ?_ |((refine AD rfl (fun h=>?_) (fun h=>?_)<;>try simp only[BQ] at h)<;>(try (exfalso;omega)))))
    ((refine AJ (0+1) ?_ ?_ ?_);rotate_left;(·(try dsimp only);(omega));(·(refine AE hE [0,4] rfl ?_ ?_<;>simp[AU,AO,lk,ren,renL,A9,AL,hm,eT,Ao,BJ,hty,Bk,BK,ec]<;>(try omega))))
    omega
   ·have e4:str (c.nm.toList++[32])++(⟨#[84,69,88,84]⟩:ByteArray)=str (c.nm.toList++[32]++TH c.k):=by rw[hy];exact DW _ [84,69,88,84]
    have z8:(⟨#[84,69,88,84]⟩:ByteArray).size=4:=rfl
    have hty:CQ c.k=str [84,69,88,84]:=by simp[CQ,hy]
    simp only[BJ,List.map_cons,List.map_nil,List.length_cons,List.length_nil,eT,Ao,hty] at tcc;generalize c.nm.toList=nb at *;rw[hy] at e4 tcc;(repeat' (first |refine A0 ?_ |refine A5 ?_ |refine A6 ?_ |((first |refine rR (fun K kp hK hkp=>?_) |refine rD (id:=9) mixed 19 [0,1,2,3,4,5,6,7,9,10,11,12,13,14,8,15,16,17,18] (fun K kp hK hkp=>?_) |refine cD tcc ?_);simp(implicitDefEqProofs:=false) (maxSteps:=2000000) (disch:=omega) only[go_sem,Bk,eC,hx,hy,ec,e3,e4,z5,z6,z7,z8];(repeat' (first |(refine hK _ ?_;clear hK hkp kp K) |(with_reducible refine And.intro ?_ ?_) |omega))) |refine A4 rfl ?_ |((refine AD rfl (fun h=>?_) (fun h=>?_)<;>try simp only[BQ] at h)<;>(try (exfalso;omega)))))
    ((refine AJ (0+1) ?_ ?_ ?_);rotate_left;(·(try dsimp only);(omega));(·(refine AE hE [0,4] rfl ?_ ?_<;>simp[AU,AO,lk,ren,renL,A9,AL,hm,eT,Ao,BJ,hty,Bk,BK,ec]<;>(try omega))))
    omega
 ·obtain rfl:k=s.cols.length:=by omega
  have t2:FG [41]=[BK (str [41])]:=rfl;have tn:=H3 E.G [41] (by simp);rw[t2] at tn;simp only[List.map_cons,List.map_nil,List.length_cons,List.length_nil,eT,BK] at tn;have e9:(s.cols.map BJ).take s.cols.length=s.cols.map BJ:=List.take_of_length_le (by simp);rw[e9] at hle ⊢;generalize hd++BZ (s.cols.map BJ)=q at hle ⊢;(repeat' (first |refine A0 ?_ |refine AB ?_ |((first |refine rR (fun K kp hK hkp=>?_) |refine cR tn ?_);simp(implicitDefEqProofs:=false) (maxSteps:=2000000) (disch:=omega) only[go_sem,Bk];(repeat' (first |(refine hK _ ?_;clear hK hkp kp K) |(with_reducible refine And.intro ?_ ?_) |omega))) |((refine AD rfl (fun h=>?_) (fun h=>?_)<;>try simp only[BQ] at h)<;>(try (exfalso;omega))) |refine A8 ?_));(refine A7 (by(simp(implicitDefEqProofs:=false) (maxSteps:=2000000) (disch:=omega) only[go_sem,results123,eT,BK,str]);rfl) ?_;refine Ar (by simp only[AG];simp(implicitDefEqProofs:=false) (maxSteps:=2000000) (disch:=omega) only[go_sem,eT,BK,str];rfl) ?_;refine(Al hE (by simp) ?_).s;simp[AG,ren,renL,eT,BK,str])
end Go.AM
namespace Go.AM
open Go Go.RowKit
open Go.Proofs.YtekljlenlbhmcaaGreatDoor (OP AY FY DT Aq An StrsAt str E6 DI digB bt)
attribute [local irreducible] AWP Aw
theorem P9 (G:List (Nat×List Value))(n a b:Int):Con prog G 49 [.r (.int .i64 n),.r (.int .i64 a),.r (.int .i64 b)] [] 0 (Is (.r (.bool (decide (a≤n)&&decide (n≤b)))) [] 0) No:=
 BF (by kernel_rfl) (fun w z vs hz hr hG=>by
  obtain⟨v1,r,rfl,h1,h2⟩:=hr.head;obtain⟨v2,r,rfl,h3,h4⟩:=h2.head;obtain⟨v3,r,rfl,h5,h6⟩:=h4.head;obtain rfl:=h1.r_inv;obtain rfl:=h3.r_inv;obtain rfl:=h5.r_inv;obtain rfl:=h6.of_nil
  exact(Go.Proofs.YtekljlenlbhmcaaGreatDoor.E2 n a b w).mono (fun e w' ⟨he,hw⟩=>by subst hw;exact⟨he,Below.refl _ _⟩))
theorem P8 {n a b:Int}(h:a≤n)(h':n≤b):(decide (a≤n)&&decide (n≤b))=true:=by simp[h,h']
theorem Ul {n a b:Int}(h:n<a∨b<n):(decide (a≤n)&&decide (n≤b))=false:=by simp;omega
set_option maxHeartbeats 8000000 in
theorem Ol (G:List (Nat×List Value))(s:ST)(hk:s.k=1)(hl:s.cols.length≤1048576)(hs: ∀c ∈ s.cols,Gc c.nm):Con prog G 122 [.agg (Bk s)] [] 0 (Is (.r (.int .i64 (Am s.cols))) [] 0) No:=by
 refine AA func122 rfl (by kernel_rfl) (of_decide_eq_true (by kernel_rfl)) ?_;intro E hG hE;subst hG;simp only[B9];have ic:=P9 E.G s.cols.length 1 6
 by_cases h6:s.cols.length<1∨6<s.cols.length
 ·rw[Ul (by omega)] at ic
  (repeat' (first |refine A0 ?_ |refine A5 ?_ |((first |refine rR (fun K kp hK hkp=>?_) |refine cR ic ?_);simp(implicitDefEqProofs:=false) (maxSteps:=2000000) (disch:=omega) only[go_sem,Bk,hk];(repeat' (refine hK _ ?_;clear hK hkp kp K))) |refine A3 rfl ?_ |refine A8 ?_))
  have hM:Am s.cols=1:=by rw[Am,if_pos h6]
  rw[hM];(refine A7 (by(simp(implicitDefEqProofs:=false) (maxSteps:=2000000) (disch:=omega) only[go_sem,results122]);rfl) ?_;refine eN hE ?_;simp[AG,ren,renL])
 rw[P8 (by omega) (by omega)] at ic
 have hM:Am s.cols=Bf [] s.cols:=by rw[Am,if_neg (by omega)]
 rw[hM];(repeat' (first |refine A0 ?_ |refine A5 ?_ |refine A6 ?_ |((first |refine rR (fun K kp hK hkp=>?_) |refine cR ic ?_);simp(implicitDefEqProofs:=false) (maxSteps:=2000000) (disch:=omega) only[go_sem,Bk,hk];(repeat' (refine hK _ ?_;clear hK hkp kp K))) |refine A3 rfl ?_ |refine A4 rfl ?_));refine AH (fun k:Nat=>⟨[(3,.r (.int .i64 k)),(1,.p 0 0 0),(13,.r (.int .i64 1))],[(0,.box 54 (Bk s))],1⟩) (fun k=>k≤s.cols.length∧Bf (s.cols.take k) (s.cols.drop k)=Bf [] s.cols) (fun k=>s.cols.length - k) 0 ?_ ?_ ?_
 ·simp
 ·(refine AE hE [0] rfl ?_ ?_<;>simp[AU,AO,lk,ren,renL,A9,AL,Bk,hk]<;>(try omega))
 intro k ⟨hkl,hno⟩
 by_cases hlt:k<s.cols.length
 ·obtain⟨c,hx⟩: ∃x,s.cols[k]?=some x:=⟨s.cols[k],by simp[hlt]⟩
  rw[GO hx] at hno;have nc:=EJ E.G c.nm (hs c (List.mem_of_getElem? hx))
  by_cases hn:AY c.nm=0
  ·rw[if_neg (by simpa using hn)] at hno
   rw[hn] at nc;have jc:=P9 E.G c.k 1 3
   by_cases hck:c.k<1∨3<c.k
   ·rw[if_pos hck] at hno
    rw[Ul (by omega)] at jc;(repeat' (first |refine A0 ?_ |refine A5 ?_ |refine A6 ?_ |((first |refine rR (fun K kp hK hkp=>?_) |refine cR nc ?_ |refine cR jc ?_);simp(implicitDefEqProofs:=false) (maxSteps:=2000000) (disch:=omega) only[go_sem,Bk,hx,eC];(repeat' (refine hK _ ?_;clear hK hkp kp K))) |refine A3 rfl ?_ |((refine AD rfl (fun h=>?_) (fun h=>?_)<;>try simp only[BQ] at h)<;>(try (exfalso;omega)))))
    have hb0:((2:Int)==0)=false:=by decide
    have hb1:((2:Int) !=0)=true:=by decide
    refine AH (fun _:Unit=>⟨[(5,.r (.int .i64 0)),(4,.r (.int .i64 (2:Int))),(3,.r (.int .i64 k)),(1,.p 0 0 0),(13,.r (.int .i64 1))],[(0,.box 54 (Bk s))],1⟩) (fun _=>True) (fun _=>0) () trivial ?_ ?_
    ·(refine AE hE [0] rfl ?_ ?_<;>simp[AU,AO,lk,ren,renL,A9,AL,Bk]<;>(try omega))
    rintro⟨⟩ _
    by_cases hk0:0<k
    ·have d2:decide ((0:Int)<(k:Int))=true:=decide_eq_true (by omega)
     (repeat' (first |refine A0 ?_ |refine AB ?_ |((refine rR (fun K kp hK hkp=>?_));simp(implicitDefEqProofs:=false) (maxSteps:=2000000) (disch:=omega) only[go_sem,Bk,d2,hb0,hb1];(repeat' (refine hK _ ?_;clear hK hkp kp K))) |refine A3 rfl ?_ |refine A4 rfl ?_ |refine A8 ?_));(refine A7 (by(simp(implicitDefEqProofs:=false) (maxSteps:=2000000) (disch:=omega) only[go_sem,results122,hno]);rfl) ?_;refine eN hE ?_;simp[AG,ren,renL,hno])
    ·have d2:decide ((0:Int)<(k:Int))=false:=decide_eq_false (by omega)
     (repeat' (first |refine A0 ?_ |refine AB ?_ |((refine rR (fun K kp hK hkp=>?_));simp(implicitDefEqProofs:=false) (maxSteps:=2000000) (disch:=omega) only[go_sem,Bk,d2,hb0,hb1];(repeat' (refine hK _ ?_;clear hK hkp kp K))) |refine A3 rfl ?_ |refine A4 rfl ?_ |refine A8 ?_));(refine A7 (by(simp(implicitDefEqProofs:=false) (maxSteps:=2000000) (disch:=omega) only[go_sem,results122,hno]);rfl) ?_;refine eN hE ?_;simp[AG,ren,renL,hno])
   ·rw[if_neg hck] at hno
    rw[P8 (by omega) (by omega)] at jc;(repeat' (first |refine A0 ?_ |refine A5 ?_ |refine A6 ?_ |((first |refine rR (fun K kp hK hkp=>?_) |refine cR nc ?_ |refine cR jc ?_);simp(implicitDefEqProofs:=false) (maxSteps:=2000000) (disch:=omega) only[go_sem,Bk,hx,eC];(repeat' (refine hK _ ?_;clear hK hkp kp K))) |refine A4 rfl ?_ |((refine AD rfl (fun h=>?_) (fun h=>?_)<;>try simp only[BQ] at h)<;>(try (exfalso;omega)))));refine AH (fun q:Nat×Bool=>⟨[(5,.r (.int .i64 q.1)),(4,.r (.int .i64 (if q.2=true then 9 else 0))),(3,.r (.int .i64 k)),(1,.p 0 0 0),(13,.r (.int .i64 1))],[(0,.box 54 (Bk s))],1⟩)
     (fun q=>q.1≤k∧q.2=(s.cols.take q.1).any (Ih c)) (fun q=>k - q.1) (0,false) ?_ ?_ ?_
    ·simp
    ·(refine AE hE [0] rfl ?_ ?_<;>simp[AU,AO,lk,ren,renL,A9,AL,Bk]<;>(try omega))
    rintro⟨j,f⟩ ⟨hj,hf⟩;simp only at hj hf ⊢;cases f
    ·by_cases hjk:j<k
     ·obtain⟨x,hxj⟩: ∃x,s.cols[j]?=some x:=⟨s.cols[j]'(by omega),by simp⟩
      have d2:decide ((j:Int)<(k:Int))=true:=decide_eq_true (by omega)
      have ha:(s.cols.take (j+1)).any (Ih c)=Ih c x:=by rw[List.take_add_one,hxj,List.any_append,←hf];simp
      cases hsm:(x.nm.toList==c.nm.toList)
      ·(repeat' (first |refine A0 ?_ |refine A5 ?_ |refine A6 ?_ |((first |refine rR (fun K kp hK hkp=>?_) |refine rD (id:=14) mixed 13 [0,1,2,3,4,5,6,7,8,9,10,11,12] (fun K kp hK hkp=>?_));simp(implicitDefEqProofs:=false) (maxSteps:=2000000) (disch:=omega) only[go_sem,Bk,hx,hxj,eC,d2,hsm];(repeat' (refine hK _ ?_;clear hK hkp kp K))) |refine A3 rfl ?_ |refine A4 rfl ?_))
       ((refine AJ ((j+1,false)) ?_ ?_ ?_);rotate_left;(·(try dsimp only);(omega));(·(refine AE hE [0] rfl ?_ ?_<;>simp[AU,AO,lk,ren,renL,A9,AL,Bk]<;>(try omega))))
       exact⟨by omega,by rw[ha];exact hsm.symm⟩
      ·(repeat' (first |refine A0 ?_ |refine A5 ?_ |refine A6 ?_ |((first |refine rR (fun K kp hK hkp=>?_) |refine rD (id:=14) mixed 13 [0,1,2,3,4,5,6,7,8,9,10,11,12] (fun K kp hK hkp=>?_));simp(implicitDefEqProofs:=false) (maxSteps:=2000000) (disch:=omega) only[go_sem,Bk,hx,hxj,eC,d2,hsm];(repeat' (refine hK _ ?_;clear hK hkp kp K))) |refine A3 rfl ?_))
       ((refine AJ ((j+1,true)) ?_ ?_ ?_);rotate_left;(·(try dsimp only);(omega));(·(refine AE hE [0] rfl ?_ ?_<;>simp[AU,AO,lk,ren,renL,A9,AL,Bk]<;>(try omega))))
       exact⟨by omega,by rw[ha];exact hsm.symm⟩
     ·obtain rfl:j=k:=by omega
      have d2:decide ((j:Int)<(j:Int))=false:=decide_eq_false (by omega);(repeat' (first |refine A0 ?_ |refine A6 ?_ |refine AB ?_ |((refine rR (fun K kp hK hkp=>?_));simp(implicitDefEqProofs:=false) (maxSteps:=2000000) (disch:=omega) only[go_sem,Bk,d2];(repeat' (refine hK _ ?_;clear hK hkp kp K))) |refine A4 rfl ?_))
      ((refine AJ (j+1) ?_ ?_ ?_);rotate_left;(·(try dsimp only);(omega));(·(refine AE hE [0] rfl ?_ ?_<;>simp[AU,AO,lk,ren,renL,A9,AL,Bk]<;>(try omega))))
      exact⟨by omega,by rw[←hno,←hf];rfl⟩
    ·have hno9:9=Bf [] s.cols:=by
      rw[←hno,if_pos]
      have h1:s.cols.take j=(s.cols.take k).take j:=by rw[List.take_take,Nat.min_eq_left hj]
      rw[h1] at hf;obtain⟨y,hy,hp⟩:=List.any_eq_true.1 hf.symm;exact List.any_eq_true.2 ⟨y,List.mem_of_mem_take hy,hp⟩
     by_cases hjk:j<k
     ·have d2:decide ((j:Int)<(k:Int))=true:=decide_eq_true (by omega)
      (repeat' (first |refine A0 ?_ |refine AB ?_ |((refine rR (fun K kp hK hkp=>?_));simp(implicitDefEqProofs:=false) (maxSteps:=2000000) (disch:=omega) only[go_sem,Bk,d2];(repeat' (refine hK _ ?_;clear hK hkp kp K))) |refine A3 rfl ?_ |refine A4 rfl ?_ |refine A8 ?_));(refine A7 (by(simp(implicitDefEqProofs:=false) (maxSteps:=2000000) (disch:=omega) only[go_sem,results122,←hno9]);rfl) ?_;refine eN hE ?_;simp[AG,ren,renL,←hno9])
     ·have d2:decide ((j:Int)<(k:Int))=false:=decide_eq_false (by omega)
      (repeat' (first |refine A0 ?_ |refine AB ?_ |((refine rR (fun K kp hK hkp=>?_));simp(implicitDefEqProofs:=false) (maxSteps:=2000000) (disch:=omega) only[go_sem,Bk,d2];(repeat' (refine hK _ ?_;clear hK hkp kp K))) |refine A3 rfl ?_ |refine A4 rfl ?_ |refine A8 ?_));(refine A7 (by(simp(implicitDefEqProofs:=false) (maxSteps:=2000000) (disch:=omega) only[go_sem,results122,←hno9]);rfl) ?_;refine eN hE ?_;simp[AG,ren,renL,←hno9])
  ·rw[if_pos hn] at hno
   have b1:(AY c.nm==0)=false:=by simpa using hn
   (repeat' (first |refine A0 ?_ |refine A5 ?_ |refine A6 ?_ |((first |refine rR (fun K kp hK hkp=>?_) |refine cR nc ?_);simp(implicitDefEqProofs:=false) (maxSteps:=2000000) (disch:=omega) only[go_sem,Bk,hx,eC,b1];(repeat' (refine hK _ ?_;clear hK hkp kp K))) |refine A4 rfl ?_ |((refine AD rfl (fun h=>?_) (fun h=>?_)<;>try simp only[BQ] at h)<;>(try (exfalso;omega)))))
   have hb0:(AY c.nm==0)=false:=by simpa using hn
   have hb1:(AY c.nm !=0)=true:=by simpa using hn
   refine AH (fun _:Unit=>⟨[(5,.r (.int .i64 0)),(4,.r (.int .i64 (AY c.nm))),(3,.r (.int .i64 k)),(1,.p 0 0 0),(13,.r (.int .i64 1))],[(0,.box 54 (Bk s))],1⟩) (fun _=>True) (fun _=>0) () trivial ?_ ?_
   ·(refine AE hE [0] rfl ?_ ?_<;>simp[AU,AO,lk,ren,renL,A9,AL,Bk]<;>(try omega))
   rintro⟨⟩ _
   by_cases hk0:0<k
   ·have d2:decide ((0:Int)<(k:Int))=true:=decide_eq_true (by omega)
    (repeat' (first |refine A0 ?_ |refine AB ?_ |((refine rR (fun K kp hK hkp=>?_));simp(implicitDefEqProofs:=false) (maxSteps:=2000000) (disch:=omega) only[go_sem,Bk,d2,hb0,hb1];(repeat' (refine hK _ ?_;clear hK hkp kp K))) |refine A3 rfl ?_ |refine A4 rfl ?_ |refine A8 ?_));(refine A7 (by(simp(implicitDefEqProofs:=false) (maxSteps:=2000000) (disch:=omega) only[go_sem,results122,hno]);rfl) ?_;refine eN hE ?_;simp[AG,ren,renL,hno])
   ·have d2:decide ((0:Int)<(k:Int))=false:=decide_eq_false (by omega)
    (repeat' (first |refine A0 ?_ |refine AB ?_ |((refine rR (fun K kp hK hkp=>?_));simp(implicitDefEqProofs:=false) (maxSteps:=2000000) (disch:=omega) only[go_sem,Bk,d2,hb0,hb1];(repeat' (refine hK _ ?_;clear hK hkp kp K))) |refine A3 rfl ?_ |refine A4 rfl ?_ |refine A8 ?_));(refine A7 (by(simp(implicitDefEqProofs:=false) (maxSteps:=2000000) (disch:=omega) only[go_sem,results122,hno]);rfl) ?_;refine eN hE ?_;simp[AG,ren,renL,hno])
 ·have d1:decide ((k:Int)<(s.cols.length:Int))=false:=decide_eq_false (by omega)
  (repeat' (first |refine A0 ?_ |refine AB ?_ |((refine rR (fun K kp hK hkp=>?_));simp(implicitDefEqProofs:=false) (maxSteps:=2000000) (disch:=omega) only[go_sem,Bk,d1];(repeat' (refine hK _ ?_;clear hK hkp kp K))) |refine A4 rfl ?_ |refine A8 ?_));(refine A7 (by(simp(implicitDefEqProofs:=false) (maxSteps:=2000000) (disch:=omega) only[go_sem,results122]);rfl) ?_;refine eN hE ?_;simp[AG,ren,renL]);rw[←hno,List.drop_of_length_le (by omega)];rfl
end Go.AM
namespace Go.AM
open Go Go.RowKit
open Go.Proofs.YtekljlenlbhmcaaGreatDoor (OP AY FY DT Aq An StrsAt str E6 DI digB bt EH FF E3 DP)
theorem HU {s:ByteArray}(h:AY s=0):goodN s:=by
 obtain⟨l,rfl⟩: ∃l,s=str l:=⟨_,Go.Proofs.YtekljlenlbhmcaaGreatDoor.Gk s⟩;have hsz:(str l).size=l.length:=BB l;unfold AY at h;split at h
 ·cases h
 rename_i h8;split at h
 ·cases h
 rename_i h1
 have h2:FF (str l)=true:=by
  cases hw:FF (str l) with
  |true=>rfl
  |false=>exact(h1 (.inl (by simp[EH,hw]))).elim
 simp only[FF,Bool.and_eq_true,decide_eq_true_eq] at h2;obtain⟨⟨g1,g2⟩,g3⟩:=h2;have hall:=((Go.Proofs.YtekljlenlbhmcaaGreatDoor.Hz DI (str l) (str l).size 0 (by omega) (by omega)).1.1 g3);refine⟨by rw[Go.Proofs.YtekljlenlbhmcaaGreatDoor.C4];omega,?_,?_⟩
 ·rw[Go.Proofs.YtekljlenlbhmcaaGreatDoor.C4]
  match l,g2 with
  | [],g2=>rw[BB] at g1;simp at g1
  |c::r,g2=>
   rw[Go.Proofs.YtekljlenlbhmcaaGreatDoor.Kw] at g2;exact⟨c,r,rfl,by simpa using g2⟩
 ·rw[Go.Proofs.YtekljlenlbhmcaaGreatDoor.C4]
  rintro c hc rfl;obtain⟨j,hj⟩:=List.mem_iff_getElem?.1 hc;have hjl:=(List.getElem?_eq_some_iff.1 hj).1;have:=hall j (by omega) (by omega);rw[Go.Proofs.YtekljlenlbhmcaaGreatDoor.Kw,hj] at this;simp[DI,E6,digB] at this
theorem J4: ∀(l p:List CO),Bf p l=0→ ∀c ∈ l,Q4 c∧goodN c.nm
 | [],_,_=>by simp
 |c::r,p,h=>by
  unfold Bf at h;split at h
  ·rename_i hn;exact absurd h hn
  rename_i hn;split at h
  ·cases h
  rename_i hk;split at h
  ·cases h
  intro x hx
  rcases List.mem_cons.1 hx with rfl |hx
  ·exact⟨⟨by omega,by omega⟩,HU (by simpa using hn)⟩
  ·exact J4 r _ h x hx
theorem O6 {l:List CO}(h:Am l=0):1≤l.length∧l.length≤6∧ ∀c ∈ l,Q4 c∧goodN c.nm:=by
 unfold Am at h;split at h
 ·cases h
 ·exact⟨by omega,by omega,J4 l [] h⟩
theorem Kq: ∀(l:List CO),(CY (l.map BJ)).length≤3 * l.length
 | []=>by simp[CY]
 | [a]=>by simp[CY,BJ]
 |a::b::r=>by
  have:=Kq (b::r);simp only[List.map_cons] at this ⊢;rw[G2];simp[BJ] at this ⊢;omega
def s0 (l:List CO):ST:=⟨1,str [116],l,[],[],false,[],str [],false,-1,str [],[]⟩
theorem Ou:AY (str [116])=0:=by
 have h1:EH 1 (str [116]) 0=0:=by
  have:FF (str [116])=true:=by decide+kernel
  simp[EH,this]
 have h2:E3 An (str [116])=false:=by
  simp only[E3,An,Go.Proofs.YtekljlenlbhmcaaGreatDoor.Hu,List.map_cons,List.map_nil,List.any_cons,List.any_nil,Go.Proofs.YtekljlenlbhmcaaGreatDoor.C4]
  decide+kernel
 rw[AY,if_neg (by rw[BB];simp),if_neg (by rw[h1,h2];simp)]
theorem Kp {l:List CO}(h:l.length≤6):(Cs (s0 l)).length≤100:=by
 have:=Kq l;simp[Cs,s0,KK];omega
end Go.AM
namespace Go.AM
open Go Go.RowKit
open Go.Proofs.YtekljlenlbhmcaaGreatDoor (OP AY FY DT Aq An StrsAt str)
attribute [local irreducible] AWP Aw
def XB (o:OP):Prop:=Gc o.vs∧Gc o.nm
def B_ (s h:ST):Bool:=(s.tab.toList==h.tab.toList)&&((s.cols.length:Int)==(h.cols.length:Int))&&((s.row.length:Int)==(h.row.length:Int))&&((s.names.length:Int)==(h.names.length:Int))&&(s.count==h.count)&&((s.wh.length:Int)==(h.wh.length:Int))&&(s.ord.toList==h.ord.toList)&&(s.down==h.down)&&(s.lim==h.lim)&&(s.set.toList==h.set.toList)&&((s.to.length:Int)==(h.to.length:Int))
set_option maxHeartbeats 8000000 in
theorem T6 (G:List (Nat×List Value))(s h:ST):Con prog G 164 [.agg (Bk s),.agg (Bk h)] [] 0 (Is (.r (.bool (B_ s h))) [] 0) No:=by
 refine AA func164 rfl (by kernel_rfl) (of_decide_eq_true (by kernel_rfl)) ?_;intro E hG hE;subst hG;simp only[B9];cases c0:(s.tab.toList==h.tab.toList)
 ·(repeat' (first |refine A0 ?_ |((refine rR (fun K kp hK hkp=>?_));simp(implicitDefEqProofs:=false) (maxSteps:=2000000) (disch:=omega) only[go_sem,Bk,c0];(repeat' (refine hK _ ?_;clear hK hkp kp K))) |refine A8 ?_))
  (refine A7 (by(simp(implicitDefEqProofs:=false) (maxSteps:=2000000) (disch:=omega) only[go_sem,results164,B_,c0]);rfl) ?_;refine eN hE ?_;simp[AG,ren,renL,B_,c0])
 cases c1:((s.cols.length:Int)==(h.cols.length:Int))
 ·(repeat' (first |refine A0 ?_ |((refine rR (fun K kp hK hkp=>?_));simp(implicitDefEqProofs:=false) (maxSteps:=2000000) (disch:=omega) only[go_sem,Bk,c0,c1];(repeat' (refine hK _ ?_;clear hK hkp kp K))) |refine A8 ?_))
  (refine A7 (by(simp(implicitDefEqProofs:=false) (maxSteps:=2000000) (disch:=omega) only[go_sem,results164,B_,c0,c1]);rfl) ?_;refine eN hE ?_;simp[AG,ren,renL,B_,c0,c1])
 cases c2:((s.row.length:Int)==(h.row.length:Int))
 ·(repeat' (first |refine A0 ?_ |((refine rR (fun K kp hK hkp=>?_));simp(implicitDefEqProofs:=false) (maxSteps:=2000000) (disch:=omega) only[go_sem,Bk,c0,c1,c2];(repeat' (refine hK _ ?_;clear hK hkp kp K))) |refine A8 ?_))
  (refine A7 (by(simp(implicitDefEqProofs:=false) (maxSteps:=2000000) (disch:=omega) only[go_sem,results164,B_,c0,c1,c2]);rfl) ?_;refine eN hE ?_;simp[AG,ren,renL,B_,c0,c1,c2])
 cases c3:((s.names.length:Int)==(h.names.length:Int))
 ·(repeat' (first |refine A0 ?_ |((refine rR (fun K kp hK hkp=>?_));simp(implicitDefEqProofs:=false) (maxSteps:=2000000) (disch:=omega) only[go_sem,Bk,c0,c1,c2,c3];(repeat' (refine hK _ ?_;clear hK hkp kp K))) |refine A8 ?_))
  (refine A7 (by(simp(implicitDefEqProofs:=false) (maxSteps:=2000000) (disch:=omega) only[go_sem,results164,B_,c0,c1,c2,c3]);rfl) ?_;refine eN hE ?_;simp[AG,ren,renL,B_,c0,c1,c2,c3])
 cases c4:(s.count==h.count)
 ·(repeat' (first |refine A0 ?_ |((refine rR (fun K kp hK hkp=>?_));simp(implicitDefEqProofs:=false) (maxSteps:=2000000) (disch:=omega) only[go_sem,Bk,c0,c1,c2,c3,c4];(repeat' (refine hK _ ?_;clear hK hkp kp K))) |refine A8 ?_))
  (refine A7 (by(simp(implicitDefEqProofs:=false) (maxSteps:=2000000) (disch:=omega) only[go_sem,results164,B_,c0,c1,c2,c3,c4]);rfl) ?_;refine eN hE ?_;simp[AG,ren,renL,B_,c0,c1,c2,c3,c4])
 cases c5:((s.wh.length:Int)==(h.wh.length:Int))
 ·(repeat' (first |refine A0 ?_ |((refine rR (fun K kp hK hkp=>?_));simp(implicitDefEqProofs:=false) (maxSteps:=2000000) (disch:=omega) only[go_sem,Bk,c0,c1,c2,c3,c4,c5];(repeat' (refine hK _ ?_;clear hK hkp kp K))) |refine A8 ?_))
  (refine A7 (by(simp(implicitDefEqProofs:=false) (maxSteps:=2000000) (disch:=omega) only[go_sem,results164,B_,c0,c1,c2,c3,c4,c5]);rfl) ?_;refine eN hE ?_;simp[AG,ren,renL,B_,c0,c1,c2,c3,c4,c5])
 cases c6:(s.ord.toList==h.ord.toList)
 ·(repeat' (first |refine A0 ?_ |((refine rR (fun K kp hK hkp=>?_));simp(implicitDefEqProofs:=false) (maxSteps:=2000000) (disch:=omega) only[go_sem,Bk,c0,c1,c2,c3,c4,c5,c6];(repeat' (refine hK _ ?_;clear hK hkp kp K))) |refine A8 ?_))
  (refine A7 (by(simp(implicitDefEqProofs:=false) (maxSteps:=2000000) (disch:=omega) only[go_sem,results164,B_,c0,c1,c2,c3,c4,c5,c6]);rfl) ?_;refine eN hE ?_;simp[AG,ren,renL,B_,c0,c1,c2,c3,c4,c5,c6])
 cases c7:(s.down==h.down)
 ·(repeat' (first |refine A0 ?_ |((refine rR (fun K kp hK hkp=>?_));simp(implicitDefEqProofs:=false) (maxSteps:=2000000) (disch:=omega) only[go_sem,Bk,c0,c1,c2,c3,c4,c5,c6,c7];(repeat' (refine hK _ ?_;clear hK hkp kp K))) |refine A8 ?_))
  (refine A7 (by(simp(implicitDefEqProofs:=false) (maxSteps:=2000000) (disch:=omega) only[go_sem,results164,B_,c0,c1,c2,c3,c4,c5,c6,c7]);rfl) ?_;refine eN hE ?_;simp[AG,ren,renL,B_,c0,c1,c2,c3,c4,c5,c6,c7])
 cases c8:(s.lim==h.lim)
 ·(repeat' (first |refine A0 ?_ |((refine rR (fun K kp hK hkp=>?_));simp(implicitDefEqProofs:=false) (maxSteps:=2000000) (disch:=omega) only[go_sem,Bk,c0,c1,c2,c3,c4,c5,c6,c7,c8];(repeat' (refine hK _ ?_;clear hK hkp kp K))) |refine A8 ?_))
  (refine A7 (by(simp(implicitDefEqProofs:=false) (maxSteps:=2000000) (disch:=omega) only[go_sem,results164,B_,c0,c1,c2,c3,c4,c5,c6,c7,c8]);rfl) ?_;refine eN hE ?_;simp[AG,ren,renL,B_,c0,c1,c2,c3,c4,c5,c6,c7,c8])
 cases c9:(s.set.toList==h.set.toList)
 ·(repeat' (first |refine A0 ?_ |((refine rR (fun K kp hK hkp=>?_));simp(implicitDefEqProofs:=false) (maxSteps:=2000000) (disch:=omega) only[go_sem,Bk,c0,c1,c2,c3,c4,c5,c6,c7,c8,c9];(repeat' (refine hK _ ?_;clear hK hkp kp K))) |refine A8 ?_))
  (refine A7 (by(simp(implicitDefEqProofs:=false) (maxSteps:=2000000) (disch:=omega) only[go_sem,results164,B_,c0,c1,c2,c3,c4,c5,c6,c7,c8,c9]);rfl) ?_;refine eN hE ?_;simp[AG,ren,renL,B_,c0,c1,c2,c3,c4,c5,c6,c7,c8,c9])
 cases c10:((s.to.length:Int)==(h.to.length:Int))
 ·(repeat' (first |refine A0 ?_ |((refine rR (fun K kp hK hkp=>?_));simp(implicitDefEqProofs:=false) (maxSteps:=2000000) (disch:=omega) only[go_sem,Bk,c0,c1,c2,c3,c4,c5,c6,c7,c8,c9,c10];(repeat' (refine hK _ ?_;clear hK hkp kp K))) |refine A8 ?_))
  (refine A7 (by(simp(implicitDefEqProofs:=false) (maxSteps:=2000000) (disch:=omega) only[go_sem,results164,B_,c0,c1,c2,c3,c4,c5,c6,c7,c8,c9,c10]);rfl) ?_;refine eN hE ?_;simp[AG,ren,renL,B_,c0,c1,c2,c3,c4,c5,c6,c7,c8,c9,c10])
 (repeat' (first |refine A0 ?_ |((refine rR (fun K kp hK hkp=>?_));simp(implicitDefEqProofs:=false) (maxSteps:=2000000) (disch:=omega) only[go_sem,Bk,c0,c1,c2,c3,c4,c5,c6,c7,c8,c9,c10];(repeat' (refine hK _ ?_;clear hK hkp kp K))) |refine A8 ?_));(refine A7 (by(simp(implicitDefEqProofs:=false) (maxSteps:=2000000) (disch:=omega) only[go_sem,results164,B_,c0,c1,c2,c3,c4,c5,c6,c7,c8,c9,c10]);rfl) ?_;refine eN hE ?_;simp[AG,ren,renL,B_,c0,c1,c2,c3,c4,c5,c6,c7,c8,c9,c10])
end Go.AM
namespace Go.AM
open Go Go.RowKit
open Go.Proofs.YtekljlenlbhmcaaGreatDoor (OP AY FY DT Aq An StrsAt str)
attribute [local irreducible] AWP Aw
def ZX (s:ByteArray):Bool:=s.toList==ByteArray.toList ⟨#[]⟩
def Yt (s:ST):Bool:=decide ((s.names.length:Int)>0)
def X6 (s:ST):Int:=
 if 6<s.names.length then 1 else if s.lim< -1 then 3 else if (s.count&&Yt s)||(s.down&&ZX s.ord) then 6
 else if Ot s.names≠0 then Ot s.names else if MC s.wh≠0 then MC s.wh else if ZX s.ord then 0 else AY s.ord
structure okST (s:ST):Prop where
 tab:Gc s.tab
 cols: ∀c ∈ s.cols,Gc c.nm
 row: ∀v ∈ s.row,Gc v.s
 names: ∀n ∈ s.names,Gc n
 wh: ∀o ∈ s.wh,XB o
 ord:Gc s.ord
 set:Gc s.set
 to: ∀o ∈ s.to,XB o
 lc:s.cols.length≤1048576
 lr:s.row.length≤1048576
 ln:s.names.length≤1048576
 lw:s.wh.length≤1048576
 lt:s.to.length≤1048576
end Go.AM
namespace Go.AM
open Go Go.RowKit
open Go.Proofs.YtekljlenlbhmcaaGreatDoor (OP AY FY DT Aq An StrsAt str)
attribute [local irreducible] AWP Aw
def DK (s:ST):Int:=
 if s.k=1 then Am s.cols else if s.k=3 then Yh s.row else if s.k=4 then X6 s
 else if s.k=5 then (if AY s.set≠0 then AY s.set else if DT s.to≠0 then DT s.to else MC s.wh)
 else if s.k=6 then MC s.wh else 0
def b0:ByteArray:=⟨#[]⟩
def Ni (s:ST):ST:=
 if s.k=1 then ⟨s.k,s.tab,s.cols,[],[],false,[],b0,false,-1,b0,[]⟩
 else if s.k=2 then ⟨s.k,s.tab,[],[],[],false,[],b0,false,-1,b0,[]⟩
 else if s.k=3 then ⟨s.k,s.tab,[],s.row,[],false,[],b0,false,-1,b0,[]⟩
 else if s.k=4 then ⟨s.k,s.tab,[],[],s.names,s.count,s.wh,s.ord,s.down,s.lim,b0,[]⟩
 else if s.k=5 then ⟨s.k,s.tab,[],[],[],false,s.wh,b0,false,-1,s.set,s.to⟩
 else if s.k=6 then ⟨s.k,s.tab,[],[],[],false,s.wh,b0,false,-1,b0,[]⟩
 else ⟨s.k,b0,[],[],[],false,[],b0,false,-1,b0,[]⟩
def EN (s:ST):Int:=if s.k<7∧AY s.tab≠0 then AY s.tab else if DK s≠0 then DK s else if B_ s (Ni s)=true then 0 else 6
theorem J6 {s:ST}(h:s.k<7)(hn:AY s.tab≠0):EN s=AY s.tab:=by rw[EN,if_pos ⟨h,hn⟩]
theorem FA {s:ST}(h: ¬(s.k<7∧AY s.tab≠0))(hn:DK s≠0):EN s=DK s:=by rw[EN,if_neg h,if_pos hn]
theorem IT {s:ST}(h: ¬(s.k<7∧AY s.tab≠0))(hn:DK s=0)(hb:B_ s (Ni s)=true):EN s=0:=by rw[EN,if_neg h,if_neg (by simp[hn]),if_pos hb]
theorem J7 {s:ST}(h: ¬(s.k<7∧AY s.tab≠0))(hn:DK s=0)(hb:B_ s (Ni s)=false):EN s=6:=by rw[EN,if_neg h,if_neg (by simp[hn]),if_neg (by simp[hb])]
set_option maxHeartbeats 8000000 in
theorem PW {G:List (Nat×List Value)}(T:Tabs G)(s:ST)(o:okST s)(hk:s.k=1):Con prog G 112 [.agg (Bk s)] [] 0 (Is (.r (.int .i64 (EN s))) [] 0) No:=by
 refine AA func112 rfl (by kernel_rfl) (of_decide_eq_true (by kernel_rfl)) ?_;intro E hG hE;subst hG;simp only[B9];have tc:=HH T s.tab o.tab
 by_cases hn:AY s.tab=0
 ·rw[hn] at tc
  have hh: ¬(s.k<7∧AY s.tab≠0):=fun h=>h.2 hn;have p0:=Ss T true s.cols o.lc o.cols
  by_cases z0:Am s.cols=0
  ·rw[z0] at p0
   have hp:DK s=0:=by simp[DK,hk,z0]
   have hS:Ni s=⟨1,s.tab,s.cols,[],[],false,[],b0,false,-1,b0,[]⟩:=by simp[Ni,hk]
   have bc:=T6 E.G s (Ni s);cases hb:B_ s (Ni s)
   ·rw[hb,hS] at bc
    simp only[Bk,hk,List.map_nil] at bc;have bc:=bc.weak (xs:=[.agg [.r (.int .i64 1),.r (.string s.tab),.ro true 2 (s.cols.map eC),.ro true 3 (s.row.map eV),.ro true 1 (s.names.map O1),.r (.bool s.count),.ro true 5 (s.wh.map eO),.r (.string s.ord),.r (.bool s.down),.r (.int .i64 s.lim),.r (.string s.set),.ro true 5 (s.to.map eO)],.agg [.r (.int .i64 1),.r (.string s.tab),.ro true 2 (s.cols.map eC),.r (.slice none 0 0),.r (.slice none 0 0),.r (.bool false),.r (.slice none 0 0),.r (.string b0),.r (.bool false),.r (.int .i64 (-1)),.r (.string b0),.r (.slice none 0 0)]]) (by simp[LF,wk]);(repeat' (first |refine A0 ?_ |refine A5 ?_ |refine A6 ?_ |((first |refine rR (fun K kp hK hkp=>?_) |refine cR tc ?_ |refine cR p0 ?_ |refine cR bc ?_);simp(implicitDefEqProofs:=false) (maxSteps:=2000000) (disch:=omega) only[go_sem,Bk,hk];(repeat' (refine hK _ ?_;clear hK hkp kp K))) |refine A3 rfl ?_ |refine A4 rfl ?_ |refine A8 ?_));(refine A7 (by(simp(implicitDefEqProofs:=false) (maxSteps:=2000000) (disch:=omega) only[go_sem,results112,J7 hh hp hb]);rfl) ?_;refine eN hE ?_;simp[AG,ren,renL,J7 hh hp hb])
   ·rw[hb,hS] at bc
    simp only[Bk,hk,List.map_nil] at bc;have bc:=bc.weak (xs:=[.agg [.r (.int .i64 1),.r (.string s.tab),.ro true 2 (s.cols.map eC),.ro true 3 (s.row.map eV),.ro true 1 (s.names.map O1),.r (.bool s.count),.ro true 5 (s.wh.map eO),.r (.string s.ord),.r (.bool s.down),.r (.int .i64 s.lim),.r (.string s.set),.ro true 5 (s.to.map eO)],.agg [.r (.int .i64 1),.r (.string s.tab),.ro true 2 (s.cols.map eC),.r (.slice none 0 0),.r (.slice none 0 0),.r (.bool false),.r (.slice none 0 0),.r (.string b0),.r (.bool false),.r (.int .i64 (-1)),.r (.string b0),.r (.slice none 0 0)]]) (by simp[LF,wk]);(repeat' (first |refine A0 ?_ |refine A5 ?_ |refine A6 ?_ |((first |refine rR (fun K kp hK hkp=>?_) |refine cR tc ?_ |refine cR p0 ?_ |refine cR bc ?_);simp(implicitDefEqProofs:=false) (maxSteps:=2000000) (disch:=omega) only[go_sem,Bk,hk];(repeat' (refine hK _ ?_;clear hK hkp kp K))) |refine A3 rfl ?_ |refine A4 rfl ?_ |refine A8 ?_));(refine A7 (by(simp(implicitDefEqProofs:=false) (maxSteps:=2000000) (disch:=omega) only[go_sem,results112,IT hh hp hb]);rfl) ?_;refine eN hE ?_;simp[AG,ren,renL,IT hh hp hb])
  ·have y0:(Am s.cols==0)=false:=by simpa using z0
   have hp:DK s=Am s.cols:=by simp[DK,hk,z0]
   (repeat' (first |refine A0 ?_ |refine A5 ?_ |refine A6 ?_ |((first |refine rR (fun K kp hK hkp=>?_) |refine cR tc ?_ |refine cR p0 ?_);simp(implicitDefEqProofs:=false) (maxSteps:=2000000) (disch:=omega) only[go_sem,Bk,hk,y0];(repeat' (refine hK _ ?_;clear hK hkp kp K))) |refine A3 rfl ?_ |refine A4 rfl ?_ |refine A8 ?_));(refine A7 (by(simp(implicitDefEqProofs:=false) (maxSteps:=2000000) (disch:=omega) only[go_sem,results112,FA hh (hp▸z0),hp]);rfl) ?_;refine eN hE ?_;simp[AG,ren,renL,FA hh (hp▸z0),hp])
 ·have bn:(AY s.tab !=0)=true:=by simpa using hn
  (repeat' (first |refine A0 ?_ |((first |refine rR (fun K kp hK hkp=>?_) |refine cR tc ?_);simp(implicitDefEqProofs:=false) (maxSteps:=2000000) (disch:=omega) only[go_sem,Bk,hk,bn];(repeat' (refine hK _ ?_;clear hK hkp kp K))) |refine A3 rfl ?_ |refine A8 ?_));(refine A7 (by(simp(implicitDefEqProofs:=false) (maxSteps:=2000000) (disch:=omega) only[go_sem,results112,J6 (show s.k<7 by omega) hn]);rfl) ?_;refine eN hE ?_;simp[AG,ren,renL,J6 (show s.k<7 by omega) hn])
end Go.AM
namespace Go.AM
open Go Go.RowKit
open Go.Proofs.YtekljlenlbhmcaaGreatDoor (OP AY FY DT Aq An StrsAt str E6 DI digB bt)
attribute [local irreducible] AWP Aw
theorem X9 {l:List CO}(hl:l.length≤1048576)(hs: ∀c ∈ l,Gc c.nm):okST (s0 l):=by
 have h0:Gc (str []):=by rw[Gc,BB];simp
 exact⟨by rw[Gc,s0,BB];simp[Go.maxLen],hs,by simp[s0],by simp[s0],by simp[s0],h0,h0,by simp[s0],hl,by simp[s0],by simp[s0],by simp[s0],by simp[s0]⟩
theorem Su (l:List CO):EN (s0 l)=Am l:=by
 have hh: ¬((s0 l).k<7∧AY (s0 l).tab≠0):=fun h=>h.2 Ou
 have hp:DK (s0 l)=Am l:=by rw[DK,if_pos (show(s0 l).k=1 from rfl)];rfl
 by_cases hc:Am l=0
 ·rw[IT hh (hp.trans hc) (by simp[B_,Ni,s0,b0,str]),hc]
 ·rw[FA hh (by rw[hp];exact hc),hp]
set_option maxHeartbeats 8000000 in
theorem JH {G:List (Nat×List Value)}(T:Tabs G)(l:List CO)(hl:l.length≤1048576)(hs: ∀c ∈ l,Gc c.nm):Con prog G 55 [.agg (Bk (s0 l))] [] 0 (Is (.r (.int .i64 (Am l))) [] 0) No:=by
 refine AA func55 rfl (by kernel_rfl) (of_decide_eq_true (by kernel_rfl)) ?_;intro E hG hE;subst hG;simp only[B9];have cc:=PW T (s0 l) (X9 hl hs) rfl;rw[Su] at cc;simp only[Bk,s0,List.map_nil] at cc
 by_cases hc:Am l=0
 ·rw[hc] at cc ⊢
  obtain⟨c1,c6,cg⟩:=O6 hc;have sc:=QV T (s0 l) rfl c6 (fun c h=>(cg c h).1);have hlen:=Kp c6;generalize Cs (s0 l)=ct at sc hlen;simp only[Bk,s0,List.map_nil] at sc;have d1:decide ((ct.length:Int)>100)=false:=decide_eq_false (by omega);(repeat' (first |refine A0 ?_ |refine A6 ?_ |((first |refine rR (fun K kp hK hkp=>?_) |refine cR cc ?_ |refine cR sc ?_);simp(implicitDefEqProofs:=false) (maxSteps:=2000000) (disch:=omega) only[go_sem,Bk,s0,d1];(repeat' (refine hK _ ?_;clear hK hkp kp K))) |refine A4 rfl ?_ |refine A8 ?_));(refine A7 (by(simp(implicitDefEqProofs:=false) (maxSteps:=2000000) (disch:=omega) only[go_sem,results55]);rfl) ?_;refine eN hE ?_;simp[AG,ren,renL])
 ·have b1:(Am l !=0)=true:=by simpa using hc
  (repeat' (first |refine A0 ?_ |refine A6 ?_ |((first |refine rR (fun K kp hK hkp=>?_) |refine cR cc ?_);simp(implicitDefEqProofs:=false) (maxSteps:=2000000) (disch:=omega) only[go_sem,Bk,s0,b1];(repeat' (refine hK _ ?_;clear hK hkp kp K))) |refine A3 rfl ?_ |refine A4 rfl ?_ |refine A8 ?_));(refine A7 (by(simp(implicitDefEqProofs:=false) (maxSteps:=2000000) (disch:=omega) only[go_sem,results55]);rfl) ?_;refine eN hE ?_;simp[AG,ren,renL])
set_option maxHeartbeats 8000000 in
theorem PJ (G:List (Nat×List Value))(l:List CO)(hl:l.length≤1048576)(hs: ∀c ∈ l,Gc c.nm):Con prog G 70 [.agg (Bk (s0 l))] [] 0 (Is (.r (.int .i64 (Am l))) [] 0) No:=by
 refine AA func70 rfl (by kernel_rfl) (of_decide_eq_true (by kernel_rfl)) ?_;intro E hG hE;subst hG;simp only[B9];have ic:=P9 E.G 1 1 9;rw[P8 (by omega) (by omega)] at ic;have nc:=EJ E.G (str [116]) (by rw[Gc,BB];simp[Go.maxLen]);rw[Ou] at nc;have pc:=Ol E.G (s0 l) rfl hl hs;simp only[Bk,s0,List.map_nil] at pc
 by_cases hc:Am l=0
 ·rw[hc] at pc ⊢
  obtain⟨c1,c6,cg⟩:=O6 hc;have tc:=NC E.G (s0 l) rfl c6 cg (HU Ou);have hlen:=Kp c6;generalize Cs (s0 l)=ct at tc hlen;simp only[Bk,s0,List.map_nil] at tc;have d1:decide ((ct.length:Int)>100)=false:=decide_eq_false (by omega)
  have e0:((str []).toList==ByteArray.toList ⟨#[]⟩)=true:=by simp[str]
  (repeat' (first |refine A0 ?_ |refine A6 ?_ |((first |refine rR (fun K kp hK hkp=>?_) |refine cR ic ?_ |refine cR nc ?_ |refine cR pc ?_ |refine cR tc ?_);simp(implicitDefEqProofs:=false) (maxSteps:=2000000) (disch:=omega) only[go_sem,Bk,s0,d1,e0];(repeat' (refine hK _ ?_;clear hK hkp kp K))) |refine A3 rfl ?_ |refine A4 rfl ?_ |refine A8 ?_));(refine A7 (by(simp(implicitDefEqProofs:=false) (maxSteps:=2000000) (disch:=omega) only[go_sem,results70]);rfl) ?_;refine eN hE ?_;simp[AG,ren,renL])
 ·have b1:(Am l !=0)=true:=by simpa using hc
  (repeat' (first |refine A0 ?_ |refine A6 ?_ |((first |refine rR (fun K kp hK hkp=>?_) |refine cR ic ?_ |refine cR nc ?_ |refine cR pc ?_);simp(implicitDefEqProofs:=false) (maxSteps:=2000000) (disch:=omega) only[go_sem,Bk,s0,b1];(repeat' (refine hK _ ?_;clear hK hkp kp K))) |refine A3 rfl ?_ |refine A4 rfl ?_ |refine A8 ?_));(refine A7 (by(simp(implicitDefEqProofs:=false) (maxSteps:=2000000) (disch:=omega) only[go_sem,results70]);rfl) ?_;refine eN hE ?_;simp[AG,ren,renL])
theorem HY {G:List (Nat×List Value)}(T:Tabs G)(t:Bool)(l:List CO)(hl:l.length≤1048576)(hs: ∀c ∈ l,Gc c.nm):Con prog G 85 [.ro true 2 (l.map eC)] [] 0 (Is (.r (.int .i64 (Am l))) [] 0) No:=by
 refine AA func85 rfl (by kernel_rfl) (of_decide_eq_true (by kernel_rfl)) ?_;intro E hG hE;subst hG;simp only[B9];have cc:=(JH T l hl hs).weak (xs:=[.agg [.r (.int .i64 1),.r (.string (str [116])),.ro true 2 (l.map eC),.r (.slice none 0 0),.r (.slice none 0 0),.r (.bool false),.r (.slice none 0 0),.r (.string (str [])),.r (.bool false),.r (.int .i64 (-1)),.r (.string (str [])),.r (.slice none 0 0)]]) (by simp[LF,wk,Bk,s0]);(repeat' (first |refine A0 ?_ |((first |refine rR (fun K kp hK hkp=>?_) |refine cR cc ?_);simp(implicitDefEqProofs:=false) (maxSteps:=2000000) (disch:=omega) only[go_sem];(repeat' (refine hK _ ?_;clear hK hkp kp K))) |refine A8 ?_));(refine A7 (by(simp(implicitDefEqProofs:=false) (maxSteps:=2000000) (disch:=omega) only[go_sem,results85]);rfl) ?_;refine eN hE ?_;simp[AG,ren,renL])
theorem GP (G:List (Nat×List Value))(l:List CO)(hl:l.length≤1048576)(hs: ∀c ∈ l,Gc c.nm):Con prog G 91 [.ro true 2 (l.map eC)] [] 0 (Is (.r (.int .i64 (Am l))) [] 0) No:=by
 refine AA func91 rfl (by kernel_rfl) (of_decide_eq_true (by kernel_rfl)) ?_;intro E hG hE;subst hG;simp only[B9];have cc:=(PJ E.G l hl hs).weak (xs:=[.agg [.r (.int .i64 1),.r (.string (str [116])),.ro true 2 (l.map eC),.r (.slice none 0 0),.r (.slice none 0 0),.r (.bool false),.r (.slice none 0 0),.r (.string (str [])),.r (.bool false),.r (.int .i64 (-1)),.r (.string (str [])),.r (.slice none 0 0)]]) (by simp[LF,wk,Bk,s0]);(repeat' (first |refine A0 ?_ |((first |refine rR (fun K kp hK hkp=>?_) |refine cR cc ?_);simp(implicitDefEqProofs:=false) (maxSteps:=2000000) (disch:=omega) only[go_sem];(repeat' (refine hK _ ?_;clear hK hkp kp K))) |refine A8 ?_));(refine A7 (by(simp(implicitDefEqProofs:=false) (maxSteps:=2000000) (disch:=omega) only[go_sem,results91]);rfl) ?_;refine eN hE ?_;simp[AG,ren,renL])
end Go.AM
