/- Texts of the law ParseParses, part 2: lemmas; what is proved stands in the last text. -/
import Derived.Test.YtmgddlckgpfccaaDoorZz1
import Derived.MapKept
set_option linter.unusedSimpArgs false
set_option linter.unusedVariables false
set_option maxRecDepth 100000
namespace Go.AM
open Go
section
variable {P:Program} {E:Env} {N:Nat} {st:AS} {th:List NLoc} {z:Ag} {a:Act} {w:World} {o:List (Nat×Nd)} {n:Nat}
theorem G2: ∀(op:List (Nat×Nat×AV))(i j m i' j':Nat),EC (Qa op i j m) i' j'=if i'=i∧j≤j'∧j'<j+m then none else EC op i' j'
 | [],i,j,m,i',j'=>by simp[Qa,EC]
 |(a,b,x)::r,i,j,m,i',j'=>by
  simp only[Qa];split
  ·rename_i h
   rw[G2 r,EC];split
   ·rfl
   ·rename_i h2
    rw[if_neg (fun e=>h2 ⟨by omega,by omega,by omega⟩)]
  ·rename_i h
   simp only[EC];rw[G2 r]
   by_cases h1:a=i'∧b=j'
   ·rw[if_pos h1,if_pos h1,if_neg (fun e=>h ⟨by omega,by omega,by omega⟩)]
   ·rw[if_neg h1,if_neg h1]
theorem Lp {cs new:List AV}{off:Nat}(h:off+new.length≤cs.length)(j:Nat):(splice cs off new)[j]?=if off≤j∧j<off+new.length then new[j - off]? else cs[j]?:=by
 unfold splice
 have hl:(cs.take off).length=off:=by rw[List.length_take];omega
 by_cases h1:j<off
 ·rw[if_neg (by omega),List.append_assoc,List.getElem?_append_left (by omega),List.getElem?_take_of_lt h1]
 ·by_cases h2:j<off+new.length
  ·rw[if_pos (by omega),List.append_assoc,List.getElem?_append_right (by omega),hl,List.getElem?_append_left (by omega)]
  ·rw[if_neg (by omega),List.getElem?_append_right (by simp[hl];omega),List.getElem?_drop]
   simp only[List.length_append,hl]
   congr 1;omega
theorem MM (h:Sim E N st th z a w){T:TypeId}{X V:Operand}{d:Option Nat}{t:TypeId}{pos:String}{aft:Array Edge}{g:Option (Nat×Bool)}{k:AV→AS→Prop}{c:Prop}{vv:AV}{s:AS}(hq:E6 P E.G st (.store T X V)=some (c,vv,s))(hc:c)(hk:k vv s):
  JZ P E N ⟨d,.store T X V,t,pos,aft,g⟩ a w th (EN st E.G (.store T X V)) st.m k false:=by
 simp only[E6] at hq;unfold Ll at hq;split at hq
 ·rename_i y n i off v hT hx hv
  obtain⟨L,hL,hp⟩:=(AN h hx).p_inv;have hr:=AN h hv
  have hts:EN st E.G (.store T X V)=[n]:=by simp only[EN,hx]
  rw[hts];split at hq
  ·rename_i T' k' els op ho'
   split at hq
   ·rename_i e c' he hlay
    · ·simp only[Option.some.injEq,Prod.mk.injEq] at hq
       obtain⟨rfl,rfl,rfl⟩:=hq;obtain⟨h2,h3,h4,h5⟩:=hc;obtain⟨L',k1,k2,k6⟩:=h.mem.nds _ _ ho';rw[hL] at k1;cases k1
       rcases k2 with ⟨_,hn0⟩ |⟨hph,cells,fr,g2,g3,g4,g5,g6,g7⟩
       ·subst hn0;simp at he
       obtain⟨k6,k7,k8⟩:=k6 hph;have hcs:=CL hr h4
       have hsz:(a.eval V).cells.size=y.size:=by have:=hcs.1;rw[h2] at this;simpa using this
       have hone:=FF hr h4 h5;have hel:=g7 i e he;have hi:i<els.length:=(List.getElem?_eq_some_iff.1 he).1
       have hbd:i * L.k+L.k≤L.cap * L.k:=by
        have:(i+1) * L.k≤L.cap * L.k:=Nat.mul_le_mul_right _ (by omega)
        rwa [Nat.add_mul,Nat.one_mul] at this
       have hll:=K8 hlay;obtain⟨q1,q2,q3⟩:=CW L.b (a.eval V).cells.toList (L.o+i * L.k+off) w cells T' fr g2;have le:Le w z (w.setCells L.b (L.o+i * L.k+off) (a.eval V).cells.toList) z:=⟨fun _ _ h=>h,fun t b hb=>q2 b (fun e=>by subst e;exact k7 t hb)⟩
       have hvl:(a.eval V).cells.toList.length=y.size:=by simpa using hsz
       have hin:L.o+i * L.k+off+(a.eval V).cells.toList.length≤cells.size:=by omega
       have hspl:off+c'.length≤e.length:=by omega
       refine⟨undef,.r undef,_,th,z,w.setCells L.b (L.o+i * L.k+off) (a.eval V).cells.toList,.inr ⟨?_,rfl⟩,hk,h.write ho' hL hph (BZ _ _ _ _) q1 q2 ?_ ?_,.r _ _,rfl,(fun h=>by cases h),Later.refl _,⟨Nat.le_of_eq q1.symm,fun b _ hne=>q2 b (fun e=>hne n (by simp) L hL hph e.symm),BZ _ _ _ _⟩⟩
       ·have:=El (P:=P) hT (b:=L.b) (o:=L.o+i * L.k+off) hsz g2 g3 (by omega) hone
        simp only[execOp,hp,Sem.run_bind,this,Result.andThen_ok]
        rfl
       ·refine .inr ⟨hph,_,fr,q3,fun q hq=>by rw[Bh] at hq;exact g3 q hq,g4,by rw[Bh];exact g5,by simpa using g6,fun q e' hq=>?_⟩
        rw[List.getElem?_set] at hq;split at hq
        ·obtain rfl:=Option.some.inj hq;rw[FU hspl];exact hel
        ·exact g7 q e' hq
       ·intro T2 k2 els2 op2 heq U hU
        cases heq;obtain⟨F,f1,f2,f3⟩:=hU.at_ n T' k' els op L ho' hL;have hUb: ∀b,U n b→(w.setCells L.b (L.o+i * L.k+off) (a.eval V).cells.toList).heap[b]?=w.heap[b]?:=fun b hb=>q2 b (fun e=>by subst e;exact hU.kn n _ L n ho' hL hph hb);refine⟨F,f1,f2,fun q e' hq j x hx=>?_⟩
        have hcell: ∀p,(w.setCells L.b (L.o+i * L.k+off) (a.eval V).cells.toList).cell? ⟨L.b,p,none⟩=if L.o+i * L.k+off≤p∧p<L.o+i * L.k+off+(a.eval V).cells.toList.length then (a.eval V).cells.toList[p - (L.o+i * L.k+off)]? else w.cell? ⟨L.b,p,none⟩:=by
         intro p;rw[CB q3,C7 _ _ _ hin,CB g2]
        have old: ∀e0,els[q]?=some e0→e0[j]?=some x→ ¬(q=i∧off≤j∧j<off+y.size)→ ∃u,(w.setCells L.b (L.o+i * L.k+off) (a.eval V).cells.toList).cell? ⟨L.b,L.o+q * L.k+j,none⟩=some u∧u.oneCell'=true∧CellU (w.setCells L.b (L.o+i * L.k+off) (a.eval V).cells.toList) z th (F q j) (Da i off v.cells++Qa op i off v.cells.length) q j x u:=by
         intro e0 he0 hx0 hne;obtain⟨u,hu,ho1,hcu⟩:=f3 q e0 he0 j x hx0
         have hjk:j<L.k:=by rw[←g7 q e0 he0];exact(List.getElem?_eq_some_iff.1 hx0).1
         refine⟨u,?_,ho1,?_⟩
         ·rw[hcell,if_neg]
          ·exact hu
          ·intro hr
           rw[hvl] at hr
           by_cases hqi:q=i
           ·subst hqi;exact hne ⟨rfl,by omega,by omega⟩
           ·rcases Nat.lt_or_gt_of_ne hqi with hlt |hlt
            ·have:(q+1) * L.k≤i * L.k:=Nat.mul_le_mul_right _ hlt
             rw[Nat.add_mul,Nat.one_mul] at this;omega
            ·have:(i+1) * L.k≤q * L.k:=Nat.mul_le_mul_right _ hlt
             rw[Nat.add_mul,Nat.one_mul] at this;omega
         ·have hcu:=hcu.on le (fun b hb=>hUb b (f1 _ _ _ hb)) []
          rw[List.append_nil] at hcu;unfold CellU at hcu ⊢;rw[DF,G2,if_neg (by omega)]
          have:EC (Da i off v.cells) q j=none:=by
           by_cases hqi:q=i
           ·subst hqi;exact Fg _ _ _ (by omega)
           ·exact Ep _ _ _ _ hqi
          rw[this];exact hcu
        rw[List.getElem?_set] at hq;split at hq
        ·rename_i hqi
         ·subst hqi
          obtain rfl:=Option.some.inj hq;rw[Lp hspl] at hx;split at hx
          ·rename_i hj
           obtain⟨u,hu,hcu⟩:=I8 (f:=F i j) (i:=i) (j0:=off) hlay hcs (j - off) x hx;refine⟨u,?_,hone u (List.mem_of_getElem? hu),?_⟩
           ·rw[hcell,if_pos (by omega),show L.o+i * L.k+j - (L.o+i * L.k+off)=j - off by omega]
            exact hu
           ·rw[show off+(j - off)=j by omega] at hcu
            have hcu:=hcu.on le (fun b hb=>hUb b (f1 _ _ _ hb)) [];rw[List.append_nil] at hcu;unfold CellU at hcu ⊢;rw[DF];split at hcu
            ·rename_i x' hx';first |exact hcu |(rw[hx'];exact hcu)
            ·rename_i hx';first |(rw[hx'];simp only;rw[G2,if_pos (by omega)];exact hcu) |(rw[G2,if_pos (by omega)];exact hcu)
          ·rename_i hj
           exact old e he hx (by omega)
        ·rename_i hqi
         exact old e' hq hx (fun hh=>hqi hh.1.symm)
   ·cases hq
  ·cases hq
 ·cases hq
theorem KD (h:Sim E N st th z a w){T:TypeId}{r:Option Operand}{d:Option Nat}{t:TypeId}{pos:String}{aft:Array Edge}{g:Option (Nat×Bool)}{k:AV→AS→Prop}{c:Prop}{vv:AV}{s:AS}(hq:E6 P E.G st (.makeMap T r)=some (c,vv,s))(hc:c)(hk:k vv s):
  JZ P E N ⟨d,.makeMap T r,t,pos,aft,g⟩ a w th [] st.m k true:=by
 cases r with
 |some r=>simp[E6] at hq
 |none=>
  simp only[E6,Option.some.injEq,Prod.mk.injEq] at hq;obtain⟨rfl,rfl,rfl⟩:=hq;have e:=EH w (.map #[] 0);have hS:=h.add e ⟨w.heap.size,0,0,0,false⟩ (.mp []) (Nat.le_refl _) (by simp) ⟨rfl,#[],0,Ev _ _,rfl,fun e he=>by simp at he⟩;refine⟨.map (some w.heap.size),_,_,_,z,_,.inl ?_,hk,hS,.q _ _ _ (h.get_new _),rfl,fun _=>e,Br _ _,e.t⟩;simp[execOp,Instr.makeMap]
theorem IZ (h:Sim E N st th z a w){T:TypeId}{M K V:Operand}{d:Option Nat}{t:TypeId}{pos:String}{aft:Array Edge}{g:Option (Nat×Bool)}{k:AV→AS→Prop}{c:Prop}{vv:AV}{s:AS}(hq:E6 P E.G st (.mapUpdate T M K V)=some (c,vv,s))(hc:c)(hk:k vv s):
  JZ P E N ⟨d,.mapUpdate T M K V,t,pos,aft,g⟩ a w th (EN st E.G (.mapUpdate T M K V)) st.m k false:=by
 simp only[E6] at hq;unfold RF at hq;split at hq
 ·rename_i kT e s1 b1 z1 n v hT hm hkey hx
  split at hq
  ·rename_i s2 b2 z2 l hk2 hl
   simp only[Option.some.injEq,Prod.mk.injEq] at hq;obtain⟨rfl,rfl,rfl⟩:=hq
   have hts:EN st E.G (.mapUpdate T M K V)=[n]:=by simp only[EN,hm]
   rw[hts];obtain⟨L,hL,hv⟩:=(AN h hm).q_inv;have hkv:=(AN h hkey).r_inv
   have hxv:a.eval V= .agg #[]:=by
    obtain⟨ys,h1,h2⟩:=(AN h hx).agg_inv;rw[h1,h2.of_nil]
   obtain⟨L',h1,⟨hp,es,ck,h2,h3,hvals⟩,h4⟩:=h.mem.nds _ _ hl;rw[hL] at h1;cases h1;obtain⟨r,g1,g2,g3⟩:=H7 (P:=P) (D_ hk2 rfl) (v:=v) h3;have hund:=Jj hT rfl;have hset: ∀ob:Obj,(setObj L.b ob).run P w= .ok () {w with heap:=w.heap.setIfInBounds L.b ob}:=fun ob=>MapKept.run_setObj_map ob h2;have hlt:L.b<w.heap.size:=(h4 hp).1
   have fin: ∀(es':Array MapEntry)(ck':Nat),es'.toList.map (·.key)=(OV l v).map (.int .i64 ·)→(∀e ∈ es'.toList,e.val= .agg #[])→(Instr.mapUpdate T (a.eval M) (a.eval K) (a.eval V)).run P w= .ok () {w with heap:=w.heap.setIfInBounds L.b (.map es' ck')}→JZ P E N ⟨d,.mapUpdate T M K V,t,pos,aft,g⟩ a w th [n] st.m k false:=by
    intro es' ck' hes hev hrun
    have hsame: ∀b,b≠L.b→(w.heap.setIfInBounds L.b (.map es' ck'))[b]?=w.heap[b]?:=fun b hb=>by rw[Array.getElem?_setIfInBounds_ne (Ne.symm hb)]
    refine⟨undef,.r undef,_,th,z,{w with heap:=w.heap.setIfInBounds L.b (.map es' ck')},.inr ⟨?_,rfl⟩,hk,h.write hl hL hp (w':={w with heap:=w.heap.setIfInBounds L.b (.map es' ck')}) ⟨rfl,rfl,rfl⟩ (by simp) hsame ⟨hp,es',ck',?_,hes,hev⟩,.r _ _,rfl,(fun h=>by cases h),Later.refl _,⟨by simp,fun b _ hne=>hsame b (fun e=>hne n (by simp) L hL hp e.symm),⟨rfl,rfl,rfl⟩⟩⟩
    ·simp only[execOp,Sem.run_bind,hrun,Result.andThen_ok];rfl
    ·show(w.heap.setIfInBounds L.b (.map es' ck'))[L.b]?=_
     rw[Array.getElem?_setIfInBounds_self_of_lt hlt]
   cases r with
   |none=>
    have hnot:l.contains v=false:=by rw[←g2];rfl
    refine fin (es.push {key:= .int .i64 v,val:=a.eval V,born:=ck}) (ck+1) (by
     have hpk:OV l v=l++[v]:=by unfold OV;rw[hnot];rfl
     rw[hpk];simp[h3]) (fun e he=>by
     simp only[Array.toList_push,List.mem_append,List.mem_singleton] at he
     rcases he with he |rfl
     ·exact hvals e he
     ·exact hxv) ?_
    rw[hv,hkv];simp only[Instr.mapUpdate,Sem.run_bind,AE hund,Result.andThen_ok,Fv h2,E_ (D_ hk2 rfl),g1,hset]
   |some p=>
    obtain⟨i,u⟩:=p
    have hin:l.contains v=true:=by rw[←g2];rfl
    have key: ∀(es0:List MapEntry)(l0:List Int)(q:Nat),es0.map (·.key)=l0.map (.int .i64 ·)→Instr.findNow (.int .i64) (.int .i64 v) es0 q=some (some (i,u))→ ∃j,i=q+j∧(es0[j]?).map (·.key)=some (.int .i64 v):=by
     intro es0
     induction es0 with
     |nil=>intro l0 q _ hf;simp[Instr.findNow] at hf
     |cons e es0 ih=>
      intro l0 q hh hf
      cases l0 with
      |nil=>simp at hh
      |cons k0 l0=>
       simp only[List.map_cons,List.cons.injEq] at hh;simp only[Instr.findNow,hh.1,Instr.sameNow,if_true] at hf
       by_cases hvk:v=k0
       ·subst hvk
        simp at hf;exact⟨0,by omega,by simp[hh.1]⟩
       ·have:(v==k0)=false:=by simpa using hvk
        rw[this] at hf;obtain⟨j,hj,hj2⟩:=ih l0 (q+1) hh.2 hf;exact⟨j+1,by omega,by simpa using hj2⟩
    obtain⟨j,hj,hj2⟩:=key es.toList l 0 h3 g3;rw[Nat.zero_add] at hj;subst hj;rw[Array.getElem?_toList] at hj2;refine fin (es.modify i fun e=>{e with key:= .int .i64 v,val:=a.eval V}) ck ?_ (fun e he=>?_) ?_
    ·simp only[OV,hin,cond_true]
     rw[←h3];apply List.ext_getElem?;intro q;rw[List.getElem?_map,List.getElem?_map,Array.getElem?_toList,Array.getElem?_toList,Array.getElem?_modify];split
     ·rename_i e;subst e
      cases hq:es[i]? with
      |none=>rfl
      |some e0=>rw[hq] at hj2;simp at hj2;simp[hj2]
     ·rfl
    ·obtain⟨q,hq⟩:=List.mem_iff_getElem?.1 he
     rw[Array.getElem?_toList,Array.getElem?_modify] at hq;split at hq
     ·cases hq0:es[q]? with
      |none=>rw[hq0] at hq;simp at hq
      |some e0=>rw[hq0] at hq;simp at hq;rw[←hq];exact hxv
     ·exact hvals e (List.mem_of_getElem? (by rw[Array.getElem?_toList];exact hq))
    ·rw[hv,hkv]
     have hkeep:(Instr.keyThatStays (((es[i]?).map (·.key)).getD (.int .i64 v)) (.int .i64 v)).run P w= .ok (.int .i64 v) w:=by
      rw[hj2]
      have hsb:Instr.sameBits 10000 (.int .i64 v) (.int .i64 v)=true:=by
       rw[show(10000:Nat)=9999+1 from rfl];simp[Instr.sameBits]
      simp only[Instr.keyThatStays,Option.getD_some,hsb,if_true]
      rfl
     simp only[Instr.mapUpdate,Sem.run_bind,AE hund,Result.andThen_ok,Fv h2,E_ (D_ hk2 rfl),g1,hkeep,hset]
  ·cases hq
 ·cases hq
end
end Go.AM
namespace Go.AM
open Go
section
variable {P:Program} {E:Env} {N:Nat} {st:AS} {th:List NLoc} {z:Ag} {a:Act} {w:World} {o:List (Nat×Nd)} {n:Nat}
theorem K3 (d:Nat): ∀(op:List (Nat×Nat×AV))(i j:Nat),EC (R4 d op) i j=if d≤i then EC op (i - d) j else none
 | [],i,j=>by simp[R4,EC]
 |(p,q,x)::r,i,j=>by
  have:=K3 d r i j;simp only[R4,List.map_cons,EC] at this ⊢;rw[this]
  by_cases h:d≤i
  ·simp only[h,if_true]
   by_cases h1:p=i - d∧q=j
   ·rw[if_pos h1,if_pos ⟨by omega,h1.2⟩]
   ·rw[if_neg h1,if_neg (fun e=>h1 ⟨by omega,e.2⟩)]
  ·simp only[h,if_false]
   rw[if_neg (by omega)]
theorem Sim.exact (h:Sim E N st th z a w){T k:Nat}{els:List (List AV)}{op:List (Nat×Nat×AV)}{L:NLoc}(hi:lk st.o n=some (.ul T k els op))(hL:th[n]?=some L):
  ∃xls:List (List AV),xls.length=els.length∧(∀x ∈ xls,x.length=k)∧(∀(i:Nat)(e:List AV)(j:Nat)(x:AV),els[i]?=some e→e[j]?=some x→ ∀y,w.cell? ⟨L.b,L.o+i * L.k+j,none⟩=some y→ ∃xr,xls[i]?=some xr∧xr[j]?=some (.r y))∧Sim E N (BO st n (.lst T k xls)) th z a w:=by
 obtain⟨U,hU⟩:=h.mem.uls;obtain⟨F,_,_,f3⟩:=hU.at_ n T k els op L hi hL;obtain⟨L',h1,h2,_⟩:=h.mem.nds n _ hi;rw[hL] at h1;cases h1
 have len: ∀(i:Nat)(e:List AV),els[i]?=some e→e.length=L.k∧L.k=k:=by
  intro i e he
  rcases h2 with ⟨_,h0⟩ |⟨_,cells,fr,g1,g2,g3,g4,g5,g6⟩
  ·subst h0;simp at he
  ·exact⟨g6 i e he,g3⟩
 refine⟨(List.range els.length).map fun i=>(List.range k).map fun j=> .r ((w.cell? ⟨L.b,L.o+i * L.k+j,none⟩).getD undef),by simp,fun x hx=>?_,fun i e j x he hx y hy=>?_,h.say hi (fun M hM hn=>?_)⟩
 ·obtain⟨i,_,rfl⟩:=List.mem_map.1 hx;simp
 ·have hi':i<els.length:=(List.getElem?_eq_some_iff.1 he).1
  have hj:j<k:=by rw[←(len i e he).2,←(len i e he).1];exact(List.getElem?_eq_some_iff.1 hx).1
  exact⟨_,by rw[List.getElem?_map,List.getElem?_range hi'];rfl,by rw[List.getElem?_map,List.getElem?_range hj];simp[hy]⟩
 ·rw[hL] at hM;cases hM
  rcases hn with ⟨hp,h0⟩ |⟨hp,cells,fr,g1,g2,g3,g4,g5,g6⟩
  ·subst h0;exact .inl ⟨hp,by simp⟩
  ·refine .inr ⟨hp,cells,fr,g1,g2,g3,g4,by simpa using g5,fun i e he=>?_⟩
   have hi':i<els.length:=by have:=(List.getElem?_eq_some_iff.1 he).1;simpa using this
   rw[List.getElem?_map,List.getElem?_range hi'] at he;simp only[Option.map_some,Option.some.injEq] at he;subst he;refine⟨by simp[g3],fun j x hx=>?_⟩
   have hj:j<k:=by have:=(List.getElem?_eq_some_iff.1 hx).1;simpa using this
   rw[List.getElem?_map,List.getElem?_range hj] at hx;simp only[Option.map_some,Option.some.injEq] at hx;subst hx
   have he0:els[i]?=some els[i]:=by simp[hi']
   have hl0:=(len i _ he0).1
   have hj0:j<els[i].length:=by rw[hl0,g3];exact hj
   obtain⟨y,hy,ho,_⟩:=f3 i els[i] he0 j els[i][j] (by simp[hj0]);refine⟨y,?_,by rw[hy];exact .r _ _,ho⟩;rw[CB g1] at hy;exact hy
theorem Nr {k n:Nat}{nd:Nd}{x:AV}{els:List (List AV)}(h:Ci st k x=some els){T k':Nat}{els':List (List AV)}{op:List (Nat×Nat×AV)}(hn:lk st.o n=some (.ul T k' els' op)):Ci (BO st n nd) k x=some els:=by
 unfold Ci at h ⊢;split at h
 ·exact h
 ·rename_i m lo len
  simp only[BO,lk]
  by_cases e:n=m
  ·subst e;rw[hn] at h;cases h
  ·rw[if_neg e];exact h
 ·exact h
 ·cases h
def Ts (P:Program)(E:Env)(N:Nat)(st:AS)(th:List NLoc)(z:Ag)(a:Act)(w:World)(n e e' sz:Nat)(xn:List (List AV))(U:Nat→Nat→Prop)(x:AV)(els2:List (List AV))(op2:List (Nat×Nat×AV))(ms:Option Nat):Prop:=
 ∃(stX:AS)(new:List (List AV))(Fm:Nat→Nat→Nat→Prop),Sim E N stX th z a w∧lk stX.o n=some (.lst e sz xn)∧stX.n=st.n∧(∀i y,ms≠some i→i≠n→lk st.o i=some y→lk stX.o i=some y)∧Iv stX sz (TK.slice e') x=some new∧new.length=els2.length∧(∀e ∈ els2,e.length=sz)∧
  (∀i j b,Fm i j b→ ∃m,ms=some m∧U m b)∧(∀i j i' j' b,Fm i j b→Fm i' j' b→i=i'∧j=j')∧
  (∀(i:Nat)(e:List AV)(j:Nat)(x:AV),els2[i]?=some e→e[j]?=some x→ ∃en xn,new[i]?=some en∧en[j]?=some xn∧ ∀(w':World)(th':List NLoc)(y:Value),Le w z w' z→(∀i b,U i b→w'.heap[b]?=w.heap[b]?)→Rep w' z [] xn y→CellU w' z (th++th') (Fm i j) op2 i j x y)
theorem J7 (h:Sim E N st th z a w){n e e' sz:Nat}{xn:List (List AV)}{U:Nat→Nat→Prop}{x:AV}{els2:List (List AV)}{op2:List (Nat×Nat×AV)}{ms:Option Nat}{els:List (List AV)}(hXn:Sim E N (BO st n (.lst e sz xn)) th z a w)(hn:lk st.o n=some (.ul e sz els []))
  {T':TypeId} {y':TY} (hT':AT P T'=some y') (hy:y'.k= .slice e') {v2:Value} (hr:Rep w z th x v2) (hsz:0<sz) (hx:(Ci st sz x).map (fun els=>(els,([]:List (Nat×Nat×AV)),(none:Option Nat)))=some (els2,op2,ms)):Ts P E N st th z a w n e e' sz xn U x els2 op2 ms:=by
 obtain⟨el,hel,hh⟩:=Option.map_eq_some_iff.1 hx;simp only[Prod.mk.injEq] at hh;obtain⟨rfl,rfl,rfl⟩:=hh;refine⟨BO st n (.lst e sz xn),el,fun _ _ _=>False,hXn,by simp[BO,lk],rfl,fun i y _ hi hy=>?_,Nr hel hn,rfl,fun e' he'=>?_,fun _ _ _ h=>h.elim,fun _ _ _ _ _ h=>h.elim,fun i e j x he hx=>⟨e,x,he,hx,fun w' th' y _ _ hr=> .r _ _ _ hr⟩⟩
 ·simp only[BO,lk];rw[if_neg (Ne.symm hi)];exact hy
 ·obtain⟨news,_,h2,_⟩:=E9 h hT' hr hsz (show Iv st sz y'.k x=some el by rw[hy];exact hel)
  exact h2 e' he'
theorem PA (h:Sim E N st th z a w){args:Array Operand}{ats:Array TypeId}{d:Option Nat}{t:TypeId}{pos:String}{aft:Array Edge}{g:Option (Nat×Bool)}{k:AV→AS→Prop}{c:Prop}{vv:AV}{s:AS}(hq:E6 P E.G st (.call {callee:= .builtin .append,args:=args,argTypes:=ats})=some (c,vv,s))(hc:c)(hk:k vv s):
  JZ P E N ⟨d,.call {callee:= .builtin .append,args:=args,argTypes:=ats},t,pos,aft,g⟩ a w th (EN st E.G (.call {callee:= .builtin .append,args:=args,argTypes:=ats})) st.m k false:=by
 obtain⟨args⟩:=args;obtain⟨ats⟩:=ats;simp only[E6] at hq;unfold Rn at hq;split at hq
 case h_2=>cases hq
 rename_i b x T T' he;split at hq
 case h_2=>cases hq
 rename_i e s1 b1 z1 e' s2 b2 z2 hT hT';split at hq
 case h_2=>cases hq
 rename_i kk sz bytes zs hTe;split at hq
 case h_2=>cases hq
 rename_i els n els2 op2 ms hb hx;simp only[Option.some.injEq,Prod.mk.injEq] at hq;obtain⟨rfl,rfl,rfl⟩:=hq;obtain⟨hzl,hsz,hby,h63,hms⟩:=hc;obtain⟨i,dd,hi1,hi2,hi3⟩:=BL hTe;simp only[TY.mk.injEq] at hi3;obtain⟨_,hisz,hiby,hiz⟩:=hi3;obtain⟨v0,hv0,hv0'⟩:=Option.map_eq_some_iff.1 hiz.symm
 have hz0:v0.cells.size=sz:=by rw[←hzl,←hv0'];simp
 obtain⟨v1,r1,hargs,hr1,hrest⟩:=(Bs h he).head;obtain⟨v2,r2,rfl,hr2,hrest2⟩:=hrest.head;obtain rfl:=hrest2.of_nil
 have hbn:b= .s n 0 els.length∧lk st.o n=some (.ul e sz els []):=by
  unfold PK at hb;split at hb
  ·rename_i m len
   split at hb
   ·rename_i T0 k0 els0 hm
    split at hb
    ·rename_i hcond
     obtain⟨rfl,rfl,rfl⟩:=hcond;simp only[Option.some.injEq,Prod.mk.injEq] at hb;obtain⟨rfl,rfl⟩:=hb;exact⟨rfl,hm⟩
    ·cases hb
   ·cases hb
  ·cases hb
 obtain⟨rfl,hn⟩:=hbn
 have hts:EN st E.G (.call {callee:= .builtin .append,args:=args.toArray,argTypes:=[T,T'].toArray})=[n]:=by simp only[EN,he]
 obtain⟨L,hL,hnd,hk3⟩:=h.mem.nds n _ hn;obtain⟨xn,xn1,xn2,xn3,hXn⟩:=h.exact hn hL;obtain⟨U,hU⟩:=h.mem.uls;obtain⟨Fn,fn1,fn2,fn3⟩:=hU.at_ n _ _ _ _ _ hn hL
 have src:Ts P E N st th z a w n e e' sz xn U x els2 op2 ms:=by
  unfold R1 at hx;split at hx
  ·rename_i m lo len
   split at hx
   ·rename_i T2 k2 elsm opm hm
    split at hx
    ·rename_i hcond
     obtain⟨rfl,rfl,rfl⟩:=hcond;simp only[Option.some.injEq,Prod.mk.injEq] at hx;obtain⟨rfl,rfl,rfl⟩:=hx;have hmn:n≠m:=fun e=>hms (by rw[e]);obtain⟨Lm,hLm,hndm,_⟩:=h.mem.nds m _ hm
     have hm':lk (BO st n (.lst e k2 xn)).o m=some (.ul T2 k2 elsm opm):=by simp only[BO,lk];rw[if_neg hmn];exact hm
     obtain⟨xm,xm1,xm2,xm3,hXm⟩:=hXn.exact hm' hLm;obtain⟨Fm,fm1,fm2,fm3⟩:=hU.at_ m _ _ _ _ _ hm hLm;refine⟨BO (BO st n (.lst e k2 xn)) m (.lst T2 k2 xm),xm,Fm,hXm,by simp only[BO,lk];rw[if_neg (Ne.symm hmn)];simp,rfl,fun i y h1 h2 hy=>?_,?_,xm1,fun e' he'=>?_,fun i j b hb=>⟨m,rfl,fm1 i j b hb⟩,fm2,fun i e j x he hx=>?_⟩
     ·simp only[BO,lk]
      rw[if_neg (fun e=>h1 (by rw[e])),if_neg (Ne.symm h2)];exact hy
     ·simp only[Iv,Ci,BO,lk,if_true,Nat.zero_add]
      rw[if_pos ⟨trivial,by rw[xm1];exact Nat.le_refl _⟩,List.drop_zero,List.take_of_length_le (by rw[xm1];exact Nat.le_refl _)]
     ·obtain⟨q,hq⟩:=List.mem_iff_getElem?.1 he'
      rcases hndm with ⟨_,h0⟩ |⟨_,cells,fr,g1,g2,g3,g4,g5,g6⟩
      ·subst h0;simp at hq
      ·rw[←g3];exact g6 q e' hq
     ·obtain⟨y0,hy0,_,hcu⟩:=fm3 i e he j x hx
      obtain⟨xr,hxr,hxj⟩:=xm3 i e j x he hx y0 hy0;refine⟨xr,_,hxr,hxj,fun w' th' y le hs hr=>?_⟩;obtain rfl:=hr.r_inv;exact hcu.on le (fun b hb=>hs m b (fm1 _ _ _ hb)) th'
    ·cases hx
   ·exact J7 h hXn hn hT' rfl hr2 hsz hx
  ·exact J7 h hXn hn hT' rfl hr2 hsz hx
 obtain⟨stX,new,Fm,hX,hXlk,hXN,hXold,hXs,hnl,hk2,fm1,fm2,fm3⟩:=src;obtain⟨news,hs,hel,hcell⟩:=E9 hX hT' hr2 hsz hXs;obtain⟨v,L2,w',g1,g2,g3,g4,g5⟩:=HF hX (t:=t) hT hi1 hv0 hisz.symm hiby.symm hz0 hsz hXlk (lo:=0) (len:=els.length) (by rw[xn1];omega) (by rw[hnl];exact hby) (by rw[hnl];exact h63) hr1 hs hel hcell
 have htk:(xn.drop 0).take els.length=xn:=by rw[List.drop_zero,List.take_of_length_le (by rw[xn1];exact Nat.le_refl _)]
 rw[htk] at g2;rw[hXN,hnl] at g3
 have hUL: ∀i b,U i b→w'.heap[b]?=w.heap[b]?:=fun i b hb=>g4.same b (hU.lt i b hb) (fun q hq M hM hp e=>by
  obtain rfl:n=q:=(List.mem_singleton.1 hq).symm;rw[hL] at hM;cases hM
  subst e;exact hU.kn n _ L i hn hL hp hb)
 have le:Le w z w' z:=⟨fun _ _ h=>h,fun t b hb=>g4.same b (h.mem.zlt t b hb) (fun q hq M hM hp e=>by
  obtain rfl:n=q:=(List.mem_singleton.1 hq).symm;rw[hL] at hM;cases hM
  subst e;exact(hk3 hp).2.1 t hb)⟩
 have hlkn: ∀i y,lk (rm (Rz st.o ms) n) i=some y→i≠n∧ms≠some i∧lk st.o i=some y:=by
  intro i y hi;rw[H3] at hi;split at hi
  ·cases hi
  ·rename_i hne
   cases ms with
   |none=>exact⟨Ne.symm hne,(by simp),hi⟩
   |some m=>
    simp only[Rz] at hi;rw[H3] at hi;split at hi
    ·cases hi
    ·rename_i hne2;exact⟨Ne.symm hne,(fun e=>hne2 (by cases e;rfl)),hi⟩
 have hstn: ∀i y,lk st.o i=some y→i<st.n:=fun i y hi=>by
  obtain⟨M,k1,_⟩:=h.mem.nds i y hi;rw[←h.mem.len];exact(List.getElem?_eq_some_iff.1 k1).1
 have hget:(th++[L2])[st.n]?=some L2:=h.get_new L2
 have hold: ∀i M,i<st.n→(th++[L2])[i]?=some M→th[i]?=some M:=fun i M hi hM=>by rwa [List.getElem?_append_left (by rw[h.mem.len];exact hi)] at hM
 have m1:Mem E ((st.n,.lst e sz (xn++new))::rm (Rz st.o ms) n) (st.n+1) (th++[L2]) z w':=by
  have:=g2.mem;simp only[C2,hXN] at this;refine this.sub (fun i y hi=>?_);simp only[lk] at hi ⊢;split at hi
  ·rename_i e;rw[if_pos e];exact hi
  ·rename_i e
   rw[if_neg e];obtain⟨k1,k2,k3⟩:=hlkn i y hi;rw[H3,if_neg (Ne.symm k1)];exact hXold i y k2 k1 k3
 obtain⟨L2',p1,p2,p3⟩:=m1.nds st.n (.lst e sz (xn++new)) (by simp[lk]);rw[hget] at p1;cases p1
 have m2:=m1.sayU (i:=st.n) (T:=e) (k:=sz) (xls:=xn++new) (els:=els++els2) (op:=R4 els.length op2) (by simp[lk]) (by simp[xn1,hnl]) (fun e' he'=>by
  rcases List.mem_append.1 he' with he' |he'
  ·obtain⟨q,hq⟩:=List.mem_iff_getElem?.1 he'
   rcases hnd with ⟨_,h0⟩ |⟨_,cells,fr,g1,g2,g3,g4,g5,g6⟩
   ·subst h0;simp at hq
   ·rw[←g3];exact g6 q e' hq
  ·exact hk2 e' he') ⟨fun i b=>if i=st.n then (U n b∨ ∃m,ms=some m∧U m b) else (i≠n∧ms≠some i∧U i b),?_⟩
 ·have hsim:Sim E N (C2 {st with o:=rm (Rz st.o ms) n} (.ul e sz (els++els2) (R4 els.length op2))) (th++[L2]) z a w':=by
   refine⟨m2.sub (fun i y hi=>?_),h.size,h.dfs,fun i y hi=>?_⟩
   ·simp only[C2,lk] at hi ⊢
    split
    ·rename_i e1;rw[if_pos e1] at hi;exact hi
    ·rename_i e1;rw[if_neg e1] at hi;exact hi
   ·obtain⟨u,hu,hr⟩:=h.slots i y hi
    exact⟨u,hu,hr.on le [L2]⟩
  rw[hts];refine⟨v,_,_,_,z,w',.inl ?_,hk,hsim,g3,rfl,(fun h=>by cases h),Br _ _,g4⟩;simp only[execOp,resolve,invoke,builtin,Sem.run_bind,Sem.run_pure,Result.andThen_ok]
  have he2:(Array.map a.eval args.toArray)= #[v1,v2]:=by simpa using hargs
  rw[he2,g1];rfl
 ·refine⟨fun i T0 k0 els0 op0 M hi hM=>?_,fun i b hb=>?_,fun i b hb=>?_,fun i b hb=>?_,fun i j b hb hb'=>?_,fun i nd M j hi hM hp hb=>?_⟩
  ·simp only[lk] at hi
   by_cases hie:st.n=i
   ·subst hie
    rw[if_pos rfl] at hi;cases hi;rw[hget] at hM;cases hM;simp only[if_true];refine⟨fun i j=>if i<els.length then Fn i j else Fm (i - els.length) j,fun i j b hb=>?_,fun i j i' j' b hb hb'=>?_,fun i e0 he0 j x0 hx0=>?_⟩
    ·dsimp only at hb
     split at hb
     ·exact .inl (fn1 _ _ _ hb)
     ·exact .inr (fm1 _ _ _ hb)
    ·dsimp only at hb hb'
     split at hb<;>split at hb'
     ·exact fn2 _ _ _ _ _ hb hb'
     ·obtain⟨m,rfl,hm⟩:=fm1 _ _ _ hb'
      exact(hms (by rw[hU.inj _ _ _ (fn1 _ _ _ hb) hm])).elim
     ·obtain⟨m,rfl,hm⟩:=fm1 _ _ _ hb
      exact(hms (by rw[hU.inj _ _ _ (fn1 _ _ _ hb') hm])).elim
     ·have:=fm2 _ _ _ _ _ hb hb'
      exact⟨by omega,this.2⟩
    ·rcases p2 with ⟨_,h0⟩ |⟨hp2,cells,fr,q1,q2,q3,q4,q5,q6⟩
     ·have hl:=congrArg List.length h0
      simp[xn1,hnl] at hl;have h1:=(List.getElem?_eq_some_iff.1 he0).1;simp[hl.1,hl.2] at h1
     ·by_cases hlt:i<els.length
      ·rw[List.getElem?_append_left hlt] at he0
       obtain⟨y0,hy0,ho0,hcu⟩:=fn3 i e0 he0 j x0 hx0;obtain⟨xr,hxr,hxj⟩:=xn3 i e0 j x0 he0 hx0 y0 hy0;obtain⟨_,q7⟩:=q6 i xr (by rw[List.getElem?_append_left (by rw[xn1];exact hlt)];exact hxr);obtain⟨y1,hy1,hr1',ho1⟩:=q7 j _ hxj;obtain rfl:=hr1'.r_inv;refine⟨y1,by rw[CB q1];exact hy1,ho1,?_⟩;simp only[hlt,if_true];have hcu:=hcu.on le (fun b hb=>hUL n b (fn1 _ _ _ hb)) [L2];unfold CellU at hcu ⊢;rw[K3,if_neg (by omega)];exact hcu
      ·rw[List.getElem?_append_right (by omega)] at he0
       obtain⟨en,xn',hen,hxn',hfin⟩:=fm3 _ e0 j x0 he0 hx0;obtain⟨_,q7⟩:=q6 i en (by rw[List.getElem?_append_right (by rw[xn1];omega),xn1];exact hen);obtain⟨y1,hy1,hr1',ho1⟩:=q7 j _ hxn';refine⟨y1,by rw[CB q1];exact hy1,ho1,?_⟩;simp only[hlt,if_false];have hcu:=hfin w' [L2] y1 le hUL hr1';unfold CellU at hcu ⊢;rw[K3,if_pos (by omega)];exact hcu
   ·rw[if_neg hie,if_neg hie] at hi
    obtain⟨k1,k2,k3⟩:=hlkn i _ hi;have hM':=hold i M (hstn i _ k3) hM;obtain⟨M',j1,j2,j3⟩:=h.mem.nds i _ k3;rw[hM'] at j1;cases j1
    have hbM:els0=[]∨w'.heap[M.b]?=w.heap[M.b]?:=by
     rcases j2.ul_nil with h6 |h6
     ·exact .inl h6
     ·exact .inr (g4.same _ (j3 h6).1 (fun q hq A hA hp e=>by
       obtain rfl:n=q:=(List.mem_singleton.1 hq).symm;rw[hL] at hA;cases hA
       exact k1 (h.mem.inj i n _ _ M L k3 hn hM' hL h6 hp e.symm)))
    obtain⟨F,u1,u2,u3⟩:=(hU.at_ i T0 k0 els0 op0 M k3 hM').on le (fun b hb=>hUL i b hb) hbM [L2];refine⟨F,fun i' j b hb=>?_,u2,u3⟩;dsimp only;rw[if_neg (Ne.symm hie)];exact⟨k1,k2,u1 i' j b hb⟩
  ·have: ∃i,U i b:=by
    split at hb
    ·rcases hb with hb |⟨m,_,hb⟩
     ·exact⟨_,hb⟩
     ·exact⟨_,hb⟩
    ·exact⟨_,hb.2.2⟩
   obtain⟨i,hb⟩:=this;exact Nat.lt_of_lt_of_le (hU.lt i b hb) g4.size
  ·have: ∃i,U i b:=by
    split at hb
    ·rcases hb with hb |⟨m,_,hb⟩
     ·exact⟨_,hb⟩
     ·exact⟨_,hb⟩
    ·exact⟨_,hb.2.2⟩
   obtain⟨i,hb⟩:=this;exact hU.nz i b hb
  ·have: ∃i,U i b:=by
    split at hb
    ·rcases hb with hb |⟨m,_,hb⟩
     ·exact⟨_,hb⟩
     ·exact⟨_,hb⟩
    ·exact⟨_,hb.2.2⟩
   obtain⟨i,hb⟩:=this;exact hU.ow i b hb
  ·split at hb<;>split at hb'
   ·omega
   ·rcases hb with hb |⟨m,hm,hb⟩
    ·exact(hb'.1 (hU.inj _ _ _ hb'.2.2 hb)).elim
    ·exact(hb'.2.1 (by rw[hU.inj _ _ _ hb'.2.2 hb];exact hm)).elim
   ·rcases hb' with hb' |⟨m,hm,hb'⟩
    ·exact(hb.1 (hU.inj _ _ _ hb.2.2 hb')).elim
    ·exact(hb.2.1 (by rw[hU.inj _ _ _ hb.2.2 hb'];exact hm)).elim
   ·exact hU.inj _ _ _ hb.2.2 hb'.2.2
  ·have hex: ∃i,U i M.b:=by
    split at hb
    ·rcases hb with hb |⟨m,_,hb⟩
     ·exact⟨_,hb⟩
     ·exact⟨_,hb⟩
    ·exact⟨_,hb.2.2⟩
   obtain⟨q,hq⟩:=hex;simp only[lk] at hi
   by_cases hie:st.n=i
   ·subst hie
    rw[hget] at hM;cases hM
    rcases g5 hp with g6 |⟨A,hA,hpA,hbA⟩
    ·have:=hU.lt q _ hq;omega
    ·rw[hL] at hA;cases hA
     rw[hbA] at hq;exact hU.kn n _ L q hn hL hpA hq
   ·rw[if_neg hie,if_neg hie] at hi
    obtain⟨k1,k2,k3⟩:=hlkn i _ hi;exact hU.kn i _ M q k3 (hold i M (hstn i _ k3) hM) hp hq
end
end Go.AM
