/- Texts of the law BaseUndoes, part 2: lemmas; what is proved stands in the last text. -/
import Derived.Test.YtekljlenlbhmcaaGreatDoorZz1
import Derived.Deep.Upon
import Derived.MapKept
set_option linter.unusedSimpArgs false
set_option linter.unusedVariables false
set_option maxRecDepth 100000
namespace Go.AM
open Go
section
variable {P:Program} {E:Env} {N:Nat} {st:AS} {th:List NLoc} {z:AT} {a:Act} {w:World}
theorem NdAt.of_rows {L:NLoc}{T:TypeId}{k:Nat}{els:List (List AV)}{cs:List (List Value)}{cells:Array Value}{rest:List Value}(hb:w.heap[L.b]?=some (.cells cells T (0,0)))(hp:L.ph=false)(ho:L.o=0)(hk:L.k=k)(hc:cells.toList=cs.flatten++rest)(hcap:L.cap * k≤cells.size)
  (hlen:cs.length=els.length) (hle:els.length≤L.cap) (h1: ∀l ∈ cs,l.length=k) (h2: ∀l ∈ els,l.length=k) (h3: ∀(j:Nat)(e:List AV)(d:List Value),els[j]?=some e→cs[j]?=some d→Reps w z [] e d∧ ∀u ∈ d,u.oneCell'=true):NdAt w z th L (.lst T k els):=by
 refine .inr ⟨hp,cells,(0,0),hb,fun i _=>by simp,hk,by rw[ho,hk];omega,hle,fun i e he=>⟨by rw[hk];exact h2 e (List.mem_of_getElem? he),fun j x hj=>?_⟩⟩
 have hi:i<cs.length:=by rw[hlen];exact(List.getElem?_eq_some_iff.1 he).1
 have hd:cs[i]?=some cs[i]:=by simp[hi]
 obtain⟨hr,h4⟩:=h3 i e _ he hd;obtain⟨y,hy,hr'⟩:=hr.get hj;refine⟨y,?_,hr',h4 y (List.mem_of_getElem? hy)⟩;have:=Iv h1 hd hy;rw[←Array.getElem?_toList,hc,ho,hk,Nat.zero_add,List.getElem?_append_left (List.getElem?_eq_some_iff.1 this).1];exact this
theorem Kv (h:Sim E N st th z a w){T e s1 b1 sz by':Nat}{z1:Option (List Value)}{kk:TK}{zs:List Value}{parts:Array (Nat×Operand)}(hT:AR P T=some ⟨.slice e,s1,b1,z1⟩)(hTe:AR P e=some ⟨kk,sz,by',some zs⟩){c':List AV}{els:List (List AV)}
  (hr:Reps w z [] c' ((parts.toList.map (·.2)).map a.eval)) (hels:Hc sz 0 (parts.toList.map (·.1)) c'=some els) (hle:els.length * sz≤16777216) {d:Option Nat} {t:TypeId} {pos:String} {aft:Array Edge} {g:Option (Nat×Bool)}:
  ∃w',(execOp a.eval ⟨d,.buildSlice T els.length parts,t,pos,aft,g⟩).run P w= .ok (.value (.slice (some ⟨w.heap.size,0,none⟩) els.length els.length)) w'∧Ext w w'∧Sim E N (BV st (.lst e sz els)) (th++[⟨w.heap.size,0,sz,els.length,false⟩]) z a w':=by
 obtain⟨v0,hz0⟩:=CI hTe;obtain⟨i,dd,hi1,hi2,hi3⟩:=Ax hTe;simp only[TY.mk.injEq] at hi3;have hsz0:(zeroValue e).run P w= .ok v0 w:=(hz0 w).1
 let zeros:Array Value:=(Array.range (els.length * sz)).map ((if els.length * sz=0 then #[] else v0.cells)[· % (if els.length * sz=0 then #[] else v0.cells).size]!)
 obtain⟨us,cs,g1,g2,g3,g4,g5,g6⟩:=Kj (parts.toList.map (·.1)) c' 0 _ els zeros hels hr (by simp[zeros]);simp only[Nat.zero_mul,List.take_zero,List.nil_append,Nat.zero_add] at g2
 have hzip:(parts.toList.map (·.1)).zip ((parts.toList.map (·.2)).map a.eval)=parts.toList.map fun p=>(p.1,a.eval p.2):=by
  rw[List.map_map,List.zip_map'];rfl
 rw[hzip] at g1;have hd:zeros.toList.drop (els.length * sz)=[]:=List.drop_of_length_le (by simp[zeros]);rw[hd] at g2
 have hus:us.size=els.length * sz:=by
  have:us.toList.length=cs.length * sz:=by
   rw[g2,List.append_nil];clear g1 g2 g3 g6
   induction cs with
   |nil=>simp
   |cons l r ih=>rw[List.flatten_cons,List.length_append,g4 l (by simp),ih (fun l hl=>g4 l (by simp[hl])),List.length_cons,Nat.add_mul];omega
  rw[g3] at this;simpa using this
 have ex:=Eb w (.cells us e);have le:Le w z (w.alloc (.cells us e)) z:=ex.le (fun _ _ h=>h) h.mem.zlt;have hS':=h.add ex ⟨w.heap.size,0,sz,els.length,false⟩ (.lst e sz els) (Nat.le_refl _) (by simp)
  (NdAt.of_rows (cs:=cs) (cells:=us) (rest:=[]) (FV _ _) rfl rfl rfl g2 (by simp[hus]) g3 (Nat.le_refl _) g4 g5 (fun j e d he hd=>⟨by simpa using(g6 j e d he hd).1.on le [],(g6 j e d he hd).2⟩))
 refine⟨w.alloc (.cells us e),?_,ex,hS'⟩;have hund:=AF (w:=w) (Aa hT rfl);have hsz:=Ai (w:=w) hTe;simp only[execOp,Instr.buildSlice,Sem.run_bind,hund,hsz,Result.andThen_ok];rw[if_neg (by omega)]
 have hfill: ∀C:Array Value,C=zeros→Instr.fill (fun i=>some (i * sz,sz)) C (parts.map fun p=>(p.1,a.eval p.2)).toList=some us:=by
  intro C hC;subst hC;simpa using g1
 by_cases h0:els.length * sz=0
 ·simp only[h0,if_true,Sem.run_bind,Sem.run_pure,Result.andThen_ok]
  have:=hfill ((Array.range 0).map ((#[]:Array Value)[· % (#[]:Array Value).size]!)) (by simp[zeros,h0]);simp only[this]
  rfl
 ·simp only[h0,if_false,Sem.run_bind,hsz0,Sem.run_pure,Result.andThen_ok]
  have:=hfill ((Array.range (els.length * sz)).map (v0.cells[· % v0.cells.size]!)) (by simp[zeros,h0]);simp only[this]
  rfl
theorem Kk (h:Sim E N st th z a w){T:TypeId}{len:Nat}{parts:Array (Nat×Operand)}{d:Option Nat}{t:TypeId}{pos:String}{aft:Array Edge}{g:Option (Nat×Bool)}{k:AV→AS→Prop}(hk:OU P E.G st (.buildSlice T len parts) k):
  M9 P E N ⟨d,.buildSlice T len parts,t,pos,aft,g⟩ a w th [] st.m k true:=by
 simp only[OU] at hk;split at hk
 ·rename_i e s1 b1 z1 c hT he
  split at hk
  ·rename_i sz by' zs c' st' hTe hf
   split at hk
   ·rename_i els hels
    obtain⟨⟨rfl,hle⟩,hk⟩:=hk;obtain⟨z',hz,hS,hr,hm,hn⟩:=F0 c h (BM h he) hf;obtain⟨w',g1,g2,g3⟩:=Kv hS (d:=d) (t:=t) (pos:=pos) (aft:=aft) (g:=g) hT hTe hr hels hle;exact⟨_,_,_,_,z',w',.inl g1,hk,g3,.s _ _ 0 _ _ 0 _ (hS.get_new _) rfl (Nat.le_refl _) (by simp) (fun _=>by simp),hm,fun _=>g2,BL _ _,g2.t⟩
   ·exact hk.elim
  ·exact hk.elim
 ·exact hk.elim
theorem MF (vs:List Value)(o:Nat)(cs:Array Value)(h:o+vs.length≤cs.size):(CH cs o vs).toList=cs.toList.take o++vs++cs.toList.drop (o+vs.length):=by
 apply List.ext_getElem?;intro i;rw[Array.getElem?_toList,Av vs o cs h]
 have hl:(cs.toList.take o).length=o:=by rw[List.length_take];simp;omega
 by_cases h1:i<o
 ·rw[if_neg (by omega),List.append_assoc,List.getElem?_append_left (by omega),List.getElem?_take_of_lt h1,Array.getElem?_toList]
 ·by_cases h2:i<o+vs.length
  ·rw[if_pos (by omega),List.append_assoc,List.getElem?_append_right (by omega),hl,List.getElem?_append_left (by omega)]
  ·rw[if_neg (by omega),List.getElem?_append_right (by simp[hl];omega),List.getElem?_drop]
   simp only[List.length_append,hl,Array.getElem?_toList]
   congr 1;omega
theorem GC {cs new:List AV}{off:Nat}(h:off+new.length≤cs.length):(splice cs off new).length=cs.length:=by
 unfold splice;simp;omega
theorem FP {T:TypeId}{y:TY}(hT:AR P T=some y){b o:Nat}{v:Value}(hs:v.cells.size=y.size){cells:Array Value}{S:TypeId}{fr:Nat×Nat}(hb:w.heap[b]?=some (.cells cells S fr))(hf:On cells fr)(ho:o+y.size≤cells.size)(h1: ∀u ∈ v.cells.toList,u.oneCell'=true):
  (Instr.storeAt T (.pointer (some ⟨b,o,none⟩)) v).run P w= .ok () (w.setCells b o v.cells.toList):=by
 have:=run_storeCells_cells (P:=P) b o v.cells.toList 0 w (fun j hj=>by
  simp at hj
  rw[As hb];simp[show o+j<cells.size by omega]) (fun j hj=>by
  simp at hj
  exact E_ hb hf (by omega)) h1
 simp only[Instr.storeAt,Instr.sureAddr,storeVar,Sem.run_bind,Sem.run_pure,Result.andThen_ok,Ai hT];rw[if_neg (by omega)];simpa using this
theorem Fr {x:AV}{v:Value}(hr:Rep w z th x v)(ho:x.okPart=true)(h:x.cells.all AV.cell1=true): ∀u ∈ v.cells.toList,u.oneCell'=true:=by
 intro u hu;have hc:=Bs hr ho;obtain⟨i,hi⟩:=List.mem_iff_getElem?.1 hu
 have hi':i<x.cells.length:=by rw[←hc.1];exact(List.getElem?_eq_some_iff.1 hi).1
 exact H9 (hc.2 i x.cells[i] u (by simp[hi']) hi) (QL h (show x.cells[i]?=some x.cells[i] by simp[hi']))
theorem RD (h:Sim E N st th z a w){T:TypeId}{X V:Operand}{d:Option Nat}{t:TypeId}{pos:String}{aft:Array Edge}{g:Option (Nat×Bool)}{k:AV→AS→Prop}(hk:OU P E.G st (.store T X V) k):
  M9 P E N ⟨d,.store T X V,t,pos,aft,g⟩ a w th (Ei st E.G (.store T X V)) st.m k false:=by
 simp only[OU] at hk;split at hk
 ·rename_i y n i off v hT hx hv
  obtain⟨L,hL,hp⟩:=(AP h hx).p_inv;have hr:=AP h hv
  have hts:Ei st E.G (.store T X V)=[n]:=by simp only[Ei,hx]
  rw[hts];split at hk
  ·rename_i T' c ho
   split at hk
   ·rename_i hc;obtain⟨rfl,h2,h3,h4,h5⟩:=hc
    obtain⟨L',k1,⟨hph,cells,fr,k2,k3,k4,k5⟩,k6⟩:=h.mem.nds _ _ ho;rw[hL] at k1;cases k1;obtain⟨k6,k7,k8⟩:=k6 hph;have hcs:=Bs hr h4
    have hsz:(a.eval V).cells.size=y.size:=by have:=hcs.1;rw[h2] at this;simpa using this
    have hcl:cells.size=c.length:=by simpa using k5.1
    have hone:=Fr hr h4 h5;obtain⟨q1,q2,q3⟩:=Az L.b (a.eval V).cells.toList off w cells T' fr k2;have le:Le w z (w.setCells L.b off (a.eval V).cells.toList) z:=⟨fun _ _ h=>h,fun t b hb=>q2 b (fun e=>by subst e;exact k7 t hb)⟩;refine⟨undef,.r undef,_,th,z,w.setCells L.b off (a.eval V).cells.toList,.inr ⟨?_,rfl⟩,hk,h.write ho hL hph (Ag _ _ _ _) q1 q2 ?_,.r _ _,rfl,(fun h=>by cases h),Later.refl _,⟨Nat.le_of_eq q1.symm,fun b _ hne=>q2 b (fun e=>hne n (by simp) L hL hph e.symm),Ag _ _ _ _⟩⟩
    ·have:=FP (P:=P) hT (b:=L.b) (o:=off) hsz k2 k3 (by omega) hone
     simp only[execOp,hp,k4,Nat.zero_mul,Nat.zero_add,Sem.run_bind,this,Result.andThen_ok]
     rfl
    ·refine⟨hph,_,fr,q3,fun i hi=>by rw[Ab] at hi;exact k3 i hi,k4,?_⟩
     rw[MF _ _ _ (by simp[hsz];omega)];have:=(Reps.splice (off:=off) k5 hcs).on le [];simpa using this
   ·exact hk.elim
  ·rename_i T' k' els ho
   split at hk
   ·rename_i v' st' hf
    obtain⟨z',hz,hS,hr',hm,hn⟩:=EZ v h hr hf;split at hk
    ·rename_i T2 k2' els2 e ho' he
     obtain⟨⟨h2,h3,h4,h5⟩,hk⟩:=hk;obtain⟨L',k1,k2,k6⟩:=hS.mem.nds _ _ ho';rw[hL] at k1;cases k1;obtain⟨_,g1,hnd,_⟩:=h.mem.nds _ _ ho;rw[hL] at g1;cases g1
     rcases hnd with ⟨_,hn0⟩ |⟨hph,cells,fr,g2,g3,g4,g5,g6,g7⟩
     ·subst hn0;simp at he
     obtain⟨k6,k7,k8⟩:=k6 hph;have hcs:=Bs hr' h4
     have hsz:(a.eval V).cells.size=y.size:=by have:=hcs.1;rw[h2] at this;simpa using this
     have hone:=Fr hr' h4 h5;have hi:i<els.length:=(List.getElem?_eq_some_iff.1 he).1;have hel:=(g7 i e he).1
     have hbound:L.o+i * L.k+L.k≤cells.size:=by
      have:(i+1) * L.k≤L.cap * L.k:=Nat.mul_le_mul_right _ (by omega);rw[Nat.add_mul] at this;omega
     obtain⟨q1,q2,q3⟩:=Az L.b (a.eval V).cells.toList (L.o+i * L.k+off) w cells T' fr g2;have le:Le w z' (w.setCells L.b (L.o+i * L.k+off) (a.eval V).cells.toList) z':=⟨fun _ _ h=>h,fun t b hb=>q2 b (fun e=>by subst e;exact k7 t hb)⟩;have le0:Le w z w z':=⟨hz,fun _ _ _=>rfl⟩;refine⟨undef,.r undef,_,th,z',w.setCells L.b (L.o+i * L.k+off) (a.eval V).cells.toList,.inr ⟨?_,rfl⟩,hk,hS.write ho' hL hph (Ag _ _ _ _) q1 q2 ?_,.r _ _,hm,(fun h=>by cases h),Later.refl _,⟨Nat.le_of_eq q1.symm,fun b _ hne=>q2 b (fun e=>hne n (by simp) L hL hph e.symm),Ag _ _ _ _⟩⟩
     ·have:=FP (P:=P) hT (b:=L.b) (o:=L.o+i * L.k+off) hsz g2 g3 (by omega) hone
      simp only[execOp,hp,Sem.run_bind,this,Result.andThen_ok]
      rfl
     ·have hvl:(a.eval V).cells.toList.length=y.size:=by simpa using hsz
      refine .inr ⟨hph,_,fr,q3,fun i hi=>by rw[Ab] at hi;exact g3 i hi,g4,by rw[Ab];exact g5,by simpa using g6,fun i' e' he'=>?_⟩
      by_cases hii:i=i'
      ·subst hii
       rw[List.getElem?_set_self hi] at he';cases he'
       have hl:(splice e off v'.cells).length=L.k:=by rw[GC (by rw[h2];omega)];exact hel
       refine⟨hl,fun j x hj=>?_⟩
       have hjk:j<L.k:=by rw[←hl];exact(List.getElem?_eq_some_iff.1 hj).1
       rw[Av _ _ _ (by rw[hvl];omega)]
       by_cases hin:off≤j∧j<off+y.size
       ·rw[if_pos (by rw[hvl];omega)]
        have hjx:v'.cells[j - off]?=some x:=by
         unfold splice at hj;rw[List.append_assoc,List.getElem?_append_right (by rw[List.length_take];omega),List.length_take,show min off e.length=off by omega,List.getElem?_append_left (by rw[h2];omega)] at hj;exact hj
        obtain⟨u,hu,hru⟩:=hcs.get hjx;refine⟨u,?_,by simpa using hru.on le [],hone u (List.mem_of_getElem? hu)⟩;rw[show L.o+i * L.k+j - (L.o+i * L.k+off)=j - off by omega];exact hu
       ·rw[if_neg (by rw[hvl];omega)]
        have hjx:e[j]?=some x:=by
         unfold splice at hj
         by_cases hlt:j<off
         ·rw[List.append_assoc,List.getElem?_append_left (by rw[List.length_take];omega),List.getElem?_take_of_lt hlt] at hj;exact hj
         ·rw[List.getElem?_append_right (by rw[List.length_append,List.length_take,h2];omega),List.getElem?_drop,List.length_append,List.length_take,h2] at hj
          rw[←hj];congr 1;omega
        obtain⟨u,hu,hru,h1u⟩:=(g7 i e he).2 j x hjx;exact⟨u,hu,by simpa using(hru.on' le0).on le [],h1u⟩
      ·rw[List.getElem?_set_ne hii] at he'
       obtain⟨hl,hc⟩:=g7 i' e' he';refine⟨hl,fun j x hj=>?_⟩
       have hjk:j<L.k:=by rw[←hl];exact(List.getElem?_eq_some_iff.1 hj).1
       obtain⟨u,hu,hru,h1u⟩:=hc j x hj;refine⟨u,?_,by simpa using(hru.on' le0).on le [],h1u⟩;rw[Av _ _ _ (by rw[hvl];omega),if_neg]
       ·exact hu
       ·rw[hvl]
        rintro⟨a1,a2⟩
        rcases Nat.lt_or_ge i i' with hlt |hge
        ·have:(i+1) * L.k≤i' * L.k:=Nat.mul_le_mul_right _ hlt
         rw[Nat.add_mul] at this;omega
        ·have:(i'+1) * L.k≤i * L.k:=Nat.mul_le_mul_right _ (by omega)
         rw[Nat.add_mul] at this;omega
    ·exact hk.elim
   ·exact hk.elim
  ·exact hk.elim
 ·exact hk.elim
theorem EL (h:Sim E N st th z a w){T:TypeId}{X V:Operand}{d:Option Nat}{t:TypeId}{pos:String}{aft:Array Edge}{g:Option (Nat×Bool)}{k:AV→AS→Prop}(hk:OU P E.G st (.makeSlice T X V) k):
  M9 P E N ⟨d,.makeSlice T X V,t,pos,aft,g⟩ a w th [] st.m k true:=by
 simp only[OU] at hk;split at hk
 ·rename_i e s1 b1 z1 k1 n k2 n' hT hx hv
  split at hk
  ·rename_i kk sz bytes zs hTe
   obtain⟨⟨rfl,h0,h63,hb,hsz,hzl,hz1⟩,hk⟩:=hk;have e1:=(AP h hx).r_inv;have e2:=(AP h hv).r_inv;obtain⟨v0,hz0⟩:=CI hTe;obtain⟨i,dd,hi1,hi2,hi3⟩:=Ax hTe;simp only[TY.mk.injEq] at hi3;obtain⟨row,hrow⟩: ∃row:Array Value,row=(Array.range (n.toNat * sz)).map ((if n.toNat * sz=0 then #[] else v0.cells)[· % (if n.toNat * sz=0 then #[] else v0.cells).size]!):=⟨_,rfl⟩;have ex:=Eb w (.cells row e)
   have hv0:v0.cells.size=sz:=by have:=(hz0 w).2;rw[←hzl,←this];simp
   have hS':=h.add ex ⟨w.heap.size,0,sz,n.toNat,false⟩ (.lst e sz (List.replicate n.toNat (zs.map .r))) (Nat.le_refl _) (by simp) (by
    refine .inr ⟨rfl,row,(0,0),FV _ _,fun i _=>by simp,rfl,by simp[hrow],by simp,fun i el he=>?_⟩
    have hi:i<n.toNat:=by have:=(List.getElem?_eq_some_iff.1 he).1;simpa using this
    rw[List.getElem?_replicate,if_pos hi] at he;cases he;refine⟨by simpa using hzl,fun j x hj=>?_⟩;simp only[List.getElem?_map,Option.map_eq_some_iff] at hj;obtain⟨u,hu,rfl⟩:=hj
    have hj:j<sz:=by rw[←hzl];exact(List.getElem?_eq_some_iff.1 hu).1
    have hlt:i * sz+j<n.toNat * sz:=by
     have:(i+1) * sz≤n.toNat * sz:=Nat.mul_le_mul_right _ hi;rw[Nat.add_mul] at this;omega
    refine⟨u,?_,.r _ _,List.all_eq_true.1 hz1 u (List.mem_of_getElem? hu)⟩
    have hne: ¬n.toNat * sz=0:=by omega
    show row[0+i * sz+j]?=some u;rw[hrow,Nat.zero_add];simp only[hne,if_false,Array.getElem?_map];rw[Array.getElem?_eq_getElem (by simpa using hlt)];simp only[Array.getElem_range,Option.map_some,hv0,Option.some.injEq];rw[show(i * sz+j) % sz=j by rw[Nat.mul_comm,Nat.mul_add_mod,Nat.mod_eq_of_lt hj]]
    have:v0.cells[j]?=some u:=by rw[←(hz0 w).2] at hu;simpa using hu
    obtain⟨hlt',hg⟩:=Array.getElem?_eq_some_iff.1 this;rw[getElem!_pos v0.cells j hlt']
    exact hg)
   refine⟨.slice (some ⟨w.heap.size,0,none⟩) n.toNat n.toNat,_,_,_,z,_,.inl ?_,hk,hS',.s _ _ 0 _ _ 0 _ (h.get_new _) rfl (Nat.le_refl _) (by simp) (fun _=>by simp),rfl,fun _=>ex,BL _ _,ex.t⟩;have hund:=AF (w:=w) (Aa hT rfl);have hinfo:=Bw (w:=w) hi1;have hsize:=Ai (w:=w) hTe;have hwrap:IntKind.i64.wrap n=n:=Go.IntWalk.i64_in n ⟨by omega,h63⟩
   have hbytes:(i.bytes:Int) * n≤281474976710656:=by rw[←hi3.2.2.1,Int.mul_comm];exact hb
   simp only[execOp,e1,e2,Instr.makeSlice,Sem.run_bind,hund,asInt,asIntOf,Sem.run_pure,Result.andThen_ok,hinfo,hwrap]
   have c1: ¬n<0:=by omega
   have c2: ¬(2 ^ 48<(i.bytes:Int) * n):=by omega
   have c3: ¬n>n:=by omega
   simp only[c1,c2,c3,decide_false,Bool.or_false,Bool.false_or,if_false,gt_iff_lt,Bool.false_eq_true,Sem.run_bind,run_askRoom,hsize,Result.andThen_ok]
   by_cases hn0:n.toNat * sz=0
   ·simp only[hn0,if_true,Sem.run_bind,Sem.run_pure,Result.andThen_ok]
    simp only[hn0,if_true] at hrow;rw[←hrow]
    rfl
   ·simp only[hn0,if_false,Sem.run_bind,(hz0 w).1,Sem.run_pure,Result.andThen_ok]
    simp only[hn0,if_false] at hrow;rw[←hrow]
    rfl
  ·exact hk.elim
 ·exact hk.elim
end
end Go.AM
namespace Go.AM
open Go
section
variable {P:Program} {E:Env} {N:Nat} {st:AS} {th:List NLoc} {z:AT} {a:Act} {w:World} {o:List (Nat×Nd)} {n:Nat}
def FreeB (E:Env)(o:List (Nat×Nd))(th:List NLoc)(z:AT)(w:World)(b:Nat):Prop:= ∃U,UlOK U E o th z w∧ ∀i,¬U i b
theorem Mem.freeB (h:Mem E o n th z w){i:Nat}{nd:Nd}{L:NLoc}(hi:lk o i=some nd)(hL:th[i]?=some L)(hp:L.ph=false){o':List (Nat×Nd)}(hs: ∀i x,lk o' i=some x→lk o i=some x):FreeB E o' th z w L.b:=
 let ⟨U,hU⟩:=h.uls;⟨U,⟨fun i T k els op L hi hL=>hU.at_ i T k els op L (hs _ _ hi) hL,hU.lt,hU.nz,hU.ow,hU.inj,fun i nd L j hi=>hU.kn i nd L j (hs _ _ hi)⟩,fun j=>hU.kn i nd L j hi hL hp⟩
theorem FreeB.other {b:Nat}(h:FreeB E o th z w b)(hm: ∀i T k els op L,lk o i=some (.ul T k els op)→th[i]?=some L→els=[]∨L.b≠b){w':World}(hs:w'.heap.size=w.heap.size)(hsame: ∀b',b'≠b→w'.heap[b']?=w.heap[b']?)(hz: ∀t,¬z t b):FreeB E o th z w' b:=by
 obtain⟨U,hU,hb⟩:=h
 have hne: ∀i b',U i b'→b'≠b:=fun i b' hb' e=>by subst e;exact hb i hb'
 have le:Le w z w' z:=⟨fun _ _ h=>h,fun t b' hb'=>hsame b' (fun e=>by subst e;exact hz t hb')⟩;refine⟨U,⟨fun i T k els op L hi hL=>?_,fun i b hb=>by rw[hs];exact hU.lt i b hb,hU.nz,hU.ow,hU.inj,hU.kn⟩,hb⟩;have:=(hU.at_ i T k els op L hi hL).on le (fun b' hb'=>hsame b' (hne i b' hb')) ((hm i T k els op L hi hL).imp id (fun h=>hsame _ h)) [];simpa using this
theorem Mem.other (h:Mem E o n th z w){w':World}{b:Nat}(hy:Sys w w')(hs:w'.heap.size=w.heap.size)(hsame: ∀b',b'≠b→w'.heap[b']?=w.heap[b']?)(hz: ∀t,¬z t b)(hn: ∀i nd L,lk o i=some nd→th[i]?=some L→L.ph=false→L.b≠b)(hb:E.own b∨E.w0.heap.size≤b)(hU:FreeB E o th z w b):Mem E o n th z w':=by
 have le:Le w z w' z:=⟨fun _ _ h=>h,fun t b' hb'=>hsame b' (fun e=>by subst e;exact hz t hb')⟩;refine⟨h.len,fun j x hj=>?_,h.inj,fun t b hb=>by rw[hs];exact h.zlt t b hb,by rw[hs];exact h.grow,fun b' hb' ho=>?_,h.zin,h.zout,h.zb,fun g cs hg=>?_,h.pre,h.sys.trans hy,?_⟩
 ·obtain⟨M,k1,k2,k3⟩:=h.nds j x hj
  exact⟨M,k1,by simpa using k2.on le (fun hp=>hsame _ (hn j x M hj k1 hp)) [],fun hp=>⟨by rw[hs];exact(k3 hp).1,(k3 hp).2⟩⟩
 ·have:b'≠b:=fun e=>by
   subst e
   rcases hb with hb |hb
   ·exact ho hb
   ·omega
  exact(hsame b' this).trans (h.frame b' hb' ho)
 ·obtain⟨k1,k2⟩:=h.globs g cs hg
  exact⟨k1,fun j v hv=>(B7 (le.same _ _ k1) _).trans (k2 j v hv)⟩
 ·obtain⟨U,hU',_⟩:=hU.other (w':=w') (fun i T k els op L hi hL=>by
   obtain⟨M,k1,k2,k3⟩:=h.nds i _ hi;rw[hL] at k1;cases k1
   exact k2.ul_nil.imp id (fun hp=>hn i _ L hi hL hp)) hs hsame hz
  exact⟨U,hU'⟩
theorem Mem.know (h:Mem E o n th z w)(L:NLoc)(nd:Nd)(hb:L.ph=false→L.b<w.heap.size∧(∀t,¬z t L.b)∧(E.own L.b∨E.w0.heap.size≤L.b))(hne: ∀i nd M,lk o i=some nd→th[i]?=some M→M.ph=false→L.ph=false→M.b≠L.b)(hn:NdAt w z (th++[L]) L nd)(hU:L.ph=true∨FreeB E o th z w L.b)(hu: ∀T k els op,nd= .ul T k els op→UlAt w z (th++[L]) (fun _=>False) L els op:=by intro _ _ _ _ h;cases h):Mem E ((n,nd)::o) (n+1) (th++[L]) z w:=by
 have l:Le w z w z:=Le.refl _ _
 have hget:(th++[L])[n]?=some L:=by rw[←h.len];simp
 refine⟨by simp[h.len],fun i y hi=>?_,fun i j x y M M' hi hj hM hM' hp hp' hbb=>?_,h.zlt,h.grow,h.frame,h.zin,h.zout,h.zb,h.globs,fun i L hi=>Ae _ (h.pre i L hi),h.sys,?_⟩
 ·simp only[lk] at hi
  by_cases he:n=i
  ·subst he
   rw[if_pos rfl] at hi;cases hi;exact⟨L,hget,hn,hb⟩
  ·rw[if_neg he] at hi
   obtain⟨M,h1,h2,h3⟩:=h.nds i y hi;exact⟨M,Ae _ h1,h2.on l (fun _=>rfl) [L],h3⟩
 ·have old: ∀i x M,lk ((n,nd)::o) i=some x→(th++[L])[i]?=some M→M.ph=false→(i=n∧M=L)∨(∃x,lk o i=some x∧th[i]?=some M∧(L.ph=false→M.b≠L.b)):=by
   intro i x M hi hM hp;simp only[lk] at hi
   by_cases he:n=i
   ·subst he;rw[hget] at hM;cases hM;exact .inl ⟨rfl,rfl⟩
   ·rw[if_neg he] at hi
    obtain⟨M',h1,_,h3⟩:=h.nds i x hi;have:=Ae [L] h1;rw[this] at hM;cases hM;exact .inr ⟨x,hi,h1,hne i x _ hi h1 hp⟩
  rcases old i x M hi hM hp with ⟨rfl,rfl⟩ |⟨x1,a1,b1,c1⟩<;>rcases old j y M' hj hM' hp' with ⟨rfl,rfl⟩ |⟨x2,a2,b2,c2⟩
  ·rfl
  ·exact(c2 hp hbb.symm).elim
  ·exact(c1 hp' hbb).elim
  ·exact h.inj i j x1 x2 M M' a1 a2 b1 b2 hp hp' hbb
 ·have hU': ∃U,UlOK U E o th z w∧(L.ph=false→ ∀i,¬U i L.b):=by
   rcases hU with hU |⟨U,h1,h2⟩
   ·obtain⟨U,h1⟩:=h.uls;exact⟨U,h1,fun hp=>by rw[hU] at hp;cases hp⟩
   ·exact⟨U,h1,fun _=>h2⟩
  obtain⟨U,hU,hf⟩:=hU';refine⟨fun i b=>i≠n∧U i b,fun i T k els op M hi hM=>?_,fun i b hb=>hU.lt i b hb.2,fun i b hb=>hU.nz i b hb.2,fun i b hb=>hU.ow i b hb.2,fun i j b hb hc=>hU.inj i j b hb.2 hc.2,fun i nd' M j hi hM hp hb=>?_⟩
  ·simp only[lk] at hi
   by_cases he:n=i
   ·subst he
    rw[if_pos rfl] at hi;cases hi;rw[hget] at hM;cases hM;obtain⟨F,h1,h2,h3⟩:=hu T k els op rfl;exact⟨F,fun i j b hb=>(h1 i j b hb).elim,h2,h3⟩
   ·rw[if_neg he] at hi
    obtain⟨M',k1,k2,k3⟩:=h.nds i _ hi;have:=Ae [L] k1;rw[this] at hM;cases hM;obtain⟨F,h1,h2,h3⟩:=(hU.at_ i T k els op M hi k1).on l (fun _ _=>rfl) (.inr rfl) [L];exact⟨F,fun i' j b hb=>⟨Ne.symm he,h1 i' j b hb⟩,h2,h3⟩
  ·simp only[lk] at hi
   by_cases he:n=i
   ·subst he
    rw[hget] at hM;cases hM;exact hf hp j hb.2
   ·rw[if_neg he] at hi
    obtain⟨M',k1,k2,k3⟩:=h.nds i _ hi;have:=Ae [L] k1;rw[this] at hM;cases hM;exact hU.kn i _ _ j hi k1 hp hb.2
theorem Sim.know (h:Sim E N st th z a w)(L:NLoc)(nd:Nd)(hb:L.ph=false→L.b<w.heap.size∧(∀t,¬z t L.b)∧(E.own L.b∨E.w0.heap.size≤L.b))(hne: ∀i nd M,lk st.o i=some nd→th[i]?=some M→M.ph=false→L.ph=false→M.b≠L.b)(hn:NdAt w z (th++[L]) L nd)(hU:L.ph=true∨FreeB E st.o th z w L.b)(hu: ∀T k els op,nd= .ul T k els op→UlAt w z (th++[L]) (fun _=>False) L els op:=by intro _ _ _ _ h;cases h):
  Sim E N (BV st nd) (th++[L]) z a w:=
 ⟨h.mem.know L nd hb hne hn hU hu,h.size,h.dfs,fun i x hi=>let ⟨y,hy,hr⟩:=h.slots i x hi;⟨y,hy,hr.on (Le.refl _ _) [L]⟩⟩
theorem Sim.other (h:Sim E N st th z a w){w':World}{b:Nat}(hy:Sys w w')(hs:w'.heap.size=w.heap.size)(hsame: ∀b',b'≠b→w'.heap[b']?=w.heap[b']?)(hz: ∀t,¬z t b)(hn: ∀i nd L,lk st.o i=some nd→th[i]?=some L→L.ph=false→L.b≠b)(hb:E.own b∨E.w0.heap.size≤b)(hU:FreeB E st.o th z w b):Sim E N st th z a w':=
 ⟨h.mem.other hy hs hsame hz hn hb hU,h.size,h.dfs,fun i x hi=>let ⟨y,hy,hr⟩:=h.slots i x hi;⟨y,hy,hr.on' ⟨fun _ _ h=>h,fun t b' hb'=>hsame b' (fun e=>by subst e;exact hz t hb')⟩⟩⟩
theorem EQ (h:Sim E N st th z a w){T:TypeId}{y:TY}(hT:AR P T=some y){x:AV}{v:Value}(hr:Rep w z th x v){k:Nat}(hk:0<k){new:List (List AV)}(hq:LH st k y.k x=some new):
  ∃news:List Value,Src P k T v new.length news w∧(∀e ∈ new,e.length=k)∧ ∀(i:Nat)(e:List AV)(j:Nat)(x:AV),new[i]?=some e→e[j]?=some x→ ∃y,news[i * k+j]?=some y∧Rep w z [] x y∧y.oneCell'=true:=by
 unfold LH at hq;split at hq
 ·rename_i e' hk'
  obtain⟨ad,c,rfl,hc,hcell⟩:=GN h hr hq
  by_cases hne:new=[]
  ·subst hne
   refine⟨[],?_,by simp,fun i e j x he=>by simp at he⟩
   cases ad with
   |none=>exact Src.ofNil w (Aa hT hk') c
   |some ad=>exact Src.ofSlice w (Aa hT hk') ad 0 c [] (by simp) (fun j u hu=>by simp at hu) (by simp)
  ·rcases hcell with h0 |⟨b,o,rfl,hlt,_,hcell⟩
   ·exact(hne h0).elim
   ·have hall: ∀q,q<new.length * k→ ∃u,w.cell? ⟨b,o+q,none⟩=some u∧u.oneCell'=true:=by
     intro q hq;have hi:q / k<new.length:=Nat.div_lt_of_lt_mul (by rw[Nat.mul_comm];exact hq);obtain⟨h1,h2⟩:=hcell (q / k) new[q / k] (by simp[hi])
     have hj:q % k<new[q / k].length:=by rw[h1];exact Nat.mod_lt _ hk
     obtain⟨u,hu,_,h3⟩:=h2 (q % k) new[q / k][q % k] (by simp[hj]);refine⟨u,?_,h3⟩;rw[show o+q / k * k+q % k=o+q by rw[Nat.add_assoc,Nat.mul_comm,Nat.div_add_mod]] at hu;exact hu
    refine⟨(List.range (new.length * k)).map fun q=>(w.cell? ⟨b,o+q,none⟩).getD undef,?_,fun e he=>?_,fun i e j x he hx=>?_⟩
    ·refine Src.ofSlice w (Aa hT hk') _ _ c _ (by simp) (fun j u hu=>?_) (fun u hu=>?_)
     ·have hj:j<new.length * k:=by have:=(List.getElem?_eq_some_iff.1 hu).1;simpa using this
      obtain⟨u',h1,_⟩:=hall j hj;simp only[List.getElem?_map,List.getElem?_range hj,Option.map_some,Option.some.injEq,h1,Option.getD_some] at hu;subst hu;rw[C2];exact h1
     ·obtain⟨q,hq,rfl⟩:=List.mem_map.1 hu
      obtain⟨u',h1,h2⟩:=hall q (by simpa using hq);simp[h1,h2]
    ·obtain⟨i,hi⟩:=List.mem_iff_getElem?.1 he
     exact(hcell i e hi).1
    ·obtain⟨h1,h2⟩:=hcell i e he
     obtain⟨u,hu,hr',h3⟩:=h2 j x hx;refine⟨u,?_,hr',h3⟩;have hi:i<new.length:=(List.getElem?_eq_some_iff.1 he).1
     have hj:j<k:=by rw[←h1];exact(List.getElem?_eq_some_iff.1 hx).1
     have:(i+1) * k≤new.length * k:=Nat.mul_le_mul_right _ hi;rw[Nat.add_mul] at this;rw[List.getElem?_map,List.getElem?_range (by omega)];simp[←Nat.add_assoc,hu]
 ·rename_i hk'
  split at hq
  ·rename_i s
   split at hq
   ·rename_i hk1;subst hk1;cases hq
    obtain rfl:=hr.r_inv
    have hl:(s.data.toList.map AC).length=s.size:=by rw[List.length_map,Array.length_toList];rfl
    refine⟨byteCells s,by rw[hl];exact Src.ofString w (EA hT hk') s,fun e he=>?_,fun i e j x he hx=>?_⟩
    ·obtain⟨b,_,rfl⟩:=List.mem_map.1 he;rfl
    ·rw[List.getElem?_map,Option.map_eq_some_iff] at he
     obtain⟨u,hu,rfl⟩:=he
     cases j with
     |succ j=>simp[AC] at hx
     |zero=>
      simp[AC] at hx;subst hx;refine⟨.int .u8 u.toNat,?_,.r _ _,rfl⟩;simp[byteCells,hu]
   ·cases hq
  ·cases hq
 ·cases hq
theorem Cp (w:World)(x:Obj):Ext w (w.drew.alloc x):=⟨by show w.heap.size≤(w.heap.push x).size;simp,fun b hb=>by show(w.heap.push x)[b]?=_;simp[Array.getElem?_push,show b≠w.heap.size by omega],⟨rfl,rfl,rfl⟩⟩
theorem SI (w:World)(x:Obj):(w.drew.alloc x).heap[w.heap.size]?=some x:=by show(w.heap.push x)[w.heap.size]?=_;simp
theorem EY (w:World)(need old:Nat)(e:TypeId):need≤grownCap w need old e:=by unfold grownCap Question.cut;exact Nat.le_add_right _ _
theorem Cy (z:Array Value)(n:Nat):(Builtin.zeroCells z n).size=n * z.size:=by simp[Builtin.zeroCells]
theorem IG (h:Sim E N st th z a w){e:Nat}{k:Nat}{olds news:List Value}{els0 new:List (List AV)}{cap:Nat}(zc:Array Value)(hz:zc.size=k)(hcap:els0.length+new.length≤cap)
  (h0: ∀(i:Nat)(e:List AV),els0[i]?=some e→e.length=k∧ ∀(j:Nat)(x:AV),e[j]?=some x→ ∃y,olds[i * k+j]?=some y∧Rep w z [] x y∧y.oneCell'=true) (hl0:olds.length=els0.length * k) (hl1:news.length=new.length * k)
  (h1: ∀e ∈ new,e.length=k) (h2: ∀(i:Nat)(e:List AV)(j:Nat)(x:AV),new[i]?=some e→e[j]?=some x→ ∃y,news[i * k+j]?=some y∧Rep w z [] x y∧y.oneCell'=true):
  Sim E N (BV st (.lst e k (els0++new))) (th++[⟨w.heap.size,0,k,cap,false⟩]) z a (w.drew.alloc (.cells ((olds++news).toArray++Builtin.zeroCells zc (cap - (els0.length+new.length))) e)):=by
 have ex:=Cp w (.cells ((olds++news).toArray++Builtin.zeroCells zc (cap - (els0.length+new.length))) e);have le:Le w z _ z:=ex.le (fun _ _ h=>h) h.mem.zlt;refine h.add ex ⟨w.heap.size,0,k,cap,false⟩ _ (Nat.le_refl _) (by show w.heap.size<(w.heap.push _).size;simp) (.inr ⟨rfl,_,(0,0),SI _ _,fun i _=>by simp,rfl,?_,by simpa using hcap,fun i el he=>?_⟩)
 ·simp only[Nat.zero_add,Array.size_append,List.size_toArray,List.length_append,hl0,hl1,Cy,hz]
  rw[←Nat.add_mul,←Nat.add_mul];exact Nat.mul_le_mul_right _ (by omega)
 ·rw[List.getElem?_append] at he
  have key:el.length=k∧ ∀(j:Nat)(x:AV),el[j]?=some x→ ∃y,(olds++news)[i * k+j]?=some y∧Rep w z [] x y∧y.oneCell'=true:=by
   split at he
   ·rename_i hi
    obtain⟨g1,g2⟩:=h0 i el he;refine⟨g1,fun j x hj=>?_⟩;obtain⟨y,hy,hr⟩:=g2 j x hj;exact⟨y,by rw[List.getElem?_append_left (List.getElem?_eq_some_iff.1 hy).1];exact hy,hr⟩
   ·rename_i hi
    refine⟨h1 el (List.mem_of_getElem? he),fun j x hj=>?_⟩;obtain⟨y,hy,hr⟩:=h2 _ el j x he hj;refine⟨y,?_,hr⟩;have:els0.length * k≤i * k:=Nat.mul_le_mul_right _ (by omega);rw[List.getElem?_append_right (by rw[hl0];omega),hl0,show i * k+j - els0.length * k=(i - els0.length) * k+j by rw[Nat.sub_mul];omega];exact hy
  obtain⟨g1,g2⟩:=key;refine⟨g1,fun j x hj=>?_⟩;obtain⟨y,hy,hr,ho⟩:=g2 j x hj;refine⟨y,?_,hr.on' le,ho⟩;simp only[Nat.zero_add];rw[Array.getElem?_append_left (by simpa using(List.getElem?_eq_some_iff.1 hy).1)];simpa using hy
theorem NS (h:Sim E N st th z a w){T T' e t:TypeId}{i:TypeInfo}{v0 v2:Value}{sz bytes:Nat}{new:List (List AV)}{news:List Value}(hu:P.underlying T=some (.slice e))(hi1:P.info? e=some i)(hv0:i.zero=some v0)(hsz:i.size=sz)(hby':i.bytes=bytes)(hz0:v0.cells.size=sz)
  (hby:new.length * bytes≤140737488355328) (h63:new.length≤9223372036854775807) (hs:Src P sz T' v2 new.length news w) (hel: ∀e ∈ new,e.length=sz)
  (hcell: ∀(i:Nat)(e:List AV)(j:Nat)(x:AV),new[i]?=some e→e[j]?=some x→ ∃y,news[i * sz+j]?=some y∧Rep w z [] x y∧y.oneCell'=true):
  ∃v L w',(Builtin.append_ #[T,T'] t #[.slice none 0 0,v2]).run P w= .ok v w'∧Sim E N (BV st (.lst e sz new)) (th++[L]) z a w'∧Rep w' z (th++[L]) (.s st.n 0 new.length) v∧Ext w w'∧(L.ph=false→w.heap.size≤L.b):=by
 by_cases hn:new=[]
 ·subst hn
  have hnl:news=[]:=by have:=hs.newsLen;simpa using this
  subst hnl;exact⟨.slice none 0 0,_,w,run_append_nothing w T T' t e i hu hi1 none 0 0 (Nat.le_refl _) v2 (by rw[hsz];exact hs),h.know ⟨0,0,0,0,true⟩ _ (fun hp=>by cases hp) (fun _ _ _ _ _ _ hp=>by cases hp) (.inl ⟨rfl,rfl⟩) (.inl rfl),.sn _ _ 0 ⟨0,0,0,0,true⟩ (h.get_new _) rfl,Ext.refl w,fun hp=>by cases hp⟩
 ·have hpos:0<new.length:=List.length_pos_iff.2 hn
  have hrun:=run_append_grow_src w T T' t e i v0 hu hi1 hv0 none 0 0 [] (run_firstCells_none _ _ _ _ _) v2 new.length news (by rw[hsz];exact hs) (by omega) (by omega) (by rw[hby'];exact growslice_fits (by omega) (by simpa using hby));have hS:=IG h (e:=e) (k:=sz) (olds:=[]) (news:=news) (els0:=[]) (new:=new) (cap:=grownCap w (0+new.length) 0 e) v0.cells hz0 (by simpa using EY w (0+new.length) 0 e) (fun i e he=>by simp at he) (by simp) hs.newsLen hel hcell;simp only[List.nil_append,List.length_nil,Nat.zero_add] at hS hrun;have:=EY w new.length 0 e;exact⟨_,_,_,hrun,hS,.s _ _ 0 _ _ 0 ⟨w.heap.size,0,sz,grownCap w new.length 0 e,false⟩ (h.get_new _) rfl this (by simp) (fun _=>by simp),Cp _ _,fun _=>Nat.le_refl _⟩
set_option maxRecDepth 10000 in
theorem I2 {T T' e t:TypeId}{i:TypeInfo}{v0:Value}{kd:IntKind}(hu:P.underlying T=some (.slice e))(hk:P.underlying T'=some (.int kd))(hi:P.info? e=some i)(hz:i.zero=some v0)(n:Nat)(hpos:0<n)(hs:0<i.size)(h63:(n:Int)≤9223372036854775807)(hb:n * i.bytes≤140737488355328):
  (Builtin.append_ #[T,T'] t #[.slice none 0 0,.int .i64 n]).run P w= .ok (.slice (some ⟨w.heap.size,0,none⟩) n (grownCap w n 0 e)) (w.drew.alloc (.cells (Builtin.zeroCells v0.cells n++Builtin.zeroCells v0.cells (grownCap w n 0 e - n)) e)):=by
 have hw:IntKind.i64.wrap (n:Int)=n:=Go.IntWalk.i64_in n ⟨by omega,h63⟩
 have h0: ¬((n:Int)<0):=by omega
 have h1: ¬(281474976710656<(n:Int) * (i.bytes:Int)):=by
  have:(n:Int) * (i.bytes:Int)=((n * i.bytes:Nat):Int):=by simp
  rw[this];omega
 have h2: ¬n=0:=by omega
 have h3: ¬(n * i.size=0):=by
  intro h;rcases Nat.mul_eq_zero.1 h with h |h<;>omega
 have h4: ¬(9223372036854775807<(n:Int)):=by omega
 have h5: ¬(281474976710656<Builtin.nextslicecap n 0 * i.bytes):=by
  have:=growslice_fits (need:=n) (old:=0) hpos hb;omega
 simp[Builtin.append_,AF hu,AF hk,sizeOf,typeInfo,zeroValue,hi,hz,asInt,asIntOf,hw,h0,h1,h2,h3,h4,h5,Question.forced,newRow,grownCap,Builtin.firstCells]
theorem JB (h:Sim E N st th z a w){T T' e t:TypeId}{y0:Nat}{y1:Nat}{y2:Option (List Value)}(hT:AR P T=some ⟨.slice e,y0,y1,y2⟩){i:TypeInfo}{v0 v1 v2:Value}{sz bytes n lo len:Nat}{els new:List (List AV)}{news:List Value}(hi1:P.info? e=some i)(hv0:i.zero=some v0)(hsize:i.size=sz)(hiby:i.bytes=bytes)(hz0:v0.cells.size=sz)(hsz:0<sz)
  (ho:lk st.o n=some (.lst e sz els)) (hle:lo+len≤els.length) (hby:(len+new.length) * bytes≤140737488355328) (h63:len+new.length≤9223372036854775807) (hr1:Rep w z th (.s n lo len) v1) (hs:Src P sz T' v2 new.length news w) (hel: ∀e ∈ new,e.length=sz)
  (hcell: ∀(i:Nat)(e:List AV)(j:Nat)(x:AV),new[i]?=some e→e[j]?=some x→ ∃y,news[i * sz+j]?=some y∧Rep w z [] x y∧y.oneCell'=true):
  ∃v L w',(Builtin.append_ #[T,T'] t #[v1,v2]).run P w= .ok v w'∧Sim E N (BV {st with o:=rm st.o n} (.lst e sz ((els.drop lo).take len++new))) (th++[L]) z a w'∧Rep w' z (th++[L]) (.s st.n 0 (len+new.length)) v∧ExtT th [n] w w'∧(L.ph=false→w.heap.size≤L.b∨ ∃M,th[n]?=some M∧M.ph=false∧L.b=M.b):=by
 have hu:=Aa hT rfl
 have hl0:((els.drop lo).take len).length=len:=by simp;omega
 have hsrc0:LH st sz (TK.slice e) (.s n lo len)=some ((els.drop lo).take len):=by
  simp only[LH,CL,ho];rw[if_pos ⟨trivial,hle⟩]
 obtain⟨olds,hs0,hel0,hcell0⟩:=EQ h hT hr1 hsz hsrc0;obtain⟨L,hL,hcase⟩:=hr1.s_inv;rw[hl0] at hs0;obtain⟨L',q1,hnd,g8⟩:=h.mem.nds _ _ ho;rw[hL] at q1;cases q1
 have hsub:Sim E N {st with o:=rm st.o n} th z a w:=h.sub rfl (fun i x hi=>by
  rw[FX] at hi;split at hi
  ·cases hi
  ·exact hi) (fun _ _ h=>h)
 rcases hcase with ⟨hph,hl,rfl⟩ |⟨hph,c,o,hv1,hlc,hcap,hox⟩
 ·subst hl
  obtain⟨v,L2,w',q1,q2,q3,q4,q5⟩:=NS hsub (t:=t) hu hi1 hv0 hsize hiby hz0 (by simpa using hby) (by simpa using h63) hs hel hcell;refine⟨v,L2,w',q1,?_,?_,q4.t,fun hp=> .inl (q5 hp)⟩
  ·simpa using q2
  ·simpa using q3
 subst hv1
 rcases hnd with ⟨hp',_⟩ |⟨_,cells,fr,g2,g3,g4,g5,g6,g7⟩
 ·rw[hph] at hp';cases hp'
 obtain⟨g8,g9,g10⟩:=g8 hph
 have hne: ∀i nd M,lk (rm st.o n) i=some nd→th[i]?=some M→M.ph=false→M.b≠L.b:=by
  intro i nd M hi hM hp hb;rw[FX] at hi;split at hi
  ·cases hi
  ·rename_i hni;exact hni (h.mem.inj n i _ _ L M ho hi hL hM hph hp hb.symm)
 have hfree:FreeB E (rm st.o n) th z w L.b:=h.mem.freeB ho hL hph (fun i x hi=>by
  rw[FX] at hi;split at hi
  ·cases hi
  ·exact hi)
 by_cases hroom:len+new.length≤c
 ·by_cases hc0:c=0
  ·have hl:len=0:=by omega
   have hnn:new=[]:=List.length_eq_zero_iff.1 (by omega);subst hnn
   have hnl:news=[]:=by have:=hs.newsLen;simpa using this
   subst hnl;refine⟨.slice (some ⟨L.b,o,none⟩) len c,_,w,run_append_nothing w T T' t e i hu hi1 _ len c hlc v2 (by rw[hsize];exact hs),hsub.know ⟨L.b,0,sz,0,false⟩ _ (fun _=>⟨g8,g9,g10⟩) (fun i nd M hi hM hp _=>hne i nd M hi hM hp) ?_ (.inr hfree),?_,(Ext.refl w).t,fun _=> .inr ⟨L,hL,hph,rfl⟩⟩
   ·subst hl
    exact .inr ⟨rfl,cells,fr,g2,g3,rfl,by simp,by simp,fun i e he=>by simp at he⟩
   ·exact .s _ _ 0 _ _ o ⟨L.b,0,sz,0,false⟩ (hsub.get_new _) rfl (by simp;omega) (by simp;omega) (fun hh=>by omega)
  ·have ho':=hox (by omega)
   subst ho'
   have hbound:L.o+lo * L.k+c * L.k≤cells.size:=by
    have:(lo+c) * L.k≤L.cap * L.k:=Nat.mul_le_mul_right _ hcap;rw[Nat.add_mul] at this;omega
   have hk2:L.k=sz:=g4;have hnl:news.length=new.length * sz:=hs.newsLen
   have hin:L.o+lo * L.k+len * sz+news.length≤cells.size:=by
    have:(len+new.length) * sz≤c * sz:=Nat.mul_le_mul_right _ hroom;rw[Nat.add_mul] at this;rw[hk2] at hbound ⊢;omega
   have hrun:=run_append_room_src w T T' t e i hu hi1 L.b (L.o+lo * L.k) len c v2 new.length news (by rw[hsize];exact hs) hroom (fun j hj=>by
    rw[As g2,hsize];simp[show L.o+lo * L.k+len * sz+j<cells.size by omega]) (fun j hj=>by
    rw[hsize];exact E_ g2 g3 (by omega))
   rw[hsize] at hrun;obtain⟨q1,q2,q3⟩:=Az L.b news (L.o+lo * L.k+len * sz) w cells e fr g2;have le:Le w z (w.setCells L.b (L.o+lo * L.k+len * sz) news) z:=⟨fun _ _ h=>h,fun t b hb=>q2 b (fun e=>by subst e;exact g9 t hb)⟩;have hoth:=hsub.other (Ag _ _ _ _) q1 q2 g9 hne g10 hfree
   have hfree2:=hfree.other (fun i T k els op M hi hM=>by
    obtain⟨M',k1,k2,_⟩:=hsub.mem.nds i _ hi;rw[hM] at k1;cases k1
    exact k2.ul_nil.imp id (fun hp=>hne i _ M hi hM hp)) q1 q2 g9
   refine⟨_,_,_,hrun,hoth.know ⟨L.b,L.o+lo * L.k,sz,c,false⟩ _ (fun _=>⟨by rw[q1];exact g8,g9,g10⟩) (fun i nd M hi hM hp _=>hne i nd M hi hM hp) ?_ (.inr hfree2),?_,⟨Nat.le_of_eq q1.symm,fun b _ hne=>q2 b (fun e=>hne n (by simp) L hL hph e.symm),Ag _ _ _ _⟩,fun _=> .inr ⟨L,hL,hph,rfl⟩⟩
   ·refine .inr ⟨rfl,_,fr,q3,fun i hi=>by rw[Ab] at hi;exact g3 i hi,rfl,by rw[Ab];show L.o+lo * L.k+c * sz≤cells.size;rw[←hk2];exact hbound,by rw[List.length_append,hl0];exact hroom,fun i el hi=>?_⟩
    rw[List.getElem?_append,hl0] at hi;simp only
    have hidx: ∀j,(CH cells (L.o+lo * L.k+len * sz) news)[L.o+lo * L.k+i * sz+j]?=if len≤i∧(i - len) * sz+j<news.length then news[(i - len) * sz+j]? else if len≤i then cells[L.o+lo * L.k+i * sz+j]? else (CH cells (L.o+lo * L.k+len * sz) news)[L.o+lo * L.k+i * sz+j]?:=by
     intro j;split
     ·rename_i hh
      have:len * sz≤i * sz:=Nat.mul_le_mul_right _ hh.1;have e1:(i - len) * sz=i * sz - len * sz:=Nat.sub_mul _ _ _;rw[Av _ _ _ hin,if_pos (by omega)]
      congr 1;omega
     ·split
      ·rename_i hh h2
       have:len * sz≤i * sz:=Nat.mul_le_mul_right _ h2;have e1:(i - len) * sz=i * sz - len * sz:=Nat.sub_mul _ _ _;rw[Av _ _ _ hin,if_neg (by omega)]
      ·rfl
    split at hi
    ·rename_i hlt
     rw[List.getElem?_take_of_lt hlt,List.getElem?_drop] at hi;obtain⟨p1,p2⟩:=g7 _ _ hi;refine⟨p1.trans hk2,fun j x hj=>?_⟩;obtain⟨u,hu,hru,h1u⟩:=p2 j x hj
     have hjk:j<sz:=by rw[←hk2,←p1];exact(List.getElem?_eq_some_iff.1 hj).1
     refine⟨u,?_,hru.on' le,h1u⟩;have:(i+1) * sz≤len * sz:=Nat.mul_le_mul_right _ hlt;rw[Nat.add_mul] at this;rw[Av _ _ _ hin,if_neg (by omega),show L.o+lo * L.k+i * sz+j=L.o+(lo+i) * L.k+j by rw[Nat.add_mul,hk2];omega];exact hu
    ·rename_i hge
     refine⟨hel el (List.mem_of_getElem? hi),fun j x hj=>?_⟩;obtain⟨u,hu,hru,h1u⟩:=hcell _ el j x hi hj;refine⟨u,?_,hru.on' le,h1u⟩;rw[hidx,if_pos ⟨by omega,(List.getElem?_eq_some_iff.1 hu).1⟩];exact hu
   ·exact .s _ _ 0 _ _ _ ⟨L.b,L.o+lo * L.k,sz,c,false⟩ (hoth.get_new _) rfl hroom (by simp) (fun _=>by simp)
 ·have hrun:=run_append_grow_src w T T' t e i v0 hu hi1 hv0 (some ⟨L.b,o,none⟩) len c olds (by rw[hsize];exact hs0.cellsD) v2 new.length news (by rw[hsize];exact hs) (by omega) (by omega) (by rw[hiby];exact growslice_fits (by omega) hby)
  have hS:=IG hsub (e:=e) (k:=sz) (olds:=olds) (news:=news) (els0:=(els.drop lo).take len) (new:=new) (cap:=grownCap w (len+new.length) c e) v0.cells hz0 (by rw[hl0];exact EY w _ _ _) (fun i el he=>⟨hel0 el (List.mem_of_getElem? he),fun j x hj=>hcell0 i el j x he hj⟩) (by rw[hl0];exact hs0.newsLen) hs.newsLen hel hcell;rw[hl0] at hS;refine⟨_,_,_,hrun,hS,?_,(Cp _ _).t,fun _=> .inl (Nat.le_refl _)⟩;exact .s _ _ 0 _ _ 0 _ (hsub.get_new _) rfl (EY w _ _ _) (by simp) (fun _=>by simp)
theorem PM (h:Sim E N st th z a w){args:Array Operand}{ats:Array TypeId}{d:Option Nat}{t:TypeId}{pos:String}{aft:Array Edge}{g:Option (Nat×Bool)}{k:AV→AS→Prop}(hk:OU P E.G st (.call {callee:= .builtin .append,args:=args,argTypes:=ats}) k):
  M9 P E N ⟨d,.call {callee:= .builtin .append,args:=args,argTypes:=ats},t,pos,aft,g⟩ a w th (Ei st E.G (.call {callee:= .builtin .append,args:=args,argTypes:=ats})) st.m k false:=by
 obtain⟨args⟩:=args;obtain⟨ats⟩:=ats;simp only[OU] at hk
 cases hzz:Hr P E.G st ⟨args⟩ ⟨ats⟩ with
 |some r=>
  obtain⟨c,v,s⟩:=r;simp only[hzz] at hk;unfold Hr at hzz;split at hzz
  ·rename_i T T' ha
   simp only at ha;subst ha;split at hzz
   ·rename_i kd s2 b2 z2 hT'
    split at hzz
    ·rename_i e s1 b1 z1 n hT he
     split at hzz
     ·rename_i kk sz bytes zs hTe
      simp only[Option.some.injEq,Prod.mk.injEq] at hzz;obtain⟨rfl,rfl,rfl⟩:=hzz;obtain⟨⟨hpos,h63,hb,hsz,hzl,hz1⟩,hk⟩:=hk;obtain⟨i,dd,hi1,hi2,hi3⟩:=Ax hTe;simp only[TY.mk.injEq] at hi3;obtain⟨_,hisz,hiby,hiz⟩:=hi3;obtain⟨v0,hv0,hv0'⟩:=Option.map_eq_some_iff.1 hiz.symm;obtain⟨v1,r1,hargs,hr1,hrest⟩:=(BM h he).head;obtain⟨v2,r2,rfl,hr2,hrest2⟩:=hrest.head;obtain rfl:=hrest2.of_nil;obtain rfl:=hr1.r_inv;obtain rfl:=hr2.r_inv
      have hz0:v0.cells.size=sz:=by rw[←hzl,←hv0'];simp
      have hnn:(n.toNat:Int)=n:=by omega
      have hrun:=I2 (w:=w) (t:=t) (Aa hT rfl) (DU hT' rfl) hi1 hv0 n.toNat (by omega) (by omega) (by omega) (by
       have h1:((n.toNat * bytes:Nat):Int)≤140737488355328:=by rw[Int.natCast_mul,hnn];exact hb
       rw[←hiby];omega)
      rw[hnn] at hrun
      have hlen:(Builtin.zeroCells v0.cells n.toNat).toList.length=n.toNat * sz:=by rw[Array.length_toList,Cy,hz0]
      have hcell: ∀(i:Nat)(e:List AV),(List.replicate n.toNat (zs.map AV.r))[i]?=some e→e.length=sz∧ ∀(j:Nat)(x:AV),e[j]?=some x→ ∃y,(Builtin.zeroCells v0.cells n.toNat).toList[i * sz+j]?=some y∧Rep w z [] x y∧y.oneCell'=true:=by
       intro i el he
       have hi:i<n.toNat:=by have:=(List.getElem?_eq_some_iff.1 he).1;simpa using this
       rw[List.getElem?_replicate,if_pos hi] at he;cases he;refine⟨by simpa using hzl,fun j x hj=>?_⟩;simp only[List.getElem?_map,Option.map_eq_some_iff] at hj;obtain⟨u,hu,rfl⟩:=hj
       have hj:j<sz:=by rw[←hzl];exact(List.getElem?_eq_some_iff.1 hu).1
       have hlt:i * sz+j<n.toNat * sz:=by
        have:(i+1) * sz≤n.toNat * sz:=Nat.mul_le_mul_right _ hi;rw[Nat.add_mul] at this;omega
       refine⟨u,?_,.r _ _,List.all_eq_true.1 hz1 u (List.mem_of_getElem? hu)⟩;rw[Array.getElem?_toList];unfold Builtin.zeroCells;rw[hz0,Array.getElem?_map,Array.getElem?_eq_getElem (by simpa using hlt)];simp only[Array.getElem_range,Option.map_some,Option.some.injEq];rw[show(i * sz+j) % sz=j by rw[Nat.mul_comm,Nat.mul_add_mod,Nat.mod_eq_of_lt hj]]
       have:v0.cells[j]?=some u:=by rw[←hv0'] at hu;simpa using hu
       obtain⟨hlt',hg⟩:=Array.getElem?_eq_some_iff.1 this;rw[getElem!_pos v0.cells j hlt'];exact hg
      have hS:=IG h (e:=e) (k:=sz) (olds:=[]) (news:=(Builtin.zeroCells v0.cells n.toNat).toList) (els0:=[]) (new:=List.replicate n.toNat (zs.map AV.r)) (cap:=grownCap w n.toNat 0 e) v0.cells hz0 (by simpa using EY w n.toNat 0 e) (fun i e he=>by simp at he) (by simp) (by simpa using hlen) (fun e he=>by
       obtain⟨i,hi⟩:=List.mem_iff_getElem?.1 he
       exact(hcell i e hi).1) (fun i e j x he hx=>(hcell i e he).2 j x hx)
      simp only[List.nil_append,List.length_nil,Nat.zero_add,List.length_replicate] at hS;have hcap:=EY w n.toNat 0 e;refine⟨.slice (some ⟨w.heap.size,0,none⟩) n.toNat (grownCap w n.toNat 0 e),_,_,_,z,_,.inl ?_,hk,hS,.s _ _ 0 _ _ 0 ⟨w.heap.size,0,sz,grownCap w n.toNat 0 e,false⟩ (h.get_new _) rfl hcap (by simp) (fun _=>by simp),rfl,(fun h=>by cases h),BL _ _,(Cp _ _).t⟩;simp only[execOp,resolve,invoke,builtin,Sem.run_bind,Sem.run_pure,Result.andThen_ok]
      have he2:(Array.map a.eval args.toArray)= #[.slice none 0 0,.int .i64 n]:=by simpa using hargs
      rw[he2,hrun];rfl
     ·cases hzz
    ·cases hzz
   ·cases hzz
  ·cases hzz
 |none=>
 simp only[hzz] at hk;split at hk
 ·rename_i b x T T' he
  obtain⟨v1,r1,hargs,hr1,hrest⟩:=(BM h he).head;obtain⟨v2,r2,rfl,hr2,hrest2⟩:=hrest.head;obtain rfl:=hrest2.of_nil
  have hexec: ∀(v:Value)(w':World),(Builtin.append_ #[T,T'] t #[v1,v2]).run P w= .ok v w'→(execOp a.eval ⟨d,.call {callee:= .builtin .append,args:=args.toArray,argTypes:= #[T,T']},t,pos,aft,g⟩).run P w= .ok (.value v) w':=by
   intro v w' hv;simp only[execOp,resolve,invoke,builtin,Sem.run_bind,Sem.run_pure,Result.andThen_ok]
   have he2:(Array.map a.eval args.toArray)= #[v1,v2]:=by simpa using hargs
   rw[he2,hv];rfl
  split at hk
  ·rename_i e s1 b1 z1 y' hT hT'
   split at hk
   ·rename_i kk sz bytes zs hTe
    obtain⟨i,dd,hi1,hi2,hi3⟩:=Ax hTe;simp only[TY.mk.injEq] at hi3;obtain⟨_,hisz,hiby,hiz⟩:=hi3;obtain⟨v0,hv0,hv0'⟩:=Option.map_eq_some_iff.1 hiz.symm;have hu:=Aa hT rfl;split at hk
    ·rename_i new hnew
     split at hk
     ·obtain rfl:=hr1.r_inv
      obtain⟨⟨hzl,hsz,hby,h63⟩,hk⟩:=hk;obtain⟨news,hs,hel,hcell⟩:=EQ h hT' hr2 hsz hnew
      have hz0:v0.cells.size=sz:=by rw[←hzl,←hv0'];simp
      obtain⟨v,L,w',g1,g2,g3,g4,_⟩:=NS h (t:=t) hu hi1 hv0 hisz.symm hiby.symm hz0 hby h63 hs hel hcell;exact⟨v,_,_,_,z,w',.inl (hexec _ _ g1),hk,g2,g3,rfl,(fun h=>by cases h),BL _ _,g4.t⟩
     ·rename_i n lo len
      have hts:Ei st E.G (.call {callee:= .builtin .append,args:=args.toArray,argTypes:=[T,T'].toArray})=[n]:=by simp only[Ei,he]
      split at hk
      ·rename_i T2 k' els ho
       obtain⟨⟨hT2,hzl,hkk,hsz,hle,hby,h63⟩,hk⟩:=hk;have hT2:=hT2.symm;subst hT2;subst hkk;obtain⟨news,hs,hel,hcell⟩:=EQ h hT' hr2 hsz hnew;obtain⟨v,L,w',g1,g2,g3,g4,_⟩:=JB h (t:=t) hT hi1 hv0 hisz.symm hiby.symm (by rw[←hzl,←hv0'];simp) hsz ho hle hby h63 hr1 hs hel hcell;rw[hts];exact⟨v,_,_,_,z,w',.inl (hexec _ _ g1),hk,g2,g3,rfl,(fun h=>by cases h),BL _ _,g4⟩
      ·exact hk.elim
     ·exact hk.elim
    ·exact hk.elim
   ·exact hk.elim
  ·exact hk.elim
 ·exact hk.elim
theorem FL {v0:Value}{zs:List Value}{sz n i j:Nat}{u:Value}(hz:v0.cells.toList=zs)(hzl:zs.length=sz)(hi:i<n)(hu:zs[j]?=some u):(Builtin.zeroCells v0.cells n).toList[i * sz+j]?=some u:=by
 have hz0:v0.cells.size=sz:=by rw[←hzl,←hz];simp
 have hj:j<sz:=by rw[←hzl];exact(List.getElem?_eq_some_iff.1 hu).1
 have hlt:i * sz+j<n * sz:=by
  have:(i+1) * sz≤n * sz:=Nat.mul_le_mul_right _ hi;rw[Nat.add_mul] at this;omega
 rw[Array.getElem?_toList];unfold Builtin.zeroCells;rw[hz0,Array.getElem?_map,Array.getElem?_eq_getElem (by simpa using hlt)];simp only[Array.getElem_range,Option.map_some,Option.some.injEq];rw[show(i * sz+j) % sz=j by rw[Nat.mul_comm,Nat.mul_add_mod,Nat.mod_eq_of_lt hj]]
 have:v0.cells[j]?=some u:=by rw[←hz] at hu;simpa using hu
 obtain⟨hlt',hg⟩:=Array.getElem?_eq_some_iff.1 this;rw[getElem!_pos v0.cells j hlt'];exact hg
theorem M2 (h:Sim E N st th z a w){args:Array Operand}{ats:Array TypeId}{d:Option Nat}{t:TypeId}{pos:String}{aft:Array Edge}{g:Option (Nat×Bool)}{k:AV→AS→Prop}(hk:OU P E.G st (.call {callee:= .builtin .clear,args:=args,argTypes:=ats}) k):
  M9 P E N ⟨d,.call {callee:= .builtin .clear,args:=args,argTypes:=ats},t,pos,aft,g⟩ a w th (Ei st E.G (.call {callee:= .builtin .clear,args:=args,argTypes:=ats})) st.m k false:=by
 obtain⟨args⟩:=args;obtain⟨ats⟩:=ats;simp only[OU] at hk;split at hk
 ·rename_i x T he
  split at hk
  ·rename_i e s1 b1 z1 hT
   split at hk
   ·rename_i kk sz bytes zs n lo len hTe
    split at hk
    ·rename_i T2 k' els ho
     obtain⟨⟨hzl,hkk,hsz,hle,hz1⟩,hk⟩:=hk;subst hkk
     have hts:Ei st E.G (.call {callee:= .builtin .clear,args:=args.toArray,argTypes:=[T].toArray})=[n]:=by simp only[Ei,he]
     rw[hts];obtain⟨v1,r1,hargs,hr1,hrest⟩:=(BM h he).head;obtain rfl:=hrest.of_nil
     have hexec: ∀(w':World),(Builtin.clear_ #[T] t #[v1]).run P w= .ok (.tuple #[]) w'→(execOp a.eval ⟨d,.call {callee:= .builtin .clear,args:=args.toArray,argTypes:= #[T]},t,pos,aft,g⟩).run P w= .ok (.value (.tuple #[])) w':=by
      intro w' hv;simp only[execOp,resolve,invoke,builtin,Sem.run_bind,Sem.run_pure,Result.andThen_ok]
      have he2:(Array.map a.eval args.toArray)= #[v1]:=by simpa using hargs
      rw[he2,hv];rfl
     obtain⟨i,dd,hi1,hi2,hi3⟩:=Ax hTe;simp only[TY.mk.injEq] at hi3;obtain⟨_,hisz,hiby,hiz⟩:=hi3;obtain⟨v0,hv0,hv0'⟩:=Option.map_eq_some_iff.1 hiz.symm;have hu:=Aa hT rfl
     have hz0:v0.cells.size=k':=by rw[←hzl,←hv0'];simp
     have hzv:(zeroValue e).run P w= .ok v0 w:=by simp[zeroValue,Bw hi1,hv0]
     obtain⟨L,k1,hnd,k6⟩:=h.mem.nds _ _ ho
     by_cases h0:len=0
     ·subst h0
      obtain⟨ao,c,rfl⟩: ∃ao c,v1= .slice ao 0 c:=by
       cases hr1 with
       |s _ _ _ _ c x M _ _ _ _ _=>exact⟨_,_,rfl⟩
       |sn=>exact⟨_,_,rfl⟩
      have hrun:(Builtin.clear_ #[T] t #[.slice ao 0 c]).run P w= .ok (.tuple #[]) w:=by
       cases ao<;>simp[Builtin.clear_,AF hu]
      refine⟨.tuple #[],.r (.tuple #[]),_,th,z,w,.inl (hexec _ hrun),hk,?_,.r _ _,rfl,(fun h=>by cases h),Later.refl _,(Ext.refl w).t⟩
      have e1:els.take lo++List.replicate 0 (zs.map AV.r)++els.drop (lo+0)=els:=by simp
      rw[e1]
      have key: ∀j y,lk (Ad st n (.lst T2 k' els)).o j=some y→lk st.o j=some y:=by
       intro j y hj;simp only[Ad,lk] at hj;split at hj
       ·rename_i q;subst q;cases hj;exact ho
       ·exact hj
      exact h.sub rfl key (fun _ _ h=>h)
     ·rcases hnd with ⟨_,hn0⟩ |⟨hph,cells,fr,g2,g3,g4,g5,g6,g7⟩
      ·subst hn0;simp at hle;omega
      obtain⟨k6,k7,k8⟩:=k6 hph
      obtain⟨c,x,rfl,hc1,hc2,hx⟩: ∃c x,v1= .slice (some ⟨L.b,x,none⟩) len c∧len≤c∧lo+c≤L.cap∧x=L.o+lo * L.k:=by
       cases hr1 with
       |s _ _ _ _ c x M hL hp' h3 h4 h5=>
        rw[k1] at hL;cases hL;exact⟨c,x,rfl,h3,h4,h5 (by omega)⟩
       |sn _ _ _ M hL hp'=>exact absurd rfl h0
      subst hx
      have hzlen:(Builtin.zeroCells v0.cells len).toList.length=len * k':=by rw[Array.length_toList,Cy,hz0]
      have hbound:L.o+lo * L.k+len * k'≤cells.size:=by
       rw[g4];have:(lo+len) * k'≤L.cap * k':=Nat.mul_le_mul_right _ (by omega);rw[Nat.add_mul] at this;rw[g4] at g5;omega
      have hone: ∀u ∈ (Builtin.zeroCells v0.cells len).toList,u.oneCell'=true:=by
       intro u hu;obtain⟨m,hm⟩:=List.mem_iff_getElem?.1 hu
       have hm':m<len * k':=by rw[←hzlen];exact(List.getElem?_eq_some_iff.1 hm).1
       have hj:m % k'<k':=Nat.mod_lt _ hsz
       have hq:zs[m % k']?=some (zs[m % k']'(by omega)):=by rw[List.getElem?_eq_getElem]
       have hdm:m / k'<len:=by rw[Nat.div_lt_iff_lt_mul hsz];exact hm'
       have:=FL hv0' hzl (n:=len) hdm hq;rw[show m / k' * k'+m % k'=m by rw[Nat.mul_comm];exact Nat.div_add_mod m k'] at this;rw[hm] at this;cases this;exact List.all_eq_true.1 hz1 _ (List.getElem_mem _)
      have hst:=run_storeCells_cells (P:=P) L.b (L.o+lo * L.k) (Builtin.zeroCells v0.cells len).toList 0 w (fun j hj=>by
       rw[hzlen] at hj
       have hlt:L.o+lo * L.k+j<cells.size:=by omega
       rw[As g2];simpa using hlt) (fun j hj=>by
       rw[hzlen] at hj
       exact E_ g2 g3 (by omega)) hone
      have hrun:(Builtin.clear_ #[T] t #[.slice (some ⟨L.b,L.o+lo * L.k,none⟩) len c]).run P w= .ok (.tuple #[]) (w.setCells L.b (L.o+lo * L.k) (Builtin.zeroCells v0.cells len).toList):=by
       obtain⟨m,rfl⟩: ∃m,len=m+1:=⟨len - 1,by omega⟩;simp only[Nat.add_zero] at hst;simp[Builtin.clear_,AF hu,hzv,hst]
      obtain⟨q1,q2,q3⟩:=Az L.b (Builtin.zeroCells v0.cells len).toList (L.o+lo * L.k) w cells T2 fr g2;have le:Le w z (w.setCells L.b (L.o+lo * L.k) (Builtin.zeroCells v0.cells len).toList) z:=⟨fun _ _ h=>h,fun t b hb=>q2 b (fun e=>by subst e;exact k7 t hb)⟩;refine⟨.tuple #[],.r (.tuple #[]),_,th,z,_,.inl (hexec _ hrun),hk,h.write ho k1 hph (Ag _ _ _ _) q1 q2 ?_,.r _ _,rfl,(fun h=>by cases h),Later.refl _,⟨Nat.le_of_eq q1.symm,fun b _ hne=>q2 b (fun e=>hne n (by simp) L k1 hph e.symm),Ag _ _ _ _⟩⟩
      have hlen':(els.take lo++List.replicate len (zs.map AV.r)++els.drop (lo+len)).length=els.length:=by simp;omega
      refine .inr ⟨hph,_,fr,q3,fun i hi=>by rw[Ab] at hi;exact g3 i hi,g4,by rw[Ab];exact g5,by rw[hlen'];exact g6,fun i' e' he'=>?_⟩;have hgm:=Av (Builtin.zeroCells v0.cells len).toList (L.o+lo * L.k) cells (by rw[hzlen];exact hbound)
      by_cases hin:lo≤i'∧i'<lo+len
      ·have he2:e'=zs.map AV.r:=by
        rw[List.append_assoc,List.getElem?_append_right (by rw[List.length_take];omega),List.length_take,show min lo els.length=lo by omega,List.getElem?_append_left (by simp;omega),List.getElem?_replicate,if_pos (by omega)] at he';cases he';rfl
       subst he2;refine⟨by rw[g4];simpa using hzl,fun j x hj=>?_⟩;simp only[List.getElem?_map,Option.map_eq_some_iff] at hj;obtain⟨u,hu,rfl⟩:=hj
       have hjk:j<k':=by rw[←hzl];exact(List.getElem?_eq_some_iff.1 hu).1
       refine⟨u,?_,.r _ _,List.all_eq_true.1 hz1 u (List.mem_of_getElem? hu)⟩;have hz2:=FL hv0' hzl (n:=len) (i:=i' - lo) (by omega) hu
       have e1:i' * k'=lo * k'+(i' - lo) * k':=by rw[←Nat.add_mul];congr 1;omega
       have e2:(i' - lo+1) * k'≤len * k':=Nat.mul_le_mul_right _ (by omega);rw[Nat.add_mul] at e2;rw[hgm,hzlen,g4,if_pos (by omega)];rw[show L.o+i' * k'+j - (L.o+lo * k')=(i' - lo) * k'+j by omega];exact hz2
      ·have he2:els[i']?=some e':=by
        by_cases hlt:i'<lo
        ·rw[List.append_assoc,List.getElem?_append_left (by rw[List.length_take];omega),List.getElem?_take_of_lt hlt] at he';exact he'
        ·rw[List.getElem?_append_right (by simp;omega),List.getElem?_drop] at he'
         rw[←he'];congr 1;simp;omega
       obtain⟨hl,hc⟩:=g7 i' e' he2;refine⟨hl,fun j x hj=>?_⟩
       have hjk:j<L.k:=by rw[←hl];exact(List.getElem?_eq_some_iff.1 hj).1
       obtain⟨u,hu,hru,h1u⟩:=hc j x hj;refine⟨u,?_,by simpa using hru.on le [],h1u⟩;rw[hgm,hzlen,if_neg]
       ·exact hu
       ·rintro⟨a1,a2⟩
        rw[g4] at a1 a2 hjk
        rcases Nat.lt_or_ge i' lo with hlt |hge
        ·have:(i'+1) * k'≤lo * k':=Nat.mul_le_mul_right _ hlt
         rw[Nat.add_mul] at this;omega
        ·have:(lo+len) * k'≤i' * k':=Nat.mul_le_mul_right _ (by omega)
         rw[Nat.add_mul] at this;omega
    ·exact hk.elim
   ·exact hk.elim
  ·exact hk.elim
 ·exact hk.elim
end
end Go.AM
namespace Go.AM
open Go
mutual
def Gf (st:AS):AV→Option (AV×AS)
 | .s n lo len=>match lk st.o n with
   |some (.lst _ k els)=>if lo+len≤els.length then some (.ro true k ((els.drop lo).take len),{st with o:=rm st.o n}) else none
   |some (.ul _ _ _ _)=>some (.s n lo len,st)
   |_=>none
 | .r v=>some (.r v,st)
 | .ro t k els=>some (.ro t k els,st)
 | .re t c off=>some (.re t c off,st)
 | .agg c=>match KV st c with
   |some (c',st')=>some (.agg c',st')
   |none=>none
 |_=>none
def KV (st:AS):List AV→Option (List AV×AS)
 | []=>some ([],st)
 |x::r=>match Gf st x with
  |none=>none
  |some (x',st1)=>match KV st1 r with
   |none=>none
   |some (r',st2)=>some (x'::r',st2)
end
def Gd:List AV→Option (List AV)
 | []=>some []
 | .r v::r=>(Gd r).map (.r v:: ·)
 | .ro t k els::r=>(Gd r).map (.ro t k els:: ·)
 | .re t c off::r=>(Gd r).map (.re t c off:: ·)
 | .s _ _ _::r=>(Gd r).map (.any:: ·)
 |_::_=>none
def DY (i:Nat):Nat→List AV→List (Nat×Nat×AV)
 |_,[]=>[]
 |j,.s n lo len::r=>(i,j,.s n lo len)::DY i (j+1) r
 |j,_::r=>DY i (j+1) r
def Gu:List (Nat×Nat×AV)→Nat→Nat→Nat→List (Nat×Nat×AV)
 | [],_,_,_=>[]
 |(a,b,x)::r,i,j,n=>if a=i∧j≤b∧b<j+n then Gu r i j n else (a,b,x)::Gu r i j n
def O0 (sz:Nat):Nat→List Nat→List AV→Option (List (List AV)×List (Nat×Nat×AV))
 |_,[],[]=>some ([],[])
 |i,j::is,x::r=>if j=i∧x.cells.length=sz∧x.okPart=true∧x.cells.all AV.cell1=true then match Gd x.cells,O0 sz (i+1) is r with
   |some c,some (els,op)=>some (c::els,DY i 0 x.cells++op)
   |_,_=>none
  else none
 |_,_,_=>none
def VE (d:Nat)(op:List (Nat×Nat×AV)):List (Nat×Nat×AV):=op.map fun p=>(p.1+d,p.2)
def T5 (st:AS)(e sz:Nat):AV→Option (List (List AV)×Nat)
 | .s n 0 len=>match lk st.o n with
   |some (.ul T k els [])=>if T=e∧k=sz∧len=els.length then some (els,n) else none
   |_=>none
 |_=>none
def VC (st:AS)(sz:Nat):AV→Option (List (List AV)×List (Nat×Nat×AV)×Option Nat)
 | .s m lo len=>match lk st.o m with
   |some (.ul _ k els op)=>if lo=0∧k=sz∧len=els.length then some (els,op,some m) else none
   |_=>(CL st sz (.s m lo len)).map fun els=>(els,[],none)
 |x=>(CL st sz x).map fun els=>(els,[],none)
def WO (o:List (Nat×Nd)):Option Nat→List (Nat×Nd)
 |some m=>rm o m
 |none=>o
def Ok (l:List Int)(v:Int):List Int:=bif l.contains v then l else l++[v]
def VZ (P:Program)(st:AS):Option TY→Option AV→Option AV→Option AV→Option (Prop×AV×AS)
 |some ⟨.map k _,_,_,_⟩,some (.q n),some (.r (.int .i64 v)),some (.agg [])=>match AR P k,lk st.o n with
  |some ⟨.int .i64,_,_,_⟩,some (.mp l)=>some (True,.r (.tuple #[]),Ad st n (.mp (Ok l v)))
  |_,_=>none
 |_,_,_,_=>none
def Ob (st:AS):Option TY→Option AV→Option AV→Option (Prop×AV×AS)
 |some y,some (.p n i off),some v=>match lk st.o n with
  |some (.ul T k els op)=>match els[i]?,Gd v.cells with
   |some e,some c=>some ((v.cells.length=y.size∧off+y.size≤e.length∧v.okPart=true∧v.cells.all AV.cell1=true),.r (.tuple #[]),Ad st n (.ul T k (els.set i (splice e off c)) (DY i off v.cells++Gu op i off v.cells.length)))
   |_,_=>none
  |_=>none
 |_,_,_=>none
def P_ (P:Program)(st:AS)(len:Nat)(is:List Nat):Option TY→Option (List AV)→Option (Prop×AV×AS)
 |some ⟨.slice e,_,_,_⟩,some c=>match AR P e,KV st c with
  |some ⟨_,sz,_,some _⟩,some (c',st')=>match O0 sz 0 is c' with
   |some (els,op)=>some ((len=els.length∧len * sz≤16777216),.s st'.n 0 len,BV st' (.ul e sz els op))
   |none=>none
  |_,_=>none
 |_,_=>none
def WA (P:Program)(st:AS):Option (List AV)→List TypeId→Option (Prop×AV×AS)
 |some [b,x],[T,T']=>match AR P T,AR P T' with
  |some ⟨.slice e,_,_,_⟩,some ⟨.slice _,_,_,_⟩=>match AR P e with
   |some ⟨_,sz,bytes,some zs⟩=>match T5 st e sz b,VC st sz x with
    |some (els,n),some (els2,op2,ms)=>some ((zs.length=sz∧0<sz∧(els.length+els2.length) * bytes≤140737488355328∧els.length+els2.length≤9223372036854775807∧ms≠some n),.s st.n 0 (els.length+els2.length),BV {st with o:=rm (WO st.o ms) n} (.ul e sz (els++els2) (VE els.length op2)))
    |_,_=>none
   |_=>none
  |_,_=>none
 |_,_=>none
def EM (P:Program)(G:List (Nat×List Value))(st:AS):Op→Option (Prop×AV×AS)
 | .store T x v=>Ob st (AR P T) (ev st G x) (ev st G v)
 | .buildSlice T len parts=>P_ P st len (parts.toList.map (·.1)) (AR P T) (E7 st G (parts.toList.map (·.2)))
 | .call {callee:= .builtin .append,args,argTypes}=>WA P st (E7 st G args.toList) argTypes.toList
 | .makeMap T none=>some (True,.q st.n,BV st (.mp []))
 | .mapUpdate T m k x=>VZ P st (AR P T) (ev st G m) (ev st G k) (ev st G x)
 |_=>none
section
variable {P:Program} {E:Env} {N:Nat} {st:AS} {th:List NLoc} {z:AT} {a:Act} {w:World} {o:List (Nat×Nd)} {n:Nat}
mutual
theorem PB: ∀(x:AV){st st':AS}{z:AT}{v:Value}{x':AV},Sim E N st th z a w→Rep w z th x v→Gf st x=some (x',st')→
  ∃z',(∀t b,z t b→z' t b)∧Sim E N st' th z' a w∧Rep w z' th x' v∧st'.m=st.m∧st'.n=st.n
 | .s i lo len,st,st',z,v,x',h,hr,hq=>by
   simp only[Gf] at hq;split at hq
   ·rename_i T k els hi
    split at hq
    ·rename_i hle;cases hq
     obtain⟨L,h1,h2,h3⟩:=h.mem.nds i _ hi;exact⟨_,fun _ _ h=> .inl h,h.freeze hi h1,(hr.seen h1 h2 hle (fun hp=> .inr ⟨rfl,hp,rfl⟩) (fun _ _ h=> .inl h) []:Rep w _ [] _ _).pure th,rfl,rfl⟩
    ·cases hq
   ·cases hq
    exact⟨z,fun _ _ h=>h,h,hr,rfl,rfl⟩
   ·cases hq
 | .r u,st,st',z,v,x',h,hr,hq=>by
   simp only[Gf] at hq;cases hq;exact⟨z,fun _ _ h=>h,h,hr,rfl,rfl⟩
 | .ro t k els,st,st',z,v,x',h,hr,hq=>by
   simp only[Gf] at hq;cases hq;exact⟨z,fun _ _ h=>h,h,hr,rfl,rfl⟩
 | .re t c off,st,st',z,v,x',h,hr,hq=>by
   simp only[Gf] at hq;cases hq;exact⟨z,fun _ _ h=>h,h,hr,rfl,rfl⟩
 | .agg c,st,st',z,v,x',h,hr,hq=>by
   simp only[Gf] at hq;split at hq
   ·rename_i c' st1 hc;cases hq
    obtain⟨ys,rfl,hc'⟩:=hr.agg_inv;obtain⟨z',hz,hs,hr',hm,hn⟩:=Fc c h hc' hc;exact⟨z',hz,hs,.agg _ _ _ hr'.1 hr'.2,hm,hn⟩
   ·cases hq
 | .p _ _ _,_,_,_,_,_,_,_,hq=>by simp[Gf] at hq
 | .tup _,_,_,_,_,_,_,_,hq=>by simp[Gf] at hq
 | .fn _ _,_,_,_,_,_,_,_,hq=>by simp[Gf] at hq
 | .ifc _ _,_,_,_,_,_,_,_,hq=>by simp[Gf] at hq
 | .q _,_,_,_,_,_,_,_,hq=>by simp[Gf] at hq
 | .u _ _ _,_,_,_,_,_,_,_,hq=>by simp[Gf] at hq
 | .any,_,_,_,_,_,_,_,hq=>by simp[Gf] at hq
theorem Fc: ∀(c:List AV){st st':AS}{z:AT}{ys:List Value}{c':List AV},Sim E N st th z a w→Reps w z th c ys→KV st c=some (c',st')→
  ∃z',(∀t b,z t b→z' t b)∧Sim E N st' th z' a w∧Reps w z' th c' ys∧st'.m=st.m∧st'.n=st.n
 | [],st,st',z,ys,c',h,hr,hq=>by
   simp only[KV] at hq;cases hq;obtain rfl:=hr.of_nil;exact⟨z,fun _ _ h=>h,h,.nil,rfl,rfl⟩
 |x::r,st,st',z,ys,c',h,hr,hq=>by
  simp only[KV] at hq;split at hq
  ·cases hq
  ·rename_i x1 st1 hx
   split at hq
   ·cases hq
   ·rename_i r1 st2 hr1;cases hq
    obtain⟨y,ys',rfl,hy,hys⟩:=hr.head;obtain⟨z1,hz1,hs1,hr1',hm1,hn1⟩:=PB x h hy hx;obtain⟨z2,hz2,hs2,hr2',hm2,hn2⟩:=Fc r hs1 (by simpa using hys.on ⟨hz1,fun _ _ _=>rfl⟩ []) hr1;exact⟨z2,fun t b hb=>hz2 t b (hz1 t b hb),hs2,.cons (hr1'.on' ⟨hz2,fun _ _ _=>rfl⟩) hr2',hm2.trans hm1,hn2.trans hn1⟩
end
theorem Rep.gnd {x:AV}{v:Value}(hr:Rep w z th x v)(hg:(∃u,x= .r u)∨(∃t k els,x= .ro t k els)∨ ∃t c off,x= .re t c off):Rep w z [] x v:=by
 cases hr with
 |r _ v=>exact .r _ _
 |nil _ t k a c=>exact .nil _ _ _ _ _
 |ro _ t k els b o c ys hz hc hk hy h1 hx=>exact .ro _ _ _ _ b o c ys hz hc hk hy h1 hx
 |re _ t c b o off ys hz hy hx=>exact .re _ _ _ b o _ ys hz hy hx
 |_=>rcases hg with ⟨_,h⟩ |⟨_,_,_,h⟩ |⟨_,_,_,h⟩<;>cases h
theorem MZ: ∀ {c c':List AV},Gd c=some c'→c'.length=c.length
 | [],c',h=>by simp only[Gd,Option.some.injEq] at h;subst h;rfl
 |x::r,c',h=>by
  cases x<;>simp only[Gd,Option.map_eq_some_iff] at h<;>first
   |(cases h;done)
   |(obtain⟨r',h1,rfl⟩:=h;simp[MZ h1])
theorem KL {f:Nat→Prop}{i:Nat}: ∀ {c c':List AV}{ys:List Value}{j0:Nat},Gd c=some c'→Reps w z th c ys→ ∀(j:Nat)(x:AV),c'[j]?=some x→ ∃y,ys[j]?=some y∧CellU w z th f (DY i j0 c) i (j0+j) x y
 | [],c',ys,j0,h,hr,j,x,hx=>by simp only[Gd,Option.some.injEq] at h;subst h;simp at hx
 |u::r,c',ys,j0,h,hr,j,x,hx=>by
  obtain⟨y,ys',rfl,hy,hys⟩:=hr.head
  have low: ∀(r:List AV)(s k:Nat),k<s→CN (DY i s r) i k=none:=by
   intro r
   induction r with
   |nil=>intro s k _;simp[DY,CN]
   |cons u r ih=>
    intro s k hk
    cases u<;>simp only[DY,CN]<;>first
     |exact ih _ _ (by omega)
     |(rw[if_neg (by omega)];exact ih _ _ (by omega))
  have ih: ∀ {c1:List AV},Gd r=some c1→ ∀(j:Nat)(x:AV),c1[j]?=some x→ ∃y,ys'[j]?=some y∧CellU w z th f (DY i (j0+1) r) i (j0+1+j) x y:=fun h1 j x hx=>KL h1 hys j x hx
  have gnd:((∃u',u= .r u')∨(∃t k els,u= .ro t k els)∨ ∃t c off,u= .re t c off)→(∃c1,Gd r=some c1∧c'=u::c1)→DY i j0 (u::r)=DY i (j0+1) r→ ∃y',(y::ys')[j]?=some y'∧CellU w z th f (DY i j0 (u::r)) i (j0+j) x y':=by
   rintro hg ⟨c1,h1,rfl⟩ he;rw[he]
   cases j with
   |zero=>
    simp at hx;subst hx;refine⟨y,rfl,?_⟩;unfold CellU;rw[low r (j0+1) (j0+0) (by omega)];exact .r _ _ _ (hy.gnd hg)
   |succ j=>
    obtain⟨y',h2,h3⟩:=ih h1 j x (by simpa using hx);exact⟨y',by simpa using h2,by rw[show j0+(j+1)=j0+1+j by omega];exact h3⟩
  cases u<;>simp only[Gd,Option.map_eq_some_iff] at h
  case r v=>obtain⟨c1,h1,rfl⟩:=h;exact gnd (.inl ⟨_,rfl⟩) ⟨_,h1,rfl⟩ rfl
  case ro t k els=>obtain⟨c1,h1,rfl⟩:=h;exact gnd (.inr (.inl ⟨_,_,_,rfl⟩)) ⟨_,h1,rfl⟩ rfl
  case re t c off=>obtain⟨c1,h1,rfl⟩:=h;exact gnd (.inr (.inr ⟨_,_,_,rfl⟩)) ⟨_,h1,rfl⟩ rfl
  case s n lo len=>
   obtain⟨c1,h1,rfl⟩:=h
   cases j with
   |zero=>
    refine⟨y,rfl,?_⟩;simp only[CellU,DY,CN,Nat.add_zero,and_self,if_true];exact hy
   |succ j=>
    obtain⟨y',h2,h3⟩:=ih h1 j x (by simpa using hx);refine⟨y',by simpa using h2,?_⟩;rw[show j0+(j+1)=j0+1+j by omega];unfold CellU at h3 ⊢;simp only[DY,CN];rw[if_neg (by omega)];exact h3
  all_goals cases h
theorem D5: ∀(a b:List (Nat×Nat×AV))(i j:Nat),CN (a++b) i j=match CN a i j with |some x=>some x |none=>CN b i j
 | [],b,i,j=>rfl
 |(p,q,x)::r,b,i,j=>by
  simp only[List.cons_append,CN];split
  ·rfl
  ·exact D5 r b i j
theorem FT {i:Nat}: ∀(c:List AV)(j0 i' j:Nat),i'≠i→CN (DY i j0 c) i' j=none
 | [],j0,i',j,h=>by simp[DY,CN]
 |u::r,j0,i',j,h=>by
  cases u<;>simp only[DY,CN]<;>first
   |exact FT r _ _ _ h
   |(rw[if_neg (fun e=>h e.1.symm)];exact FT r _ _ _ h)
theorem Gb {i:Nat}: ∀(c:List AV)(j0 j:Nat),(j<j0∨j0+c.length≤j)→CN (DY i j0 c) i j=none
 | [],j0,j,h=>by simp[DY,CN]
 |u::r,j0,j,h=>by
  simp only[List.length_cons] at h
  cases u<;>simp only[DY,CN]<;>first
   |exact Gb r _ _ (by omega)
   |(rw[if_neg (by omega)];exact Gb r _ _ (by omega))
def Wg:Value→AV
 | .agg ys=> .agg (ys.toList.map .r)
 |v=> .r v
theorem UF (v:Value):Rep w z [] (Wg v) v:=by
 cases v<;>first
  |exact .r _ _
  |(rename_i ys;have:=Rep.agg (w:=w) (z:=z) [] (ys.toList.map AV.r) ys.toList (by simp) (fun i x y h1 h2=>by
   rw[List.getElem?_map,h2] at h1;simp at h1;subst h1;exact .r _ _);simpa[Wg] using this)
theorem IN (v:Value):(Wg v).cells=v.cells.toList.map .r:=by cases v<;>rfl
theorem Vo (v:Value):(Wg v).okPart=true:=by cases v<;>rfl
theorem X8 {u:Value}(h:u.oneCell'=true):(AV.r u).cell1=true:=by cases u<;>first |rfl |(simp[Value.oneCell'] at h)
theorem M1 {sz:Nat}: ∀(is:List Nat)(c:List AV)(i:Nat)(vs:List Value)(els:List (List AV))(op:List (Nat×Nat×AV)),O0 sz i is c=some (els,op)→Reps w z th c vs→
  ∃xls,Hc sz i is (vs.map Wg)=some xls∧xls.length=els.length∧(∀(q:Nat)(e:List AV),els[q]?=some e→e.length=sz∧ ∃ys:List Value,xls[q]?=some (ys.map .r)∧(∀u ∈ ys,u.oneCell'=true)∧ ∀(j:Nat)(x:AV),e[j]?=some x→ ∃y,ys[j]?=some y∧ ∀f,CellU w z th f op (i+q) j x y)∧ ∀i' j,i'<i→CN op i' j=none
 | [],[],i,vs,els,op,h,hr=>by
   simp only[O0,Option.some.injEq,Prod.mk.injEq] at h;obtain⟨rfl,rfl⟩:=h;obtain rfl:=hr.of_nil;exact⟨[],rfl,rfl,fun q e h=>by simp at h,fun i' j _=>rfl⟩
 |j::is,x::r,i,vs,els,op,h,hr=>by
  simp only[O0] at h;split at h
  ·rename_i hc;obtain⟨rfl,h2,h3,h4⟩:=hc
   split at h
   ·rename_i c els' op' hl hE
    simp only[Option.some.injEq,Prod.mk.injEq] at h;obtain⟨rfl,rfl⟩:=h;obtain⟨v,vs',rfl,hv,hvs⟩:=hr.head;obtain⟨xls,g1,g2,g3,g4⟩:=M1 is r (j+1) vs' els' op' hE hvs;have hcells:=Bs hv h3;have hone:=Fr hv h3 h4
    have hsz:v.cells.toList.length=sz:=by rw[hcells.1,h2]
    refine⟨v.cells.toList.map .r::xls,?_,by simp[g2],fun q e hq=>?_,fun i' j' hi=>?_⟩
    ·simp only[List.map_cons,Hc]
     rw[if_pos ⟨trivial,by rw[IN];simpa using hsz,Vo v,by
      rw[IN];refine List.all_eq_true.2 fun x hx=>?_;obtain⟨u,hu,rfl⟩:=List.mem_map.1 hx
      exact X8 (hone u hu)⟩,g1,IN]
     rfl
    ·cases q with
     |zero=>
      simp at hq;subst hq;refine⟨by rw[MZ hl,h2],v.cells.toList,rfl,hone,fun k x hx=>?_⟩;have key: ∀f,∃y,v.cells.toList[k]?=some y∧CellU w z th f (DY j 0 _) j (0+k) x y:=fun f=>KL (f:=f) (i:=j) (j0:=0) hl hcells k x hx;obtain⟨y,hy,_⟩:=key (fun _=>False);refine⟨y,hy,fun f=>?_⟩;obtain⟨y',hy',hcu⟩:=key f;rw[hy] at hy';cases hy';rw[Nat.zero_add] at hcu;unfold CellU at hcu ⊢;rw[Nat.add_zero,D5];split at hcu
      ·rename_i x' hx';first |exact hcu |(rw[hx'];exact hcu)
      ·rename_i hx';first |(rw[hx'];simp only;rw[g4 j k (by omega)];exact hcu) |(rw[g4 j k (by omega)];exact hcu) |(simp only[g4 j k (by omega)];exact hcu)
     |succ q=>
      obtain⟨k1,ys,k2,k3,k4⟩:=g3 q e (by simpa using hq);refine⟨k1,ys,by simpa using k2,k3,fun k x hx=>?_⟩;obtain⟨y,hy,hcu⟩:=k4 k x hx;refine⟨y,hy,fun f=>?_⟩;have hcu:=hcu f;unfold CellU at hcu ⊢;rw[D5,FT _ _ _ _ (by omega),show j+(q+1)=j+1+q by omega];exact hcu
    ·rw[D5,FT _ _ _ _ (by omega)]
     exact g4 i' j' (by omega)
   ·cases h
  ·cases h
 | [],_::_,_,_,_,_,h,_=>by simp[O0] at h
 |_::_,[],_,_,_,_,h,_=>by simp[O0] at h
theorem Mem.say (h:Mem E o n th z w){i:Nat}{nd nd':Nd}(hi:lk o i=some nd)(hn: ∀L,th[i]?=some L→NdAt w z th L nd→NdAt w z th L nd')(hu: ∀T k els op,nd'≠ .ul T k els op:=by intro _ _ _ _ h;cases h):Mem E ((i,nd')::o) n th z w:=by
 have key: ∀j x,lk ((i,nd')::o) j=some x→ ∃y,lk o j=some y:=by
  intro j x hj;simp only[lk] at hj;split at hj
  ·rename_i e;subst e;exact⟨_,hi⟩
  ·exact⟨_,hj⟩
 refine⟨h.len,fun j x hj=>?_,fun j k x y L M hj hk=>?_,h.zlt,h.grow,h.frame,h.zin,h.zout,h.zb,h.globs,h.pre,h.sys,?_⟩
 ·simp only[lk] at hj
  split at hj
  ·rename_i e;subst e;cases hj
   obtain⟨L,h1,h2,h3⟩:=h.nds i nd hi;exact⟨L,h1,hn L h1 h2,h3⟩
  ·exact h.nds j x hj
 ·obtain⟨x',hj'⟩:=key j x hj
  obtain⟨y',hk'⟩:=key k y hk;exact h.inj j k x' y' L M hj' hk'
 ·obtain⟨U,hU⟩:=h.uls
  refine⟨U,fun j T k els op L hj hL=>?_,hU.lt,hU.nz,hU.ow,hU.inj,fun j x L q hj hL hp=>?_⟩
  ·simp only[lk] at hj
   split at hj
   ·cases hj;exact(hu _ _ _ _ rfl).elim
   ·exact hU.at_ j T k els op L hj hL
  ·obtain⟨x',hj'⟩:=key j x hj
   exact hU.kn j x' L q hj' hL hp
theorem Sim.say (h:Sim E N st th z a w){i:Nat}{nd nd':Nd}(hi:lk st.o i=some nd)(hn: ∀L,th[i]?=some L→NdAt w z th L nd→NdAt w z th L nd')(hu: ∀T k els op,nd'≠ .ul T k els op:=by intro _ _ _ _ h;cases h):Sim E N (Ad st i nd') th z a w:=
 ⟨h.mem.say hi hn hu,h.size,h.dfs,h.slots⟩
theorem Mem.sayU (h:Mem E o n th z w){i:Nat}{T k:Nat}{xls els:List (List AV)}{op:List (Nat×Nat×AV)}(hi:lk o i=some (.lst T k xls))(hl:els.length=xls.length)(hk: ∀e ∈ els,e.length=k)(hU: ∃U,UlOK U E ((i,.ul T k els op)::o) th z w):Mem E ((i,.ul T k els op)::o) n th z w:=by
 have key: ∀j x,lk ((i,Nd.ul T k els op)::o) j=some x→ ∃y,lk o j=some y:=by
  intro j x hj;simp only[lk] at hj;split at hj
  ·rename_i e;subst e;exact⟨_,hi⟩
  ·exact⟨_,hj⟩
 refine⟨h.len,fun j x hj=>?_,fun j k x y L M hj hk=>?_,h.zlt,h.grow,h.frame,h.zin,h.zout,h.zb,h.globs,h.pre,h.sys,hU⟩
 ·simp only[lk] at hj
  split at hj
  ·rename_i e;subst e;cases hj
   obtain⟨L,h1,h2,h3⟩:=h.nds i _ hi;refine⟨L,h1,?_,h3⟩
   rcases h2 with ⟨hp,hn⟩ |⟨hp,cells,fr,g1,g2,g3,g4,g5,_⟩
   ·exact .inl ⟨hp,List.length_eq_zero_iff.1 (by rw[hl,hn];rfl)⟩
   ·exact .inr ⟨hp,cells,fr,g1,g2,g3,g4,by omega,fun q e he=>by rw[g3];exact hk e (List.mem_of_getElem? he)⟩
  ·exact h.nds j x hj
 ·obtain⟨x',hj'⟩:=key j x hj
  obtain⟨y',hk'⟩:=key k y hk;exact h.inj j k x' y' L M hj' hk'
theorem UlOK.say0 {U:Nat→Nat→Prop}(hU:UlOK U E o th z w){i:Nat}{nd:Nd}(hi:lk o i=some nd){T k:Nat}{els:List (List AV)}{op:List (Nat×Nat×AV)}(hA: ∀L,th[i]?=some L→UlAt w z th (fun _=>False) L els op):UlOK U E ((i,.ul T k els op)::o) th z w:=by
 refine⟨fun j T' k' els' op' L hj hL=>?_,hU.lt,hU.nz,hU.ow,hU.inj,fun j x L q hj hL hp=>?_⟩
 ·simp only[lk] at hj
  split at hj
  ·rename_i e;subst e;cases hj
   obtain⟨F,h1,h2,h3⟩:=hA L hL;exact⟨F,fun a b c hb=>(h1 a b c hb).elim,h2,h3⟩
  ·exact hU.at_ j T' k' els' op' L hj hL
 ·simp only[lk] at hj
  split at hj
  ·rename_i e;subst e;exact hU.kn i nd L q hi hL hp
  ·exact hU.kn j x L q hj hL hp
theorem PO (h:Sim E N st th z a w){T:TypeId}{len:Nat}{parts:Array (Nat×Operand)}{d:Option Nat}{t:TypeId}{pos:String}{aft:Array Edge}{g:Option (Nat×Bool)}{k:AV→AS→Prop}{c:Prop}{v:AV}{s:AS}(hq:EM P E.G st (.buildSlice T len parts)=some (c,v,s))(hc:c)(hk:k v s):
  M9 P E N ⟨d,.buildSlice T len parts,t,pos,aft,g⟩ a w th [] st.m k true:=by
 simp only[EM] at hq;unfold P_ at hq;split at hq
 ·rename_i e s1 b1 z1 c1 hT he
  split at hq
  ·rename_i kk sz by' zs c' st' hTe hf
   split at hq
   ·rename_i els op hels
    simp only[Option.some.injEq,Prod.mk.injEq] at hq;obtain⟨rfl,rfl,rfl⟩:=hq;obtain⟨rfl,hle⟩:=hc;obtain⟨z',hz,hS,hr,hm,hn⟩:=Fc c1 h (BM h he) hf;obtain⟨xls,g1,g2,g3,g4⟩:=M1 _ c' 0 _ els op hels hr;rw[←g2] at hle
    have hex:Reps w z' [] (((parts.toList.map (·.2)).map a.eval).map Wg) ((parts.toList.map (·.2)).map a.eval):=⟨by simp,fun i x y h1 h2=>by
     rw[List.getElem?_map,h2] at h1;simp at h1;subst h1;exact UF _⟩
    obtain⟨w',r1,r2,r3⟩:=Kv hS (d:=d) (t:=t) (pos:=pos) (aft:=aft) (g:=g) hT hTe hex g1 hle;have hget:=hS.get_new ⟨w.heap.size,0,sz,xls.length,false⟩;have le:Le w z' w' z':=r2.le (fun _ _ h=>h) hS.mem.zlt
    have hlk:lk ((st'.n,Nd.lst e sz xls)::st'.o) st'.n=some (.lst e sz xls):=by simp[lk]
    obtain⟨U,hU⟩:=r3.mem.uls
    have hmem:=Mem.sayU r3.mem (i:=st'.n) (T:=e) (k:=sz) (xls:=xls) (els:=els) (op:=op) hlk g2.symm (fun e' he'=>by
     obtain⟨q,hq⟩:=List.mem_iff_getElem?.1 he'
     exact(g3 q e' hq).1) ⟨U,hU.say0 hlk (fun L hL=>by
     rw[hget] at hL;cases hL;obtain⟨L',k1,k2,_⟩:=r3.mem.nds st'.n _ hlk;rw[hget] at k1;cases k1
     rcases k2 with ⟨hp,_⟩ |⟨_,cells,fr,q1,q2,q3,q4,q5,q6⟩
     ·cases hp
     refine⟨fun _ _ _=>False,fun _ _ _ h=>h,fun _ _ _ _ _ h=>h.elim,fun i e' he' j x hx=>?_⟩;obtain⟨m1,ys,m2,m3,m4⟩:=g3 i e' he';obtain⟨y,hy,hcu⟩:=m4 j x hx;obtain⟨p1,p2⟩:=q6 i _ m2;obtain⟨y',hy',hr',ho'⟩:=p2 j (.r y) (by rw[List.getElem?_map,hy];rfl);obtain rfl:=hr'.r_inv;rw[Nat.zero_add] at hcu
     exact⟨y',by rw[As q1];exact hy',ho',(hcu _).on le (fun _ h=>h.elim) _⟩)⟩
    have hsub:Sim E N (BV st' (.ul e sz els op)) (th++[⟨w.heap.size,0,sz,xls.length,false⟩]) z' a w':=
     ⟨hmem.sub (fun i x hi=>by
      simp only[BV,lk] at hi ⊢;split
      ·rename_i e1;rw[if_pos e1] at hi;exact hi
      ·rename_i e1;rw[if_neg e1] at hi;exact hi),r3.size,r3.dfs,r3.slots⟩
    rw[←g2];exact⟨_,_,_,_,z',w',.inl r1,by rw[g2];exact hk,hsub,.s _ _ 0 _ _ 0 _ hget rfl (Nat.le_refl _) (by simp) (fun _=>by simp),hm,fun _=>r2,BL _ _,r2.t⟩
   ·cases hq
  ·cases hq
 ·cases hq
end
end Go.AM
namespace Go.AM
open Go
section
variable {P:Program} {E:Env} {N:Nat} {st:AS} {th:List NLoc} {z:AT} {a:Act} {w:World} {o:List (Nat×Nd)} {n:Nat}
theorem Ev: ∀(op:List (Nat×Nat×AV))(i j m i' j':Nat),CN (Gu op i j m) i' j'=if i'=i∧j≤j'∧j'<j+m then none else CN op i' j'
 | [],i,j,m,i',j'=>by simp[Gu,CN]
 |(a,b,x)::r,i,j,m,i',j'=>by
  simp only[Gu];split
  ·rename_i h
   rw[Ev r,CN];split
   ·rfl
   ·rename_i h2
    rw[if_neg (fun e=>h2 ⟨by omega,by omega,by omega⟩)]
  ·rename_i h
   simp only[CN];rw[Ev r]
   by_cases h1:a=i'∧b=j'
   ·rw[if_pos h1,if_pos h1,if_neg (fun e=>h ⟨by omega,by omega,by omega⟩)]
   ·rw[if_neg h1,if_neg h1]
theorem Od {cs new:List AV}{off:Nat}(h:off+new.length≤cs.length)(j:Nat):(splice cs off new)[j]?=if off≤j∧j<off+new.length then new[j - off]? else cs[j]?:=by
 unfold splice
 have hl:(cs.take off).length=off:=by rw[List.length_take];omega
 by_cases h1:j<off
 ·rw[if_neg (by omega),List.append_assoc,List.getElem?_append_left (by omega),List.getElem?_take_of_lt h1]
 ·by_cases h2:j<off+new.length
  ·rw[if_pos (by omega),List.append_assoc,List.getElem?_append_right (by omega),hl,List.getElem?_append_left (by omega)]
  ·rw[if_neg (by omega),List.getElem?_append_right (by simp[hl];omega),List.getElem?_drop]
   simp only[List.length_append,hl]
   congr 1;omega
theorem PN (h:Sim E N st th z a w){T:TypeId}{X V:Operand}{d:Option Nat}{t:TypeId}{pos:String}{aft:Array Edge}{g:Option (Nat×Bool)}{k:AV→AS→Prop}{c:Prop}{vv:AV}{s:AS}(hq:EM P E.G st (.store T X V)=some (c,vv,s))(hc:c)(hk:k vv s):
  M9 P E N ⟨d,.store T X V,t,pos,aft,g⟩ a w th (Ei st E.G (.store T X V)) st.m k false:=by
 simp only[EM] at hq;unfold Ob at hq;split at hq
 ·rename_i y n i off v hT hx hv
  obtain⟨L,hL,hp⟩:=(AP h hx).p_inv;have hr:=AP h hv
  have hts:Ei st E.G (.store T X V)=[n]:=by simp only[Ei,hx]
  rw[hts];split at hq
  ·rename_i T' k' els op ho'
   split at hq
   ·rename_i e c' he hlay
    · ·simp only[Option.some.injEq,Prod.mk.injEq] at hq
       obtain⟨rfl,rfl,rfl⟩:=hq;obtain⟨h2,h3,h4,h5⟩:=hc;obtain⟨L',k1,k2,k6⟩:=h.mem.nds _ _ ho';rw[hL] at k1;cases k1
       rcases k2 with ⟨_,hn0⟩ |⟨hph,cells,fr,g2,g3,g4,g5,g6,g7⟩
       ·subst hn0;simp at he
       obtain⟨k6,k7,k8⟩:=k6 hph;have hcs:=Bs hr h4
       have hsz:(a.eval V).cells.size=y.size:=by have:=hcs.1;rw[h2] at this;simpa using this
       have hone:=Fr hr h4 h5;have hel:=g7 i e he;have hi:i<els.length:=(List.getElem?_eq_some_iff.1 he).1
       have hbd:i * L.k+L.k≤L.cap * L.k:=by
        have:(i+1) * L.k≤L.cap * L.k:=Nat.mul_le_mul_right _ (by omega)
        rwa [Nat.add_mul,Nat.one_mul] at this
       have hll:=MZ hlay;obtain⟨q1,q2,q3⟩:=Az L.b (a.eval V).cells.toList (L.o+i * L.k+off) w cells T' fr g2;have le:Le w z (w.setCells L.b (L.o+i * L.k+off) (a.eval V).cells.toList) z:=⟨fun _ _ h=>h,fun t b hb=>q2 b (fun e=>by subst e;exact k7 t hb)⟩
       have hvl:(a.eval V).cells.toList.length=y.size:=by simpa using hsz
       have hin:L.o+i * L.k+off+(a.eval V).cells.toList.length≤cells.size:=by omega
       have hspl:off+c'.length≤e.length:=by omega
       refine⟨undef,.r undef,_,th,z,w.setCells L.b (L.o+i * L.k+off) (a.eval V).cells.toList,.inr ⟨?_,rfl⟩,hk,h.write ho' hL hph (Ag _ _ _ _) q1 q2 ?_ ?_,.r _ _,rfl,(fun h=>by cases h),Later.refl _,⟨Nat.le_of_eq q1.symm,fun b _ hne=>q2 b (fun e=>hne n (by simp) L hL hph e.symm),Ag _ _ _ _⟩⟩
       ·have:=FP (P:=P) hT (b:=L.b) (o:=L.o+i * L.k+off) hsz g2 g3 (by omega) hone
        simp only[execOp,hp,Sem.run_bind,this,Result.andThen_ok]
        rfl
       ·refine .inr ⟨hph,_,fr,q3,fun q hq=>by rw[Ab] at hq;exact g3 q hq,g4,by rw[Ab];exact g5,by simpa using g6,fun q e' hq=>?_⟩
        rw[List.getElem?_set] at hq;split at hq
        ·obtain rfl:=Option.some.inj hq;rw[GC hspl];exact hel
        ·exact g7 q e' hq
       ·intro T2 k2 els2 op2 heq U hU
        cases heq;obtain⟨F,f1,f2,f3⟩:=hU.at_ n T' k' els op L ho' hL;have hUb: ∀b,U n b→(w.setCells L.b (L.o+i * L.k+off) (a.eval V).cells.toList).heap[b]?=w.heap[b]?:=fun b hb=>q2 b (fun e=>by subst e;exact hU.kn n _ L n ho' hL hph hb);refine⟨F,f1,f2,fun q e' hq j x hx=>?_⟩
        have hcell: ∀p,(w.setCells L.b (L.o+i * L.k+off) (a.eval V).cells.toList).cell? ⟨L.b,p,none⟩=if L.o+i * L.k+off≤p∧p<L.o+i * L.k+off+(a.eval V).cells.toList.length then (a.eval V).cells.toList[p - (L.o+i * L.k+off)]? else w.cell? ⟨L.b,p,none⟩:=by
         intro p;rw[As q3,Av _ _ _ hin,As g2]
        have old: ∀e0,els[q]?=some e0→e0[j]?=some x→ ¬(q=i∧off≤j∧j<off+y.size)→ ∃u,(w.setCells L.b (L.o+i * L.k+off) (a.eval V).cells.toList).cell? ⟨L.b,L.o+q * L.k+j,none⟩=some u∧u.oneCell'=true∧CellU (w.setCells L.b (L.o+i * L.k+off) (a.eval V).cells.toList) z th (F q j) (DY i off v.cells++Gu op i off v.cells.length) q j x u:=by
         intro e0 he0 hx0 hne;obtain⟨u,hu,ho1,hcu⟩:=f3 q e0 he0 j x hx0
         have hjk:j<L.k:=by rw[←g7 q e0 he0];exact(List.getElem?_eq_some_iff.1 hx0).1
         refine⟨u,?_,ho1,?_⟩
         ·rw[hcell,if_neg]
          ·exact hu
          ·intro hr
           rw[hvl] at hr
           by_cases hqi:q=i
           ·subst hqi;exact hne ⟨rfl,by omega,by omega⟩
           ·rcases Nat.lt_or_gt_of_ne hqi with hlt |hlt
            ·have:(q+1) * L.k≤i * L.k:=Nat.mul_le_mul_right _ hlt
             rw[Nat.add_mul,Nat.one_mul] at this;omega
            ·have:(i+1) * L.k≤q * L.k:=Nat.mul_le_mul_right _ hlt
             rw[Nat.add_mul,Nat.one_mul] at this;omega
         ·have hcu:=hcu.on le (fun b hb=>hUb b (f1 _ _ _ hb)) []
          rw[List.append_nil] at hcu;unfold CellU at hcu ⊢;rw[D5,Ev,if_neg (by omega)]
          have:CN (DY i off v.cells) q j=none:=by
           by_cases hqi:q=i
           ·subst hqi;exact Gb _ _ _ (by omega)
           ·exact FT _ _ _ _ hqi
          rw[this];exact hcu
        rw[List.getElem?_set] at hq;split at hq
        ·rename_i hqi
         ·subst hqi
          obtain rfl:=Option.some.inj hq;rw[Od hspl] at hx;split at hx
          ·rename_i hj
           obtain⟨u,hu,hcu⟩:=KL (f:=F i j) (i:=i) (j0:=off) hlay hcs (j - off) x hx;refine⟨u,?_,hone u (List.mem_of_getElem? hu),?_⟩
           ·rw[hcell,if_pos (by omega),show L.o+i * L.k+j - (L.o+i * L.k+off)=j - off by omega]
            exact hu
           ·rw[show off+(j - off)=j by omega] at hcu
            have hcu:=hcu.on le (fun b hb=>hUb b (f1 _ _ _ hb)) [];rw[List.append_nil] at hcu;unfold CellU at hcu ⊢;rw[D5];split at hcu
            ·rename_i x' hx';first |exact hcu |(rw[hx'];exact hcu)
            ·rename_i hx';first |(rw[hx'];simp only;rw[Ev,if_pos (by omega)];exact hcu) |(rw[Ev,if_pos (by omega)];exact hcu)
          ·rename_i hj
           exact old e he hx (by omega)
        ·rename_i hqi
         exact old e' hq hx (fun hh=>hqi hh.1.symm)
   ·cases hq
  ·cases hq
 ·cases hq
theorem Mn (h:Sim E N st th z a w){T:TypeId}{r:Option Operand}{d:Option Nat}{t:TypeId}{pos:String}{aft:Array Edge}{g:Option (Nat×Bool)}{k:AV→AS→Prop}{c:Prop}{vv:AV}{s:AS}(hq:EM P E.G st (.makeMap T r)=some (c,vv,s))(hc:c)(hk:k vv s):
  M9 P E N ⟨d,.makeMap T r,t,pos,aft,g⟩ a w th [] st.m k true:=by
 cases r with
 |some r=>simp[EM] at hq
 |none=>
  simp only[EM,Option.some.injEq,Prod.mk.injEq] at hq;obtain⟨rfl,rfl,rfl⟩:=hq;have e:=Eb w (.map #[] 0);have hS:=h.add e ⟨w.heap.size,0,0,0,false⟩ (.mp []) (Nat.le_refl _) (by simp) ⟨rfl,#[],0,FV _ _,rfl,fun e he=>by simp at he⟩;refine⟨.map (some w.heap.size),_,_,_,z,_,.inl ?_,hk,hS,.q _ _ _ (h.get_new _),rfl,fun _=>e,BL _ _,e.t⟩;simp[execOp,Instr.makeMap]
theorem Km (h:Sim E N st th z a w){T:TypeId}{M K V:Operand}{d:Option Nat}{t:TypeId}{pos:String}{aft:Array Edge}{g:Option (Nat×Bool)}{k:AV→AS→Prop}{c:Prop}{vv:AV}{s:AS}(hq:EM P E.G st (.mapUpdate T M K V)=some (c,vv,s))(hc:c)(hk:k vv s):
  M9 P E N ⟨d,.mapUpdate T M K V,t,pos,aft,g⟩ a w th (Ei st E.G (.mapUpdate T M K V)) st.m k false:=by
 simp only[EM] at hq;unfold VZ at hq;split at hq
 ·rename_i kT e s1 b1 z1 n v hT hm hkey hx
  split at hq
  ·rename_i s2 b2 z2 l hk2 hl
   simp only[Option.some.injEq,Prod.mk.injEq] at hq;obtain⟨rfl,rfl,rfl⟩:=hq
   have hts:Ei st E.G (.mapUpdate T M K V)=[n]:=by simp only[Ei,hm]
   rw[hts];obtain⟨L,hL,hv⟩:=(AP h hm).q_inv;have hkv:=(AP h hkey).r_inv
   have hxv:a.eval V= .agg #[]:=by
    obtain⟨ys,h1,h2⟩:=(AP h hx).agg_inv;rw[h1,h2.of_nil]
   obtain⟨L',h1,⟨hp,es,ck,h2,h3,hvals⟩,h4⟩:=h.mem.nds _ _ hl;rw[hL] at h1;cases h1;obtain⟨r,g1,g2,g3⟩:=Iy (P:=P) (DU hk2 rfl) (v:=v) h3;have hund:=MD hT rfl;have hset: ∀ob:Obj,(setObj L.b ob).run P w= .ok () {w with heap:=w.heap.setIfInBounds L.b ob}:=fun ob=>MapKept.run_setObj_map ob h2;have hlt:L.b<w.heap.size:=(h4 hp).1
   have fin: ∀(es':Array MapEntry)(ck':Nat),es'.toList.map (·.key)=(Ok l v).map (.int .i64 ·)→(∀e ∈ es'.toList,e.val= .agg #[])→(Instr.mapUpdate T (a.eval M) (a.eval K) (a.eval V)).run P w= .ok () {w with heap:=w.heap.setIfInBounds L.b (.map es' ck')}→M9 P E N ⟨d,.mapUpdate T M K V,t,pos,aft,g⟩ a w th [n] st.m k false:=by
    intro es' ck' hes hev hrun
    have hsame: ∀b,b≠L.b→(w.heap.setIfInBounds L.b (.map es' ck'))[b]?=w.heap[b]?:=fun b hb=>by rw[Array.getElem?_setIfInBounds_ne (Ne.symm hb)]
    refine⟨undef,.r undef,_,th,z,{w with heap:=w.heap.setIfInBounds L.b (.map es' ck')},.inr ⟨?_,rfl⟩,hk,h.write hl hL hp (w':={w with heap:=w.heap.setIfInBounds L.b (.map es' ck')}) ⟨rfl,rfl,rfl⟩ (by simp) hsame ⟨hp,es',ck',?_,hes,hev⟩,.r _ _,rfl,(fun h=>by cases h),Later.refl _,⟨by simp,fun b _ hne=>hsame b (fun e=>hne n (by simp) L hL hp e.symm),⟨rfl,rfl,rfl⟩⟩⟩
    ·simp only[execOp,Sem.run_bind,hrun,Result.andThen_ok];rfl
    ·show(w.heap.setIfInBounds L.b (.map es' ck'))[L.b]?=_
     rw[Array.getElem?_setIfInBounds_self_of_lt hlt]
   cases r with
   |none=>
    have hnot:l.contains v=false:=by rw[←g2];rfl
    refine fin (es.push {key:= .int .i64 v,val:=a.eval V,born:=ck}) (ck+1) (by
     have hpk:Ok l v=l++[v]:=by unfold Ok;rw[hnot];rfl
     rw[hpk];simp[h3]) (fun e he=>by
     simp only[Array.toList_push,List.mem_append,List.mem_singleton] at he
     rcases he with he |rfl
     ·exact hvals e he
     ·exact hxv) ?_
    rw[hv,hkv];simp only[Instr.mapUpdate,Sem.run_bind,AF hund,Result.andThen_ok,H4 h2,FB (DU hk2 rfl),g1,hset]
   |some p=>
    obtain⟨i,u⟩:=p
    have hin:l.contains v=true:=by rw[←g2];rfl
    have key: ∀(es0:List MapEntry)(l0:List Int)(q:Nat),es0.map (·.key)=l0.map (.int .i64 ·)→Instr.findNow (.int .i64) (.int .i64 v) es0 q=some (some (i,u))→ ∃j,i=q+j∧(es0[j]?).map (·.key)=some (.int .i64 v):=by
     intro es0
     induction es0 with
     |nil=>intro l0 q _ hf;simp[Instr.findNow] at hf
     |cons e es0 ih=>
      intro l0 q hh hf
      cases l0 with
      |nil=>simp at hh
      |cons k0 l0=>
       simp only[List.map_cons,List.cons.injEq] at hh;simp only[Instr.findNow,hh.1,Instr.sameNow,if_true] at hf
       by_cases hvk:v=k0
       ·subst hvk
        simp at hf;exact⟨0,by omega,by simp[hh.1]⟩
       ·have:(v==k0)=false:=by simpa using hvk
        rw[this] at hf;obtain⟨j,hj,hj2⟩:=ih l0 (q+1) hh.2 hf;exact⟨j+1,by omega,by simpa using hj2⟩
    obtain⟨j,hj,hj2⟩:=key es.toList l 0 h3 g3;rw[Nat.zero_add] at hj;subst hj;rw[Array.getElem?_toList] at hj2;refine fin (es.modify i fun e=>{e with key:= .int .i64 v,val:=a.eval V}) ck ?_ (fun e he=>?_) ?_
    ·simp only[Ok,hin,cond_true]
     rw[←h3];apply List.ext_getElem?;intro q;rw[List.getElem?_map,List.getElem?_map,Array.getElem?_toList,Array.getElem?_toList,Array.getElem?_modify];split
     ·rename_i e;subst e
      cases hq:es[i]? with
      |none=>rfl
      |some e0=>rw[hq] at hj2;simp at hj2;simp[hj2]
     ·rfl
    ·obtain⟨q,hq⟩:=List.mem_iff_getElem?.1 he
     rw[Array.getElem?_toList,Array.getElem?_modify] at hq;split at hq
     ·cases hq0:es[q]? with
      |none=>rw[hq0] at hq;simp at hq
      |some e0=>rw[hq0] at hq;simp at hq;rw[←hq];exact hxv
     ·exact hvals e (List.mem_of_getElem? (by rw[Array.getElem?_toList];exact hq))
    ·rw[hv,hkv]
     have hkeep:(Instr.keyThatStays (((es[i]?).map (·.key)).getD (.int .i64 v)) (.int .i64 v)).run P w= .ok (.int .i64 v) w:=by
      rw[hj2]
      have hsb:Instr.sameBits 10000 (.int .i64 v) (.int .i64 v)=true:=by
       rw[show(10000:Nat)=9999+1 from rfl];simp[Instr.sameBits]
      simp only[Instr.keyThatStays,Option.getD_some,hsb,if_true]
      rfl
     simp only[Instr.mapUpdate,Sem.run_bind,AF hund,Result.andThen_ok,H4 h2,FB (DU hk2 rfl),g1,hkeep,hset]
  ·cases hq
 ·cases hq
end
end Go.AM
namespace Go.AM
open Go
section
variable {P:Program} {E:Env} {N:Nat} {st:AS} {th:List NLoc} {z:AT} {a:Act} {w:World} {o:List (Nat×Nd)} {n:Nat}
theorem MX (d:Nat): ∀(op:List (Nat×Nat×AV))(i j:Nat),CN (VE d op) i j=if d≤i then CN op (i - d) j else none
 | [],i,j=>by simp[VE,CN]
 |(p,q,x)::r,i,j=>by
  have:=MX d r i j;simp only[VE,List.map_cons,CN] at this ⊢;rw[this]
  by_cases h:d≤i
  ·simp only[h,if_true]
   by_cases h1:p=i - d∧q=j
   ·rw[if_pos h1,if_pos ⟨by omega,h1.2⟩]
   ·rw[if_neg h1,if_neg (fun e=>h1 ⟨by omega,e.2⟩)]
  ·simp only[h,if_false]
   rw[if_neg (by omega)]
theorem Sim.exact (h:Sim E N st th z a w){T k:Nat}{els:List (List AV)}{op:List (Nat×Nat×AV)}{L:NLoc}(hi:lk st.o n=some (.ul T k els op))(hL:th[n]?=some L):
  ∃xls:List (List AV),xls.length=els.length∧(∀x ∈ xls,x.length=k)∧(∀(i:Nat)(e:List AV)(j:Nat)(x:AV),els[i]?=some e→e[j]?=some x→ ∀y,w.cell? ⟨L.b,L.o+i * L.k+j,none⟩=some y→ ∃xr,xls[i]?=some xr∧xr[j]?=some (.r y))∧Sim E N (Ad st n (.lst T k xls)) th z a w:=by
 obtain⟨U,hU⟩:=h.mem.uls;obtain⟨F,_,_,f3⟩:=hU.at_ n T k els op L hi hL;obtain⟨L',h1,h2,_⟩:=h.mem.nds n _ hi;rw[hL] at h1;cases h1
 have len: ∀(i:Nat)(e:List AV),els[i]?=some e→e.length=L.k∧L.k=k:=by
  intro i e he
  rcases h2 with ⟨_,h0⟩ |⟨_,cells,fr,g1,g2,g3,g4,g5,g6⟩
  ·subst h0;simp at he
  ·exact⟨g6 i e he,g3⟩
 refine⟨(List.range els.length).map fun i=>(List.range k).map fun j=> .r ((w.cell? ⟨L.b,L.o+i * L.k+j,none⟩).getD undef),by simp,fun x hx=>?_,fun i e j x he hx y hy=>?_,h.say hi (fun M hM hn=>?_)⟩
 ·obtain⟨i,_,rfl⟩:=List.mem_map.1 hx;simp
 ·have hi':i<els.length:=(List.getElem?_eq_some_iff.1 he).1
  have hj:j<k:=by rw[←(len i e he).2,←(len i e he).1];exact(List.getElem?_eq_some_iff.1 hx).1
  exact⟨_,by rw[List.getElem?_map,List.getElem?_range hi'];rfl,by rw[List.getElem?_map,List.getElem?_range hj];simp[hy]⟩
 ·rw[hL] at hM;cases hM
  rcases hn with ⟨hp,h0⟩ |⟨hp,cells,fr,g1,g2,g3,g4,g5,g6⟩
  ·subst h0;exact .inl ⟨hp,by simp⟩
  ·refine .inr ⟨hp,cells,fr,g1,g2,g3,g4,by simpa using g5,fun i e he=>?_⟩
   have hi':i<els.length:=by have:=(List.getElem?_eq_some_iff.1 he).1;simpa using this
   rw[List.getElem?_map,List.getElem?_range hi'] at he;simp only[Option.map_some,Option.some.injEq] at he;subst he;refine⟨by simp[g3],fun j x hx=>?_⟩
   have hj:j<k:=by have:=(List.getElem?_eq_some_iff.1 hx).1;simpa using this
   rw[List.getElem?_map,List.getElem?_range hj] at hx;simp only[Option.map_some,Option.some.injEq] at hx;subst hx
   have he0:els[i]?=some els[i]:=by simp[hi']
   have hl0:=(len i _ he0).1
   have hj0:j<els[i].length:=by rw[hl0,g3];exact hj
   obtain⟨y,hy,ho,_⟩:=f3 i els[i] he0 j els[i][j] (by simp[hj0]);refine⟨y,?_,by rw[hy];exact .r _ _,ho⟩;rw[As g1] at hy;exact hy
theorem RC {k n:Nat}{nd:Nd}{x:AV}{els:List (List AV)}(h:CL st k x=some els){T k':Nat}{els':List (List AV)}{op:List (Nat×Nat×AV)}(hn:lk st.o n=some (.ul T k' els' op)):CL (Ad st n nd) k x=some els:=by
 unfold CL at h ⊢;split at h
 ·exact h
 ·rename_i m lo len
  simp only[Ad,lk]
  by_cases e:n=m
  ·subst e;rw[hn] at h;cases h
  ·rw[if_neg e];exact h
 ·exact h
 ·cases h
def Xy (P:Program)(E:Env)(N:Nat)(st:AS)(th:List NLoc)(z:AT)(a:Act)(w:World)(n e e' sz:Nat)(xn:List (List AV))(U:Nat→Nat→Prop)(x:AV)(els2:List (List AV))(op2:List (Nat×Nat×AV))(ms:Option Nat):Prop:=
 ∃(stX:AS)(new:List (List AV))(Fm:Nat→Nat→Nat→Prop),Sim E N stX th z a w∧lk stX.o n=some (.lst e sz xn)∧stX.n=st.n∧(∀i y,ms≠some i→i≠n→lk st.o i=some y→lk stX.o i=some y)∧LH stX sz (TK.slice e') x=some new∧new.length=els2.length∧(∀e ∈ els2,e.length=sz)∧
  (∀i j b,Fm i j b→ ∃m,ms=some m∧U m b)∧(∀i j i' j' b,Fm i j b→Fm i' j' b→i=i'∧j=j')∧
  (∀(i:Nat)(e:List AV)(j:Nat)(x:AV),els2[i]?=some e→e[j]?=some x→ ∃en xn,new[i]?=some en∧en[j]?=some xn∧ ∀(w':World)(th':List NLoc)(y:Value),Le w z w' z→(∀i b,U i b→w'.heap[b]?=w.heap[b]?)→Rep w' z [] xn y→CellU w' z (th++th') (Fm i j) op2 i j x y)
theorem LX (h:Sim E N st th z a w){n e e' sz:Nat}{xn:List (List AV)}{U:Nat→Nat→Prop}{x:AV}{els2:List (List AV)}{op2:List (Nat×Nat×AV)}{ms:Option Nat}{els:List (List AV)}(hXn:Sim E N (Ad st n (.lst e sz xn)) th z a w)(hn:lk st.o n=some (.ul e sz els []))
  {T':TypeId} {y':TY} (hT':AR P T'=some y') (hy:y'.k= .slice e') {v2:Value} (hr:Rep w z th x v2) (hsz:0<sz) (hx:(CL st sz x).map (fun els=>(els,([]:List (Nat×Nat×AV)),(none:Option Nat)))=some (els2,op2,ms)):Xy P E N st th z a w n e e' sz xn U x els2 op2 ms:=by
 obtain⟨el,hel,hh⟩:=Option.map_eq_some_iff.1 hx;simp only[Prod.mk.injEq] at hh;obtain⟨rfl,rfl,rfl⟩:=hh;refine⟨Ad st n (.lst e sz xn),el,fun _ _ _=>False,hXn,by simp[Ad,lk],rfl,fun i y _ hi hy=>?_,RC hel hn,rfl,fun e' he'=>?_,fun _ _ _ h=>h.elim,fun _ _ _ _ _ h=>h.elim,fun i e j x he hx=>⟨e,x,he,hx,fun w' th' y _ _ hr=> .r _ _ _ hr⟩⟩
 ·simp only[Ad,lk];rw[if_neg (Ne.symm hi)];exact hy
 ·obtain⟨news,_,h2,_⟩:=EQ h hT' hr hsz (show LH st sz y'.k x=some el by rw[hy];exact hel)
  exact h2 e' he'
theorem Sp (h:Sim E N st th z a w){args:Array Operand}{ats:Array TypeId}{d:Option Nat}{t:TypeId}{pos:String}{aft:Array Edge}{g:Option (Nat×Bool)}{k:AV→AS→Prop}{c:Prop}{vv:AV}{s:AS}(hq:EM P E.G st (.call {callee:= .builtin .append,args:=args,argTypes:=ats})=some (c,vv,s))(hc:c)(hk:k vv s):
  M9 P E N ⟨d,.call {callee:= .builtin .append,args:=args,argTypes:=ats},t,pos,aft,g⟩ a w th (Ei st E.G (.call {callee:= .builtin .append,args:=args,argTypes:=ats})) st.m k false:=by
 obtain⟨args⟩:=args;obtain⟨ats⟩:=ats;simp only[EM] at hq;unfold WA at hq;split at hq
 case h_2=>cases hq
 rename_i b x T T' he;split at hq
 case h_2=>cases hq
 rename_i e s1 b1 z1 e' s2 b2 z2 hT hT';split at hq
 case h_2=>cases hq
 rename_i kk sz bytes zs hTe;split at hq
 case h_2=>cases hq
 rename_i els n els2 op2 ms hb hx;simp only[Option.some.injEq,Prod.mk.injEq] at hq;obtain⟨rfl,rfl,rfl⟩:=hq;obtain⟨hzl,hsz,hby,h63,hms⟩:=hc;obtain⟨i,dd,hi1,hi2,hi3⟩:=Ax hTe;simp only[TY.mk.injEq] at hi3;obtain⟨_,hisz,hiby,hiz⟩:=hi3;obtain⟨v0,hv0,hv0'⟩:=Option.map_eq_some_iff.1 hiz.symm
 have hz0:v0.cells.size=sz:=by rw[←hzl,←hv0'];simp
 obtain⟨v1,r1,hargs,hr1,hrest⟩:=(BM h he).head;obtain⟨v2,r2,rfl,hr2,hrest2⟩:=hrest.head;obtain rfl:=hrest2.of_nil
 have hbn:b= .s n 0 els.length∧lk st.o n=some (.ul e sz els []):=by
  unfold T5 at hb;split at hb
  ·rename_i m len
   split at hb
   ·rename_i T0 k0 els0 hm
    split at hb
    ·rename_i hcond
     obtain⟨rfl,rfl,rfl⟩:=hcond;simp only[Option.some.injEq,Prod.mk.injEq] at hb;obtain⟨rfl,rfl⟩:=hb;exact⟨rfl,hm⟩
    ·cases hb
   ·cases hb
  ·cases hb
 obtain⟨rfl,hn⟩:=hbn
 have hts:Ei st E.G (.call {callee:= .builtin .append,args:=args.toArray,argTypes:=[T,T'].toArray})=[n]:=by simp only[Ei,he]
 obtain⟨L,hL,hnd,hk3⟩:=h.mem.nds n _ hn;obtain⟨xn,xn1,xn2,xn3,hXn⟩:=h.exact hn hL;obtain⟨U,hU⟩:=h.mem.uls;obtain⟨Fn,fn1,fn2,fn3⟩:=hU.at_ n _ _ _ _ _ hn hL
 have src:Xy P E N st th z a w n e e' sz xn U x els2 op2 ms:=by
  unfold VC at hx;split at hx
  ·rename_i m lo len
   split at hx
   ·rename_i T2 k2 elsm opm hm
    split at hx
    ·rename_i hcond
     obtain⟨rfl,rfl,rfl⟩:=hcond;simp only[Option.some.injEq,Prod.mk.injEq] at hx;obtain⟨rfl,rfl,rfl⟩:=hx;have hmn:n≠m:=fun e=>hms (by rw[e]);obtain⟨Lm,hLm,hndm,_⟩:=h.mem.nds m _ hm
     have hm':lk (Ad st n (.lst e k2 xn)).o m=some (.ul T2 k2 elsm opm):=by simp only[Ad,lk];rw[if_neg hmn];exact hm
     obtain⟨xm,xm1,xm2,xm3,hXm⟩:=hXn.exact hm' hLm;obtain⟨Fm,fm1,fm2,fm3⟩:=hU.at_ m _ _ _ _ _ hm hLm;refine⟨Ad (Ad st n (.lst e k2 xn)) m (.lst T2 k2 xm),xm,Fm,hXm,by simp only[Ad,lk];rw[if_neg (Ne.symm hmn)];simp,rfl,fun i y h1 h2 hy=>?_,?_,xm1,fun e' he'=>?_,fun i j b hb=>⟨m,rfl,fm1 i j b hb⟩,fm2,fun i e j x he hx=>?_⟩
     ·simp only[Ad,lk]
      rw[if_neg (fun e=>h1 (by rw[e])),if_neg (Ne.symm h2)];exact hy
     ·simp only[LH,CL,Ad,lk,if_true,Nat.zero_add]
      rw[if_pos ⟨trivial,by rw[xm1];exact Nat.le_refl _⟩,List.drop_zero,List.take_of_length_le (by rw[xm1];exact Nat.le_refl _)]
     ·obtain⟨q,hq⟩:=List.mem_iff_getElem?.1 he'
      rcases hndm with ⟨_,h0⟩ |⟨_,cells,fr,g1,g2,g3,g4,g5,g6⟩
      ·subst h0;simp at hq
      ·rw[←g3];exact g6 q e' hq
     ·obtain⟨y0,hy0,_,hcu⟩:=fm3 i e he j x hx
      obtain⟨xr,hxr,hxj⟩:=xm3 i e j x he hx y0 hy0;refine⟨xr,_,hxr,hxj,fun w' th' y le hs hr=>?_⟩;obtain rfl:=hr.r_inv;exact hcu.on le (fun b hb=>hs m b (fm1 _ _ _ hb)) th'
    ·cases hx
   ·exact LX h hXn hn hT' rfl hr2 hsz hx
  ·exact LX h hXn hn hT' rfl hr2 hsz hx
 obtain⟨stX,new,Fm,hX,hXlk,hXN,hXold,hXs,hnl,hk2,fm1,fm2,fm3⟩:=src;obtain⟨news,hs,hel,hcell⟩:=EQ hX hT' hr2 hsz hXs;obtain⟨v,L2,w',g1,g2,g3,g4,g5⟩:=JB hX (t:=t) hT hi1 hv0 hisz.symm hiby.symm hz0 hsz hXlk (lo:=0) (len:=els.length) (by rw[xn1];omega) (by rw[hnl];exact hby) (by rw[hnl];exact h63) hr1 hs hel hcell
 have htk:(xn.drop 0).take els.length=xn:=by rw[List.drop_zero,List.take_of_length_le (by rw[xn1];exact Nat.le_refl _)]
 rw[htk] at g2;rw[hXN,hnl] at g3
 have hUL: ∀i b,U i b→w'.heap[b]?=w.heap[b]?:=fun i b hb=>g4.same b (hU.lt i b hb) (fun q hq M hM hp e=>by
  obtain rfl:n=q:=(List.mem_singleton.1 hq).symm;rw[hL] at hM;cases hM
  subst e;exact hU.kn n _ L i hn hL hp hb)
 have le:Le w z w' z:=⟨fun _ _ h=>h,fun t b hb=>g4.same b (h.mem.zlt t b hb) (fun q hq M hM hp e=>by
  obtain rfl:n=q:=(List.mem_singleton.1 hq).symm;rw[hL] at hM;cases hM
  subst e;exact(hk3 hp).2.1 t hb)⟩
 have hlkn: ∀i y,lk (rm (WO st.o ms) n) i=some y→i≠n∧ms≠some i∧lk st.o i=some y:=by
  intro i y hi;rw[FX] at hi;split at hi
  ·cases hi
  ·rename_i hne
   cases ms with
   |none=>exact⟨Ne.symm hne,(by simp),hi⟩
   |some m=>
    simp only[WO] at hi;rw[FX] at hi;split at hi
    ·cases hi
    ·rename_i hne2;exact⟨Ne.symm hne,(fun e=>hne2 (by cases e;rfl)),hi⟩
 have hstn: ∀i y,lk st.o i=some y→i<st.n:=fun i y hi=>by
  obtain⟨M,k1,_⟩:=h.mem.nds i y hi;rw[←h.mem.len];exact(List.getElem?_eq_some_iff.1 k1).1
 have hget:(th++[L2])[st.n]?=some L2:=h.get_new L2
 have hold: ∀i M,i<st.n→(th++[L2])[i]?=some M→th[i]?=some M:=fun i M hi hM=>by rwa [List.getElem?_append_left (by rw[h.mem.len];exact hi)] at hM
 have m1:Mem E ((st.n,.lst e sz (xn++new))::rm (WO st.o ms) n) (st.n+1) (th++[L2]) z w':=by
  have:=g2.mem;simp only[BV,hXN] at this;refine this.sub (fun i y hi=>?_);simp only[lk] at hi ⊢;split at hi
  ·rename_i e;rw[if_pos e];exact hi
  ·rename_i e
   rw[if_neg e];obtain⟨k1,k2,k3⟩:=hlkn i y hi;rw[FX,if_neg (Ne.symm k1)];exact hXold i y k2 k1 k3
 obtain⟨L2',p1,p2,p3⟩:=m1.nds st.n (.lst e sz (xn++new)) (by simp[lk]);rw[hget] at p1;cases p1
 have m2:=m1.sayU (i:=st.n) (T:=e) (k:=sz) (xls:=xn++new) (els:=els++els2) (op:=VE els.length op2) (by simp[lk]) (by simp[xn1,hnl]) (fun e' he'=>by
  rcases List.mem_append.1 he' with he' |he'
  ·obtain⟨q,hq⟩:=List.mem_iff_getElem?.1 he'
   rcases hnd with ⟨_,h0⟩ |⟨_,cells,fr,g1,g2,g3,g4,g5,g6⟩
   ·subst h0;simp at hq
   ·rw[←g3];exact g6 q e' hq
  ·exact hk2 e' he') ⟨fun i b=>if i=st.n then (U n b∨ ∃m,ms=some m∧U m b) else (i≠n∧ms≠some i∧U i b),?_⟩
 ·have hsim:Sim E N (BV {st with o:=rm (WO st.o ms) n} (.ul e sz (els++els2) (VE els.length op2))) (th++[L2]) z a w':=by
   refine⟨m2.sub (fun i y hi=>?_),h.size,h.dfs,fun i y hi=>?_⟩
   ·simp only[BV,lk] at hi ⊢
    split
    ·rename_i e1;rw[if_pos e1] at hi;exact hi
    ·rename_i e1;rw[if_neg e1] at hi;exact hi
   ·obtain⟨u,hu,hr⟩:=h.slots i y hi
    exact⟨u,hu,hr.on le [L2]⟩
  rw[hts];refine⟨v,_,_,_,z,w',.inl ?_,hk,hsim,g3,rfl,(fun h=>by cases h),BL _ _,g4⟩;simp only[execOp,resolve,invoke,builtin,Sem.run_bind,Sem.run_pure,Result.andThen_ok]
  have he2:(Array.map a.eval args.toArray)= #[v1,v2]:=by simpa using hargs
  rw[he2,g1];rfl
 ·refine⟨fun i T0 k0 els0 op0 M hi hM=>?_,fun i b hb=>?_,fun i b hb=>?_,fun i b hb=>?_,fun i j b hb hb'=>?_,fun i nd M j hi hM hp hb=>?_⟩
  ·simp only[lk] at hi
   by_cases hie:st.n=i
   ·subst hie
    rw[if_pos rfl] at hi;cases hi;rw[hget] at hM;cases hM;simp only[if_true];refine⟨fun i j=>if i<els.length then Fn i j else Fm (i - els.length) j,fun i j b hb=>?_,fun i j i' j' b hb hb'=>?_,fun i e0 he0 j x0 hx0=>?_⟩
    ·dsimp only at hb
     split at hb
     ·exact .inl (fn1 _ _ _ hb)
     ·exact .inr (fm1 _ _ _ hb)
    ·dsimp only at hb hb'
     split at hb<;>split at hb'
     ·exact fn2 _ _ _ _ _ hb hb'
     ·obtain⟨m,rfl,hm⟩:=fm1 _ _ _ hb'
      exact(hms (by rw[hU.inj _ _ _ (fn1 _ _ _ hb) hm])).elim
     ·obtain⟨m,rfl,hm⟩:=fm1 _ _ _ hb
      exact(hms (by rw[hU.inj _ _ _ (fn1 _ _ _ hb') hm])).elim
     ·have:=fm2 _ _ _ _ _ hb hb'
      exact⟨by omega,this.2⟩
    ·rcases p2 with ⟨_,h0⟩ |⟨hp2,cells,fr,q1,q2,q3,q4,q5,q6⟩
     ·have hl:=congrArg List.length h0
      simp[xn1,hnl] at hl;have h1:=(List.getElem?_eq_some_iff.1 he0).1;simp[hl.1,hl.2] at h1
     ·by_cases hlt:i<els.length
      ·rw[List.getElem?_append_left hlt] at he0
       obtain⟨y0,hy0,ho0,hcu⟩:=fn3 i e0 he0 j x0 hx0;obtain⟨xr,hxr,hxj⟩:=xn3 i e0 j x0 he0 hx0 y0 hy0;obtain⟨_,q7⟩:=q6 i xr (by rw[List.getElem?_append_left (by rw[xn1];exact hlt)];exact hxr);obtain⟨y1,hy1,hr1',ho1⟩:=q7 j _ hxj;obtain rfl:=hr1'.r_inv;refine⟨y1,by rw[As q1];exact hy1,ho1,?_⟩;simp only[hlt,if_true];have hcu:=hcu.on le (fun b hb=>hUL n b (fn1 _ _ _ hb)) [L2];unfold CellU at hcu ⊢;rw[MX,if_neg (by omega)];exact hcu
      ·rw[List.getElem?_append_right (by omega)] at he0
       obtain⟨en,xn',hen,hxn',hfin⟩:=fm3 _ e0 j x0 he0 hx0;obtain⟨_,q7⟩:=q6 i en (by rw[List.getElem?_append_right (by rw[xn1];omega),xn1];exact hen);obtain⟨y1,hy1,hr1',ho1⟩:=q7 j _ hxn';refine⟨y1,by rw[As q1];exact hy1,ho1,?_⟩;simp only[hlt,if_false];have hcu:=hfin w' [L2] y1 le hUL hr1';unfold CellU at hcu ⊢;rw[MX,if_pos (by omega)];exact hcu
   ·rw[if_neg hie,if_neg hie] at hi
    obtain⟨k1,k2,k3⟩:=hlkn i _ hi;have hM':=hold i M (hstn i _ k3) hM;obtain⟨M',j1,j2,j3⟩:=h.mem.nds i _ k3;rw[hM'] at j1;cases j1
    have hbM:els0=[]∨w'.heap[M.b]?=w.heap[M.b]?:=by
     rcases j2.ul_nil with h6 |h6
     ·exact .inl h6
     ·exact .inr (g4.same _ (j3 h6).1 (fun q hq A hA hp e=>by
       obtain rfl:n=q:=(List.mem_singleton.1 hq).symm;rw[hL] at hA;cases hA
       exact k1 (h.mem.inj i n _ _ M L k3 hn hM' hL h6 hp e.symm)))
    obtain⟨F,u1,u2,u3⟩:=(hU.at_ i T0 k0 els0 op0 M k3 hM').on le (fun b hb=>hUL i b hb) hbM [L2];refine⟨F,fun i' j b hb=>?_,u2,u3⟩;dsimp only;rw[if_neg (Ne.symm hie)];exact⟨k1,k2,u1 i' j b hb⟩
  ·have: ∃i,U i b:=by
    split at hb
    ·rcases hb with hb |⟨m,_,hb⟩
     ·exact⟨_,hb⟩
     ·exact⟨_,hb⟩
    ·exact⟨_,hb.2.2⟩
   obtain⟨i,hb⟩:=this;exact Nat.lt_of_lt_of_le (hU.lt i b hb) g4.size
  ·have: ∃i,U i b:=by
    split at hb
    ·rcases hb with hb |⟨m,_,hb⟩
     ·exact⟨_,hb⟩
     ·exact⟨_,hb⟩
    ·exact⟨_,hb.2.2⟩
   obtain⟨i,hb⟩:=this;exact hU.nz i b hb
  ·have: ∃i,U i b:=by
    split at hb
    ·rcases hb with hb |⟨m,_,hb⟩
     ·exact⟨_,hb⟩
     ·exact⟨_,hb⟩
    ·exact⟨_,hb.2.2⟩
   obtain⟨i,hb⟩:=this;exact hU.ow i b hb
  ·split at hb<;>split at hb'
   ·omega
   ·rcases hb with hb |⟨m,hm,hb⟩
    ·exact(hb'.1 (hU.inj _ _ _ hb'.2.2 hb)).elim
    ·exact(hb'.2.1 (by rw[hU.inj _ _ _ hb'.2.2 hb];exact hm)).elim
   ·rcases hb' with hb' |⟨m,hm,hb'⟩
    ·exact(hb.1 (hU.inj _ _ _ hb.2.2 hb')).elim
    ·exact(hb.2.1 (by rw[hU.inj _ _ _ hb.2.2 hb'];exact hm)).elim
   ·exact hU.inj _ _ _ hb.2.2 hb'.2.2
  ·have hex: ∃i,U i M.b:=by
    split at hb
    ·rcases hb with hb |⟨m,_,hb⟩
     ·exact⟨_,hb⟩
     ·exact⟨_,hb⟩
    ·exact⟨_,hb.2.2⟩
   obtain⟨q,hq⟩:=hex;simp only[lk] at hi
   by_cases hie:st.n=i
   ·subst hie
    rw[hget] at hM;cases hM
    rcases g5 hp with g6 |⟨A,hA,hpA,hbA⟩
    ·have:=hU.lt q _ hq;omega
    ·rw[hL] at hA;cases hA
     rw[hbA] at hq;exact hU.kn n _ L q hn hL hpA hq
   ·rw[if_neg hie,if_neg hie] at hi
    obtain⟨k1,k2,k3⟩:=hlkn i _ hi;exact hU.kn i _ M q k3 (hold i M (hstn i _ k3) hM) hp hq
end
end Go.AM
