/- Texts of the law BaseUndoes, part 6: lemmas; what is proved stands in the last text. -/
import Derived.Test.YtekljlenlbhmcaaGreatDoorZz5
import Derived.Test.YtekljlenlbhmcaaGreatDoorZz4
import Derived.Test.YtekljlenlbhmcaaGreatDoorZz1
import Derived.Lib.ReplaceLaws
import Derived.WalkKit
import Derived.Lib.Bytealg
open Go.Proofs.Tryz
set_option linter.unusedSimpArgs false
set_option linter.unusedVariables false
set_option maxRecDepth 100000
namespace Go.AM
open Go Go.RowKit
attribute [local irreducible] AWP Aw
structure ChkOK (ps:List PG)(root:Int):Prop where
 n1:1≤ps.length
 n2:ps.length≤4000
 r0:0≤root
 r1:root<ps.length
 pg: ∀(i:Nat)(p:PG),ps[i]?=some p→PageOK p ps.length
 wk:0≤(CC ps (ps.length+1) root.toNat [] [] 0 ⟨[],[]⟩).1
 mt:(CC ps (ps.length+1) root.toNat [] [] 0 ⟨[],[]⟩).2.met.length=ps.length
 ch: ∀l ∈ (CC ps (ps.length+1) root.toNat [] [] 0 ⟨[],[]⟩).2.rows,Hh ps l
noncomputable def E9 (ps:List PG)(root:Int):Int:= @ite Int (ChkOK ps root) (Classical.propDecidable _) 0 11
theorem Ms {ps:List PG}{root:Int}(h:ChkOK ps root):E9 ps root=0:=if_pos h
theorem Kt {ps:List PG}{root:Int}(h: ¬ChkOK ps root):E9 ps root=11:=if_neg h
def VV (ps:List PG):Prop:= ∀p ∈ ps,p.keys.length≤1048576∧p.kids.length≤1048576
theorem NO (G:List (Nat×List Value))(p:PG)(many:Nat)(hb:p.keys.length≤1048576)(hb2:p.kids.length≤1048576):Con prog G 140 [.agg (eP p),.r (.int .i64 many)] [] 0 (Is (.r (.bool (TO p many))) [] 0) No:=by
 by_cases H:HeadOK p many
 ·exact Qn G p many H hb2
 ·exact Qm G p many H hb
theorem HP {ps:List PG}(h: ∀(i:Nat)(p:PG),ps[i]?=some p→PageOK p ps.length): ∀i x,x ∈ AI ps i→x<ps.length:=by
 intro i x hx
 cases hp:ps[i]? with
 |none=>
  have:pg ps i=default:=by rw[pg,List.getD_eq_getElem?_getD,hp];rfl
  rw[AI,this] at hx;cases hx
 |some p=>
  have hpg:pg ps i=p:=by rw[pg,List.getD_eq_getElem?_getD,hp];rfl
  rw[AI,hpg] at hx;split at hx
  ·cases hx
  ·rename_i hl
   obtain⟨y,hy,rfl⟩:=List.mem_map.1 hx;obtain⟨j,hj⟩:=List.mem_iff_getElem?.1 hy;have:=(h i p hp).kd j (List.getElem?_eq_some_iff.1 hj).1;rw[List.getD_eq_getElem?_getD,hj] at this;have h1:0≤y:=this.1;have h2:y<ps.length:=this.2 (by simpa using hl);omega
theorem BX {ps:List PG}(h: ∀(i:Nat)(p:PG),ps[i]?=some p→PageOK p ps.length): ∀i,(pg ps i).leaf=false→AI ps i≠[]:=by
 intro i hl he
 cases hp:ps[i]? with
 |none=>
  have:pg ps i=default:=by rw[pg,List.getD_eq_getElem?_getD,hp];rfl
  rw[this] at hl;cases hl
 |some p=>
  have hpg:pg ps i=p:=by rw[pg,List.getD_eq_getElem?_getD,hp];rfl
  rw[hpg] at hl;rw[AI,hpg,hl] at he
  have h1:p.kids=[]:=by simpa using he
  have:=(h i p hp).ki hl;rw[h1] at this;simp at this
theorem Oy {ps:List PG}{n:Nat}(hin: ∀i x,x ∈ AI ps i→x<n): ∀(j:Nat)(l:List Nat),(∀x ∈ l,x<n)→ ∀x ∈ CB ps j l,x<n
 |0,l,h,x,hx=>h x hx
 |j+1,l,h,x,hx=>Oy hin j _ (fun y hy=>by obtain⟨z,_,hz⟩:=List.mem_flatMap.1 hy;exact hin z y hz) x hx
def Wi (l:List Nat):List AV:=[.ro true 1 (l.map Cd)]
theorem Sr (rows:List (List Nat)):Cv true (rows.map Df)=rows.map Wi:=
 CT true Df Wi (fun a=>by
  simp only[Df,Wi,G8,Uq]
  rw[CT true Cd Cd (fun b=>by simp[Cd,G8,Uq])]) rows
set_option maxHeartbeats 8000000 in
theorem F9 (G:List (Nat×List Value))(ps:List PG)(root:Int)(ho:VV ps):Con prog G 86 [.agg [.ro true 5 (ps.map eP),.r (.int .i64 root)]] [] 0 (Is (.r (.int .i64 (E9 ps root))) [] 0) No:=by
 obtain⟨R,hR⟩: ∃R,E9 ps root=R:=⟨_,rfl⟩
 have hbad: ¬ChkOK ps root→R=11:=fun h=>by rw[←hR];exact Kt h
 have hgood:ChkOK ps root→R=0:=fun h=>by rw[←hR];exact Ms h
 rw[hR];refine AA func86 rfl (by kernel_rfl) (of_decide_eq_true (by kernel_rfl)) ?_;intro E hG hE;subst hG;simp only[B9]
 by_cases hb0:1≤ps.length∧ps.length≤4000∧0≤root∧root<ps.length
 rotate_left
 ·obtain rfl:=hbad fun X=>hb0 ⟨X.n1,X.n2,X.r0,X.r1⟩
  clear hbad hgood hR;(repeat' (first |refine A0 ?_ |refine A5 ?_ |refine A6 ?_ |((first |refine rR (fun K kp hK hkp=>?_) |refine iG ?_);simp(implicitDefEqProofs:=false) (maxSteps:=2000000) (disch:=omega) only[go_sem,eP];(repeat' (refine hK _ ?_;clear hK hkp kp K))) |((refine aG (fun h=>?_) (fun h=>?_))<;>simp only[h]) |refine A3 rfl ?_ |((refine AD rfl (fun h=>?_) (fun h=>?_)<;>try simp only[BQ] at h)<;>(try (exfalso;omega))) |refine A8 ?_))
  all_goals first
   |(refine A7 (by(simp(implicitDefEqProofs:=false) (maxSteps:=2000000) (disch:=omega) only[go_sem,results86]);rfl) ?_;refine eN hE ?_;simp[AG,ren,renL])
   |(exfalso;simp only[decide_eq_false_iff_not] at *;omega)
 obtain⟨b1,b2,b3,b4⟩:=hb0;obtain⟨rt,hrt⟩: ∃rt:Nat,root=rt:=⟨root.toNat,by omega⟩;subst hrt;have g1:((ps.length:Int)<1)=False:=eq_false (by omega);have g2:((ps.length:Int)>4000)=False:=eq_false (by omega);have g3:((rt:Int)<0)=False:=eq_false (by omega);have g4:((rt:Int)≥(ps.length:Int))=False:=eq_false (by omega);refine A0 ?_;(refine rR (fun K kp hK hkp=>?_);simp(implicitDefEqProofs:=false) (maxSteps:=2000000) (disch:=omega) only[go_sem];(repeat' (refine hK _ ?_;clear hK hkp kp K)));refine A0 ?_;refine A0 ?_;(refine rR (fun K kp hK hkp=>?_);simp(implicitDefEqProofs:=false) (maxSteps:=2000000) (disch:=omega) only[go_sem,g1,g2,g3,g4];(repeat' (refine hK _ ?_;clear hK hkp kp K)));refine A4 rfl ?_;refine A6 ?_
 by_cases hall: ∀(i:Nat)(p:PG),ps[i]?=some p→PageOK p ps.length
 rotate_left
 ·obtain rfl:=hbad fun X=>hall X.pg
  clear hbad hgood hR;(repeat' (first |refine A0 ?_ |refine A5 ?_ |((refine rR (fun K kp hK hkp=>?_));simp(implicitDefEqProofs:=false) (maxSteps:=2000000) (disch:=omega) only[go_sem,eP];(repeat' (refine hK _ ?_;clear hK hkp kp K)))));refine AH (fun i:Nat=>⟨[(37,.r (.int .i64 i)),(36,.r (.int .i64 ps.length)),(35,.ro true 5 (ps.map eP)),(1,.p 0 0 0)],[(0,.box 33 [.ro true 5 (ps.map eP),.r (.int .i64 rt)])],1⟩) (fun i=>i≤ps.length∧ ∀(j:Nat)(p:PG),j<i→ps[j]?=some p→PageOK p ps.length) (fun i=>ps.length - i) 0 ?_ ?_ ?_
  ·exact⟨Nat.zero_le _,fun j p hj=>by omega⟩
  ·(refine AE hE [0] rfl ?_ ?_<;>simp[AU,AO,lk,ren,renL,A9,AL]<;>(try omega))
  intro i hi;obtain⟨hi,hdone⟩:=hi
  by_cases hlt:i<ps.length
  ·have zi:((i:Int)<(ps.length:Int))=True:=eq_true (by omega)
   obtain⟨p,hp⟩: ∃p,ps[i]?=some p:=⟨ps[i],by simp[hlt]⟩;have pc:=NO E.G p ps.length (ho p (List.mem_of_getElem? hp)).1 (ho p (List.mem_of_getElem? hp)).2
   by_cases hpo:PageOK p ps.length
   ·rw[Ld hpo] at pc
    (repeat' (first |refine A0 ?_ |refine A5 ?_ |refine A6 ?_ |((first |refine rR (fun K kp hK hkp=>?_) |refine cR pc ?_);simp(implicitDefEqProofs:=false) (maxSteps:=2000000) (disch:=omega) only[go_sem,zi,hp,eP];(repeat' (refine hK _ ?_;clear hK hkp kp K))) |refine A3 rfl ?_ |refine A4 rfl ?_))
    ((refine AJ (i+1) ?_ ?_ ?_);rotate_left;(·(try dsimp only);(omega));(·(refine AE hE [0] rfl ?_ ?_<;>simp[AU,AO,lk,ren,renL,A9,AL]<;>(try omega))))
    refine⟨by omega,fun j q hj hq=>?_⟩
    by_cases he:j=i
    ·subst he;rw[hp] at hq;cases hq;exact hpo
    ·exact hdone j q (by omega) hq
   ·rw[GF hpo] at pc
    (repeat' (first |refine A0 ?_ |refine A5 ?_ |refine A6 ?_ |((first |refine rR (fun K kp hK hkp=>?_) |refine cR pc ?_);simp(implicitDefEqProofs:=false) (maxSteps:=2000000) (disch:=omega) only[go_sem,zi,hp,eP];(repeat' (refine hK _ ?_;clear hK hkp kp K))) |refine A3 rfl ?_ |refine A8 ?_));(refine A7 (by(simp(implicitDefEqProofs:=false) (maxSteps:=2000000) (disch:=omega) only[go_sem,results86]);rfl) ?_;refine eN hE ?_;simp[AG,ren,renL])
  ·exfalso
   exact hall fun j p hp=>hdone j p (by have:=(List.getElem?_eq_some_iff.1 hp).1;omega) hp
 refine Mx (fx:=⟨[(1,.p 0 0 0)],[(0,.box 33 [.ro true 5 (ps.map eP),.r (.int .i64 rt)])],1⟩) ?_ fun K hcut=>?_;rotate_left
 ·(repeat' (first |refine A0 ?_ |refine A5 ?_ |((refine rR (fun K kp hK hkp=>?_));simp(implicitDefEqProofs:=false) (maxSteps:=2000000) (disch:=omega) only[go_sem,eP];(repeat' (refine hK _ ?_;clear hK hkp kp K)))))
  refine AH (fun i:Nat=>⟨[(37,.r (.int .i64 i)),(36,.r (.int .i64 ps.length)),(35,.ro true 5 (ps.map eP)),(1,.p 0 0 0)],[(0,.box 33 [.ro true 5 (ps.map eP),.r (.int .i64 rt)])],1⟩) (fun i=>i≤ps.length) (fun i=>ps.length - i) 0 ?_ ?_ ?_
  ·exact Nat.zero_le _
  ·(refine AE hE [0] rfl ?_ ?_<;>simp[AU,AO,lk,ren,renL,A9,AL]<;>(try omega))
  intro i hi
  by_cases hlt:i<ps.length
  ·have zi:((i:Int)<(ps.length:Int))=True:=eq_true (by omega)
   obtain⟨p,hp⟩: ∃p,ps[i]?=some p:=⟨ps[i],by simp[hlt]⟩;have pc:=NO E.G p ps.length (ho p (List.mem_of_getElem? hp)).1 (ho p (List.mem_of_getElem? hp)).2;rw[Ld (hall i p hp)] at pc;(repeat' (first |refine A0 ?_ |refine A5 ?_ |refine A6 ?_ |((first |refine rR (fun K kp hK hkp=>?_) |refine cR pc ?_);simp(implicitDefEqProofs:=false) (maxSteps:=2000000) (disch:=omega) only[go_sem,zi,hp,eP];(repeat' (refine hK _ ?_;clear hK hkp kp K))) |refine A3 rfl ?_ |refine A4 rfl ?_))
   ((refine AJ (i+1) ?_ ?_ ?_);rotate_left;(·(try dsimp only);(omega));(·(refine AE hE [0] rfl ?_ ?_<;>simp[AU,AO,lk,ren,renL,A9,AL]<;>(try omega))))
   omega
  ·obtain rfl:i=ps.length:=by omega
   (repeat' (first |refine A0 ?_ |refine AB ?_ |((refine rR (fun K kp hK hkp=>?_));simp(implicitDefEqProofs:=false) (maxSteps:=2000000) (disch:=omega) only[go_sem];(repeat' (refine hK _ ?_;clear hK hkp kp K))) |((refine AD rfl (fun h=>?_) (fun h=>?_)<;>try simp only[BQ] at h)<;>(try (exfalso;omega)))));refine hcut _ ?_;(refine AE hE [0] rfl ?_ ?_<;>simp[AU,AO,lk,ren,renL,A9,AL]<;>(try omega))
 have hin:=HP hall;have wi0:WI ps.length ⟨[],[]⟩:=⟨List.nodup_nil,by simp,Nat.le_refl _,by simp⟩;have wc:=N3 E.G ps rt b2 (fun p hp=>by obtain⟨i,hi⟩:=List.mem_iff_getElem?.1 hp;exact hall i p hi) hin (ps.length+1) rt 0 [] [] true true ⟨[],[]⟩ (by omega) wi0 (Nat.le_refl _) (by simp);obtain⟨X,hX⟩: ∃X,CC ps (ps.length+1) rt [] [] 0 ⟨[],[]⟩=X:=⟨_,rfl⟩;obtain⟨wi,wl⟩:=Jh (n:=ps.length) hin (ps.length+1) rt [] [] 0 ⟨[],[]⟩ (by omega) wi0 (Nat.le_refl _);rw[hX] at wc wi wl;have hgood:0≤X.1→X.2.met.length=ps.length→(∀l ∈ X.2.rows,Hh ps l)→R=0:=fun h1 h2 h3=>hgood ⟨b1,b2,b3,b4,hall,by rw[Int.toNat_natCast,hX];exact h1,by rw[Int.toNat_natCast,hX];exact h2,by rw[Int.toNat_natCast,hX];exact h3⟩;have hbad1: ¬0≤X.1→R=11:=fun h=>hbad fun Y=>h (by have:=Y.wk;rwa [Int.toNat_natCast,hX] at this);have hbad2:X.2.met.length≠ps.length→R=11:=fun h=>hbad fun Y=>h (by have:=Y.mt;rwa [Int.toNat_natCast,hX] at this);have hbad3: ¬(∀l ∈ X.2.rows,Hh ps l)→R=11:=fun h=>hbad fun Y=>h (by have:=Y.ch;rwa [Int.toNat_natCast,hX] at this);clear hbad;refine A0 ?_;(refine rR (fun K kp hK hkp=>?_);simp(implicitDefEqProofs:=false) (maxSteps:=2000000) (disch:=omega) only[go_sem,eP];(repeat' (refine hK _ ?_;clear hK hkp kp K)));(refine AWP.emb (BD 2 3 36 1 rfl rfl (by simp)) ?_;simp only[List.set_cons_zero,List.set_cons_succ,lk,↓reduceIte,Nat.reduceAdd]);(refine AWP.emb (BY (T:=?z1T) (k:=?z1k) (els:=?z1e) 3 ?z1h) ?z1g;(case z1h=>rfl);simp only[Ad])
 replace wc:=wc.weak (xs:=[.p 0 0 0,.r (.int .i64 rt),.r (.slice none 0 0),.r (.slice none 0 0),.r (.int .i64 0)]) (by simp[LF,wk])
 (repeat' (first |refine A0 ?_ |((refine rP (id:=10) mixed 3 4 [0,1,2] [4,5,6,7,8,9,10,11,12,13,14,15] (fun K kp hK hkp=>?_));simp(implicitDefEqProofs:=false) (maxSteps:=2000000) (disch:=omega) only[go_sem,eP];(repeat' (omega)))));(refine C6 [2,1,3] (wc) ?_ ?_ ?_ ?_ ?_ ?_ ?_ ?_ rfl rfl ?_;(·simp[Em,JG,Mg,Ee,CA,FK,lk,CM,B8,AK,RV,C1,List.map_nil,BP,List.length_nil]);(·simp[AO,lk,A9,renL,ren,AL,CM,B8,AK,RV,C1,List.map_nil,BP,List.length_nil]);(·(intro i hi;simp only[List.length_cons,List.length_nil] at hi;repeat' (first |omega |exact⟨_,rfl⟩ |(rcases i with _ |i))));(·simp);(·simp);(·simp);(·simp[CM,B8,AK,RV,C1,List.map_nil,BP,List.length_nil]);(·simp[CM,B8,AK,RV,C1,List.map_nil,BP,List.length_nil]);simp only[CJ,fw,LC,rm,List.map_cons,List.map_nil,List.foldl_cons,List.foldl_nil,List.getElem?_cons_zero,List.getElem?_cons_succ,List.getElem?_nil,List.length_cons,List.length_nil,Nat.zero_add,Nat.sub_self,Nat.add_zero,↓reduceIte,Nat.reduceEqDiff,reduceCtorEq,Nat.reduceAdd,Nat.reduceSub,List.cons_append,List.nil_append,ren,renL,A9,CM,B8,AK,RV,C1,List.map_nil,BP,List.length_nil];simp(implicitDefEqProofs:=false) (maxSteps:=2000000) (disch:=omega) only[go_sem,CM,B8,AK,RV,C1,List.map_nil,BP,List.length_nil];(repeat' (refine hK _ ?_;clear hK hkp kp K)))
 by_cases c1:0≤X.1
 rotate_left
 ·obtain rfl:=hbad1 c1
  have q1:(X.1<0)=True:=eq_true (by omega);(repeat' (first |refine A0 ?_ |((first |refine rR (fun K kp hK hkp=>?_) |refine Ym (fun K kp hK hkp=>?_));simp(implicitDefEqProofs:=false) (maxSteps:=2000000) (disch:=omega) only[go_sem,eP,q1];(repeat' (refine hK _ ?_;clear hK hkp kp K))) |refine A3 rfl ?_ |refine A8 ?_));(refine A7 (by(simp(implicitDefEqProofs:=false) (maxSteps:=2000000) (disch:=omega) only[go_sem,results86]);rfl) ?_;refine eN hE ?_;simp[AG,ren,renL])
 have q1:(X.1<0)=False:=eq_false (by omega)
 by_cases c2:X.2.met.length=ps.length
 rotate_left
 ·obtain rfl:=hbad2 c2
  have q2:((X.2.met.length:Int) !=(ps.length:Int))=true:=by simp;omega
  (repeat' (first |refine A0 ?_ |((first |refine rR (fun K kp hK hkp=>?_) |refine Ym (fun K kp hK hkp=>?_));simp(implicitDefEqProofs:=false) (maxSteps:=2000000) (disch:=omega) only[go_sem,eP,q1,q2,List.length_map];(repeat' (refine hK _ ?_;clear hK hkp kp K))) |refine A3 rfl ?_ |refine A8 ?_));(refine A7 (by(simp(implicitDefEqProofs:=false) (maxSteps:=2000000) (disch:=omega) only[go_sem,results86]);rfl) ?_;refine eN hE ?_;simp[AG,ren,renL])
 have q2:((X.2.met.length:Int) !=(ps.length:Int))=false:=by rw[c2];simp
 obtain⟨dd,W⟩:=Dl (BX hall) (ps.length+1) rt [] [] 0 ⟨[],[]⟩ (Nat.le_refl _) List.nodup_nil (by rw[hX];exact c1);rw[hX] at W
 have hrow: ∀(m:Nat)(l:List Nat),X.2.rows[m]?=some l→ ∀x ∈ l,x<ps.length:=by
  intro m l hl x hx;have h1:=W.rows m;rw[List.getD_eq_getElem?_getD,hl] at h1;simp only[Option.getD_some,Nat.zero_le,if_true,Nat.sub_zero] at h1
  have h2:l=CB ps m [rt]:=by simpa using h1
  rw[h2] at hx;exact Oy hin m [rt] (by simp;omega) x hx
 have wil:=wi.len;have wirl:=wi.rl;(repeat' (first |refine A0 ?_ |refine A5 ?_ |refine A6 ?_ |((first |refine rR (fun K kp hK hkp=>?_) |refine Ym (fun K kp hK hkp=>?_));simp(implicitDefEqProofs:=false) (maxSteps:=2000000) (disch:=omega) only[go_sem,eP,q1,q2,List.length_map];(repeat' (refine hK _ ?_;clear hK hkp kp K))) |refine A4 rfl ?_));(refine AWP.emb (EG (T:=?z2T) (k:=?z2k) (els:=?z2e) 4 ?z2h) ?z2g;(case z2h=>rfl);simp only[Ad,Sr]);refine AH (fun k:Nat=>⟨[(73,.r (.int .i64 k)),(72,.r (.int .i64 X.2.rows.length)),(71,.s 1 0 X.2.rows.length),(1,.p 0 0 0)],[(0,.box 33 [.ro true 5 (ps.map eP),.r (.int .i64 rt)]),(1,.lst 36 1 (X.2.rows.map Wi))],2⟩) (fun k=>k≤X.2.rows.length∧ ∀(j:Nat) l,j<k→X.2.rows[j]?=some l→Hh ps l) (fun k=>X.2.rows.length - k) 0 ?_ ?_ ?_
 ·exact⟨Nat.zero_le _,fun j l hj=>by omega⟩
 ·(refine AE hE [0,4] rfl ?_ ?_<;>simp[AU,AO,lk,ren,renL,A9,AL]<;>(try omega))
 intro k hk;obtain⟨hk,hdone⟩:=hk
 by_cases hlt:k<X.2.rows.length
 ·have zk:((k:Int)<(X.2.rows.length:Int))=True:=eq_true (by omega)
  obtain⟨l,hl⟩: ∃l,X.2.rows[k]?=some l:=⟨X.2.rows[k],by simp[hlt]⟩;have hll:=wi.rs l (List.mem_of_getElem? hl);(repeat' (first |refine A0 ?_ |refine A5 ?_ |refine A6 ?_ |((refine rR (fun K kp hK hkp=>?_));simp(implicitDefEqProofs:=false) (maxSteps:=2000000) (disch:=omega) only[go_sem,zk,hl,Wi];(repeat' (refine hK _ ?_;clear hK hkp kp K))) |refine A3 rfl ?_));refine AH (fun i:Nat=>⟨[(79,.r (.int .i64 i)),(78,.r (.int .i64 l.length)),(77,.ro true 1 (l.map Cd)),(7,.ro true 1 (l.map Cd)),(73,.r (.int .i64 k)),(72,.r (.int .i64 X.2.rows.length)),(71,.s 1 0 X.2.rows.length),(1,.p 0 0 0)],[(0,.box 33 [.ro true 5 (ps.map eP),.r (.int .i64 rt)]),(1,.lst 36 1 (X.2.rows.map Wi))],2⟩) (fun i=>i≤l.length∧ ∀(j y:Nat),j<i→l[j]?=some y→(pg ps y).next=DA l j) (fun i=>l.length - i) 0 ?_ ?_ ?_
  ·exact⟨Nat.zero_le _,fun j l hj=>by omega⟩
  ·(refine AE hE [0,1] rfl ?_ ?_<;>simp[AU,AO,lk,ren,renL,A9,AL]<;>(try omega))
  intro i hi;obtain⟨hi,hd2⟩:=hi
  by_cases hil:i<l.length
  ·have zi:((i:Int)<(l.length:Int))=True:=eq_true (by omega)
   obtain⟨x,hx⟩: ∃x,l[i]?=some x:=⟨l[i],by simp[hil]⟩;have hxn:=hrow k l hl x (List.mem_of_getElem? hx);obtain⟨p,hp⟩: ∃p,ps[x]?=some p:=⟨ps[x],by simp[hxn]⟩
   have hpg:pg ps x=p:=by rw[pg,List.getD_eq_getElem?_getD,hp];rfl
   have zx:((x:Int)<(ps.length:Int))=True:=eq_true (by omega)
   have i1:(i:Int)+1=((i+1:Nat):Int):=by omega
   by_cases hi1:i+1<l.length
   ·have q3:(((i+1:Nat):Int)<(l.length:Int))=True:=eq_true (by omega)
    obtain⟨y,hy⟩: ∃y,l[i+1]?=some y:=⟨l[i+1],by simp[hi1]⟩
    have hrt2:DA l i=(y:Int):=by rw[DA,hy]
    by_cases hc:p.next=(y:Int)
    ·have q4:(p.next !=(y:Int))=false:=by rw[hc];simp
     (repeat' (first |refine A0 ?_ |refine A5 ?_ |refine A6 ?_ |((refine rR (fun K kp hK hkp=>?_));simp(implicitDefEqProofs:=false) (maxSteps:=2000000) (disch:=omega) only[go_sem,zi,hx,hp,Cd,eP,q3,i1,hy,zx,q4];(repeat' (refine hK _ ?_;clear hK hkp kp K))) |refine A3 rfl ?_ |refine A4 rfl ?_))
     ((refine AJ (i+1) ?_ ?_ ?_);rotate_left;(·(try dsimp only);(omega));(·(refine AE hE [0,1] rfl ?_ ?_<;>simp[AU,AO,lk,ren,renL,A9,AL]<;>(try omega))))
     exact⟨by omega,fun j y' hj hy'=>(by
      by_cases he:j=i
      ·subst he;rw[hx] at hy';cases hy';rw[hpg,hrt2];exact hc
      ·exact hd2 j y' (by omega) hy')⟩
    ·skip
     obtain rfl:=hbad3 fun Y=>(by
      have h1:=Y l (List.mem_of_getElem? hl) i x hx;rw[hpg,hrt2] at h1
      exact hc h1)
     have q4:(p.next !=(y:Int))=true:=by simpa using hc
     (repeat' (first |refine A0 ?_ |refine A5 ?_ |refine A6 ?_ |((refine rR (fun K kp hK hkp=>?_));simp(implicitDefEqProofs:=false) (maxSteps:=2000000) (disch:=omega) only[go_sem,zi,hx,hp,Cd,eP,q3,i1,hy,zx,q4];(repeat' (refine hK _ ?_;clear hK hkp kp K))) |refine A3 rfl ?_ |refine A8 ?_));(refine A7 (by(simp(implicitDefEqProofs:=false) (maxSteps:=2000000) (disch:=omega) only[go_sem,results86]);rfl) ?_;refine eN hE ?_;simp[AG,ren,renL])
   ·have q3:(((i+1:Nat):Int)<(l.length:Int))=False:=eq_false (by omega)
    have hrt2:DA l i= -1:=by rw[DA,List.getElem?_eq_none (by omega)]
    by_cases hc:p.next= -1
    ·have q4:(p.next != -1)=false:=by rw[hc];rfl
     (repeat' (first |refine A0 ?_ |refine A5 ?_ |refine A6 ?_ |((refine rR (fun K kp hK hkp=>?_));simp(implicitDefEqProofs:=false) (maxSteps:=2000000) (disch:=omega) only[go_sem,zi,hx,hp,Cd,eP,q3,i1,zx,q4];(repeat' (refine hK _ ?_;clear hK hkp kp K))) |refine A3 rfl ?_ |refine A4 rfl ?_))
     ((refine AJ (i+1) ?_ ?_ ?_);rotate_left;(·(try dsimp only);(omega));(·(refine AE hE [0,1] rfl ?_ ?_<;>simp[AU,AO,lk,ren,renL,A9,AL]<;>(try omega))))
     exact⟨by omega,fun j y' hj hy'=>(by
      by_cases he:j=i
      ·subst he;rw[hx] at hy';cases hy';rw[hpg,hrt2];exact hc
      ·exact hd2 j y' (by omega) hy')⟩
    ·skip
     obtain rfl:=hbad3 fun Y=>(by
      have h1:=Y l (List.mem_of_getElem? hl) i x hx;rw[hpg,hrt2] at h1
      exact hc h1)
     have q4:(p.next != -1)=true:=by simpa using hc
     (repeat' (first |refine A0 ?_ |refine A5 ?_ |refine A6 ?_ |((refine rR (fun K kp hK hkp=>?_));simp(implicitDefEqProofs:=false) (maxSteps:=2000000) (disch:=omega) only[go_sem,zi,hx,hp,Cd,eP,q3,i1,zx,q4];(repeat' (refine hK _ ?_;clear hK hkp kp K))) |refine A3 rfl ?_ |refine A4 rfl ?_ |refine A8 ?_));(refine A7 (by(simp(implicitDefEqProofs:=false) (maxSteps:=2000000) (disch:=omega) only[go_sem,results86]);rfl) ?_;refine eN hE ?_;simp[AG,ren,renL])
  ·obtain rfl:i=l.length:=by omega
   (repeat' (first |refine A0 ?_ |refine AB ?_ |((refine rR (fun K kp hK hkp=>?_));simp(implicitDefEqProofs:=false) (maxSteps:=2000000) (disch:=omega) only[go_sem];(repeat' (refine hK _ ?_;clear hK hkp kp K))) |((refine AD rfl (fun h=>?_) (fun h=>?_)<;>try simp only[BQ] at h)<;>(try (exfalso;omega)))))
   ((refine AJ (k+1) ?_ ?_ ?_);rotate_left;(·(try dsimp only);(omega));(·(refine AE hE [0,1] rfl ?_ ?_<;>simp[AU,AO,lk,ren,renL,A9,AL]<;>(try omega))))
   refine⟨by omega,fun j m hj hm=>?_⟩
   by_cases he:j=k
   ·subst he;rw[hl] at hm;cases hm
    exact fun a b hb=>hd2 a b (List.getElem?_eq_some_iff.1 hb).1 hb
   ·exact hdone j m (by omega) hm
 ·obtain rfl:k=X.2.rows.length:=by omega
  obtain rfl:=hgood c1 c2 fun l hl=>by
   obtain⟨j,hj⟩:=List.mem_iff_getElem?.1 hl;exact hdone j l (List.getElem?_eq_some_iff.1 hj).1 hj
  (repeat' (first |refine A0 ?_ |refine AB ?_ |((refine rR (fun K kp hK hkp=>?_));simp(implicitDefEqProofs:=false) (maxSteps:=2000000) (disch:=omega) only[go_sem];(repeat' (refine hK _ ?_;clear hK hkp kp K))) |((refine AD rfl (fun h=>?_) (fun h=>?_)<;>try simp only[BQ] at h)<;>(try (exfalso;omega))) |refine A8 ?_));(refine A7 (by(simp(implicitDefEqProofs:=false) (maxSteps:=2000000) (disch:=omega) only[go_sem,results86]);rfl) ?_;refine eN hE ?_;simp[AG,ren,renL])
end Go.AM
namespace Go.AM
open Go Go.RowKit
attribute [local irreducible] AWP Aw
theorem SK (n:Int)(l:Nat):((n== -1)=true↔n= -1)∧(((l:Int)==0)=true↔l=0):=⟨beq_iff_eq,by rw[beq_iff_eq];omega⟩
theorem SJ {n:Int}{l:Nat}(h0: -1≤n)(h:((n== -1)==((l:Int)==0))=true):n<0↔l=0:=by
 obtain⟨a,b⟩:=SK n l;rw[beq_iff_eq] at h;rw[←b,←h,a];omega
theorem VY {n:Int}{l:Nat}(h0: -1≤n)(h:n<0↔l=0):(!((n== -1)==((l:Int)==0)))=false:=by
 obtain⟨a,b⟩:=SK n l;have:(n== -1)=((l:Int)==0):=Bool.eq_iff_iff.2 (by rw[a,b,←h];omega);rw[this];simp
set_option maxHeartbeats 4000000 in
theorem PH (G:List (Nat×List Value))(p:PG)(many:Nat)(H: ¬HeadOK p many)(hb:p.keys.length≤1048576)(hm:many≤1048576):Con prog G 144 [.agg (eP p),.r (.int .i64 many)] [] 0 (Is (.r (.bool (!TO p many))) [] 0) No:=by
 rw[GF fun x=>H x.1];have ic:=Fw G p.next (-1) ((many:Int) - 1);refine AA func144 rfl (by kernel_rfl) (of_decide_eq_true (by kernel_rfl)) ?_;intro E hG hE;subst hG;simp only[B9];cases hl:p.leaf
 ·(repeat' (first |refine A0 ?_ |refine A5 ?_ |refine A6 ?_ |((first |refine rR (fun K kp hK hkp=>?_) |refine cR ic ?_ |refine iG ?_);simp(implicitDefEqProofs:=false) (maxSteps:=2000000) (disch:=omega) only[go_sem,eP,hl];(repeat' (refine hK _ ?_;clear hK hkp kp K))) |((refine aG (fun h=>?_) (fun h=>?_))<;>simp only[h]) |refine A3 rfl ?_ |((refine AD rfl (fun h=>?_) (fun h=>?_)<;>try simp only[BQ] at h)<;>(try (exfalso;omega))) |refine A8 ?_))
  all_goals first
   |(refine A7 (by(simp(implicitDefEqProofs:=false) (maxSteps:=2000000) (disch:=omega) only[go_sem,results144]);rfl) ?_;refine eN hE ?_;simp[AG,ren,renL])
   |skip
  all_goals (exfalso;apply H;simp only[decide_eq_false_iff_not,decide_eq_true_eq,bne_eq_false_iff_eq,Bool.not_eq_false',Bool.and_eq_true] at *)
  rename_i h2 h3 h4 h5 h6;exact⟨by omega,by omega,by omega,by omega,SJ (by omega) h6,fun h=>(by rw[hl] at h;cases h),fun _=>by omega,fun _=>by omega⟩
 ·(repeat' (first |refine A0 ?_ |refine A5 ?_ |refine A6 ?_ |((first |refine rR (fun K kp hK hkp=>?_) |refine cR ic ?_ |refine iG ?_);simp(implicitDefEqProofs:=false) (maxSteps:=2000000) (disch:=omega) only[go_sem,eP,hl];(repeat' (refine hK _ ?_;clear hK hkp kp K))) |((refine aG (fun h=>?_) (fun h=>?_))<;>simp only[h]) |refine A3 rfl ?_ |refine A4 rfl ?_ |((refine AD rfl (fun h=>?_) (fun h=>?_)<;>try simp only[BQ] at h)<;>(try (exfalso;omega))) |refine A8 ?_))
  all_goals first
   |(refine A7 (by(simp(implicitDefEqProofs:=false) (maxSteps:=2000000) (disch:=omega) only[go_sem,results144]);rfl) ?_;refine eN hE ?_;simp[AG,ren,renL])
   |skip
  all_goals (exfalso;apply H;simp only[decide_eq_false_iff_not,decide_eq_true_eq,bne_eq_false_iff_eq,Bool.not_eq_false',Bool.and_eq_true] at *)
  rename_i h2 h3 h4 h6;exact⟨by omega,by omega,by omega,by omega,SJ (by omega) h6,fun _=>by omega,fun h=>(by rw[hl] at h;cases h),fun h=>(by rw[hl] at h;cases h)⟩
set_option maxHeartbeats 4000000 in
theorem PI (G:List (Nat×List Value))(p:PG)(many:Nat)(H:HeadOK p many)(hb:p.kids.length≤1048576)(hm:many≤1048576):Con prog G 144 [.agg (eP p),.r (.int .i64 many)] [] 0 (Is (.r (.bool (!TO p many))) [] 0) No:=by
 have f1:((p.keys.length:Int)>4)=False:=eq_false (by have:=H.nk;omega);have f2:((p.high.length:Int)>100)=False:=eq_false (by have:=H.nh;omega);have f3:(-1≤p.next)=True:=eq_true H.n0;have f4:(p.next≤(many:Int) - 1)=True:=eq_true (by have:=H.n1;omega);have f5:=VY H.n0 H.nb;have hk4:=H.nk;have ic:=Fw G p.next (-1) ((many:Int) - 1);simp only[f3,f4,decide_true,Bool.and_self] at ic;refine AA func144 rfl (by kernel_rfl) (of_decide_eq_true (by kernel_rfl)) ?_;intro E hG hE;subst hG;simp only[B9];cases hl:p.leaf
 case' false=>
  have f6:=H.ki hl
  have f7:((p.keys.length:Int)==0)=false:=by have:=H.ne hl;simp;exact List.ne_nil_of_length_pos (by omega)
  have f8:((p.kids.length:Int) !=(p.keys.length:Int)+1)=false:=by rw[f6];simp
  (repeat' (first |refine A0 ?_ |refine A5 ?_ |refine A6 ?_ |((first |refine rR (fun K kp hK hkp=>?_) |refine cR ic ?_);simp(implicitDefEqProofs:=false) (maxSteps:=2000000) (disch:=omega) only[go_sem,eP,hl,f1,f2,f5,f7,f8];(repeat' (refine hK _ ?_;clear hK hkp kp K))) |refine A3 rfl ?_ |refine A4 rfl ?_))
 case' true=>
  have f6:=H.kl hl
  have f8:((p.kids.length:Int) !=(p.keys.length:Int))=false:=by rw[f6];simp
  (repeat' (first |refine A0 ?_ |refine A5 ?_ |refine A6 ?_ |((first |refine rR (fun K kp hK hkp=>?_) |refine cR ic ?_);simp(implicitDefEqProofs:=false) (maxSteps:=2000000) (disch:=omega) only[go_sem,eP,hl,f1,f2,f5,f8];(repeat' (refine hK _ ?_;clear hK hkp kp K))) |refine A4 rfl ?_))
 all_goals
  refine AH (fun i:Nat=>⟨[(6,.r (.int .i64 i)),(2,.p 0 0 0),(1,.r (.int .i64 many))],[(0,.box 131 [.r (.bool p.leaf),.ro true 1 (p.keys.map Aj),.ro true 1 (p.kids.map eI),.ro true 1 (p.high.map AC),.r (.int .i64 p.next)])],1⟩) (fun i=>i≤p.keys.length∧ ∀j,j<i→FU p j) (fun i=>p.keys.length - i) 0 ?_ ?_ ?_
  ·exact⟨Nat.zero_le _,fun j hj=>by omega⟩
  ·(refine AE hE [0] rfl ?_ ?_<;>simp[AU,AO,lk,ren,renL,A9,AL,hl]<;>(try omega))
  intro i hi;obtain⟨hi,hdone⟩:=hi
  by_cases hlt:i<p.keys.length
  ·have zi:((i:Int)<(p.keys.length:Int))=True:=eq_true (by omega)
   obtain⟨x,hx⟩: ∃x,p.keys[i]?=some x:=⟨p.keys[i],by simp[hlt]⟩
   have hxD:p.keys.getD i []=x:=by rw[List.getD_eq_getElem?_getD,hx];rfl
   cases i with
   |zero=>
    have hok:FU p 0↔DM x=true∧(0<p.high.length→Op.bytesLess x p.high=true):=by unfold FU B4;rw[hxD];simp
    (repeat' (first |refine A0 ?_ |refine A5 ?_ |refine A6 ?_ |((first |refine rR (fun K kp hK hkp=>?_) |refine rD (id:=11) mixed 43 [0,1,2,3,4,5,6,7,8,9,10,11,12,13,14,15,16,17,18,19,20,21,22,23,24,25,26,27,28,29,30,31,32,33,34,35,36,37,38,39,40,41,42] (fun K kp hK hkp=>?_) |refine cD (Ey _ _ _) ?_ |refine cD (C5 _ _ _ _ _) ?_ |refine iD ?_);simp(implicitDefEqProofs:=false) (maxSteps:=2000000) (disch:=omega) only[go_sem,zi,hx,Aj];(repeat' (refine hK _ ?_;clear hK hkp kp K))) |((refine aD (fun h=>?_) (fun h=>?_))<;>simp only[h]) |refine A3 rfl ?_ |refine A4 rfl ?_ |((refine AD rfl (fun h=>?_) (fun h=>?_)<;>try simp only[BQ] at h)<;>(try (exfalso;omega))) |refine A8 ?_))
    all_goals first
     |(rw[GF (fun X=>absurd (hok.1 (X.ks _ hlt)) (by clear hE hdone;simp_all))];(refine A7 (by(simp(implicitDefEqProofs:=false) (maxSteps:=2000000) (disch:=omega) only[go_sem,results144]);rfl) ?_;refine eN hE ?_;simp[AG,ren,renL]))
     |(have hok':=hok.2 (by clear hE hdone;simp_all);((refine AJ (0+1) ?_ ?_ ?_);rotate_left;(·(try dsimp only);(omega));(·(refine AE hE [0] rfl ?_ ?_<;>simp[AU,AO,lk,ren,renL,A9,AL]<;>(try omega))));exact⟨by omega,fun j' hj'=>(by by_cases he:j'=0;(·rw[he];exact hok');(·exact hdone j' (by omega)))⟩)
   |succ j=>
    obtain⟨y,hy⟩: ∃y,p.keys[j]?=some y:=⟨p.keys[j],by simp[show j<p.keys.length by omega]⟩
    have hyD:p.keys.getD j []=y:=by rw[List.getD_eq_getElem?_getD,hy];rfl
    have hj1:((j+1:Nat):Int) - 1=(j:Int):=by omega
    have hok:FU p (j+1)↔DM x=true∧Op.bytesLess y x=true∧(0<p.high.length→Op.bytesLess x p.high=true):=by unfold FU B4;rw[hxD,Nat.add_sub_cancel,hyD];simp
    (repeat' (first |refine A0 ?_ |refine A5 ?_ |refine A6 ?_ |((first |refine rR (fun K kp hK hkp=>?_) |refine rD (id:=11) mixed 43 [0,1,2,3,4,5,6,7,8,9,10,11,12,13,14,15,16,17,18,19,20,21,22,23,24,25,26,27,28,29,30,31,32,33,34,35,36,37,38,39,40,41,42] (fun K kp hK hkp=>?_) |refine cD (Ey _ _ _) ?_ |refine cD (C5 _ _ _ _ _) ?_ |refine iD ?_);simp(implicitDefEqProofs:=false) (maxSteps:=2000000) (disch:=omega) only[go_sem,zi,hx,hy,hj1,Aj];(repeat' (refine hK _ ?_;clear hK hkp kp K))) |((refine aD (fun h=>?_) (fun h=>?_))<;>simp only[h]) |refine A3 rfl ?_ |refine A4 rfl ?_ |((refine AD rfl (fun h=>?_) (fun h=>?_)<;>try simp only[BQ] at h)<;>(try (exfalso;omega))) |refine A8 ?_))
    all_goals first
     |(rw[GF (fun X=>absurd (hok.1 (X.ks _ hlt)) (by clear hE hdone;simp_all))];(refine A7 (by(simp(implicitDefEqProofs:=false) (maxSteps:=2000000) (disch:=omega) only[go_sem,results144]);rfl) ?_;refine eN hE ?_;simp[AG,ren,renL]))
     |(have hok':=hok.2 (by clear hE hdone;simp_all);((refine AJ (j+1+1) ?_ ?_ ?_);rotate_left;(·(try dsimp only);(omega));(·(refine AE hE [0] rfl ?_ ?_<;>simp[AU,AO,lk,ren,renL,A9,AL]<;>(try omega))));exact⟨by omega,fun j' hj'=>(by by_cases he:j'=j+1;(·rw[he];exact hok');(·exact hdone j' (by omega)))⟩)
  ·obtain rfl:i=p.keys.length:=by omega
   (repeat' (first |refine A0 ?_ |refine A5 ?_ |refine AB ?_ |((refine rR (fun K kp hK hkp=>?_));simp(implicitDefEqProofs:=false) (maxSteps:=2000000) (disch:=omega) only[go_sem];(repeat' (refine hK _ ?_;clear hK hkp kp K))) |((refine AD rfl (fun h=>?_) (fun h=>?_)<;>try simp only[BQ] at h)<;>(try (exfalso;omega)))));refine AH (fun i:Nat=>⟨[(7,.r (.int .i64 i)),(2,.p 0 0 0),(1,.r (.int .i64 many))],[(0,.box 131 [.r (.bool p.leaf),.ro true 1 (p.keys.map Aj),.ro true 1 (p.kids.map eI),.ro true 1 (p.high.map AC),.r (.int .i64 p.next)])],1⟩) (fun i=>i≤p.kids.length∧ ∀j,j<i→NQ p many (p.kids.getD j 0)) (fun i=>p.kids.length - i) 0 ?_ ?_ ?_
   ·exact⟨Nat.zero_le _,fun j hj=>by omega⟩
   ·(refine AE hE [0] rfl ?_ ?_<;>simp[AU,AO,lk,ren,renL,A9,AL,hl]<;>(try omega))
   intro i hi;obtain⟨hi,hd2⟩:=hi
   by_cases hlt:i<p.kids.length
   ·have zi:((i:Int)<(p.kids.length:Int))=True:=eq_true (by omega)
    obtain⟨x,hx⟩: ∃x,p.kids[i]?=some x:=⟨p.kids[i],by simp[hlt]⟩
    have hok:NQ p many (p.kids.getD i 0)↔0≤x∧(p.leaf=false→x<many):=by rw[List.getD_eq_getElem?_getD,hx];rfl
    rw[hl] at hok;(repeat' (first |refine A0 ?_ |refine A5 ?_ |refine A6 ?_ |((first |refine rR (fun K kp hK hkp=>?_) |refine iG ?_);simp(implicitDefEqProofs:=false) (maxSteps:=2000000) (disch:=omega) only[go_sem,zi,hx,eI,hl];(repeat' (refine hK _ ?_;clear hK hkp kp K))) |((refine aG (fun h=>?_) (fun h=>?_))<;>simp only[h]) |refine A3 rfl ?_ |refine A4 rfl ?_ |((refine AD rfl (fun h=>?_) (fun h=>?_)<;>try simp only[BQ] at h)<;>(try (exfalso;omega))) |refine A8 ?_))
    all_goals first
     |(rw[GF (fun X=>by have Y:=hok.1 (X.kd _ hlt);clear hE hdone hd2;simp_all;try omega)];(refine A7 (by(simp(implicitDefEqProofs:=false) (maxSteps:=2000000) (disch:=omega) only[go_sem,results144]);rfl) ?_;refine eN hE ?_;simp[AG,ren,renL]))
     |(have hok':=hok.2 (by clear hE hdone hd2;constructor<;>simp_all<;>omega);((refine AJ (i+1) ?_ ?_ ?_);rotate_left;(·(try dsimp only);(omega));(·(refine AE hE [0] rfl ?_ ?_<;>simp[AU,AO,lk,ren,renL,A9,AL]<;>(try omega))));exact⟨by omega,fun j' hj'=>(by by_cases he:j'=i;(·rw[he];exact hok');(·exact hd2 j' (by omega)))⟩)
   ·obtain rfl:i=p.kids.length:=by omega
    rw[Ld ⟨H,hdone,hd2⟩];(repeat' (first |refine A0 ?_ |refine AB ?_ |((refine rR (fun K kp hK hkp=>?_));simp(implicitDefEqProofs:=false) (maxSteps:=2000000) (disch:=omega) only[go_sem];(repeat' (refine hK _ ?_;clear hK hkp kp K))) |((refine AD rfl (fun h=>?_) (fun h=>?_)<;>try simp only[BQ] at h)<;>(try (exfalso;omega))) |refine A8 ?_));(refine A7 (by(simp(implicitDefEqProofs:=false) (maxSteps:=2000000) (disch:=omega) only[go_sem,results144]);rfl) ?_;refine eN hE ?_;simp[AG,ren,renL])
end Go.AM
namespace Go.AM
open Go Go.RowKit
attribute [local irreducible] AWP Aw
structure FltOK (ps:List PG)(root:Int):Prop where
 n1:1≤ps.length
 n2:ps.length≤4000
 r0:0≤root
 r1:root<ps.length
 pg: ∀(i:Nat)(p:PG),ps[i]?=some p→PageOK p ps.length
 bf:Hk ps ps.length (ps.length+2) [(root.toNat,[],[])] 0=true
 on:(root.toNat::JF ps ps.length).Nodup
noncomputable def Sm (ps:List PG)(root:Int):Int:= @ite Int (FltOK ps root) (Classical.propDecidable _) 0 11
theorem Sk {ps:List PG}{root:Int}(h:FltOK ps root):Sm ps root=0:=if_pos h
theorem Sl {ps:List PG}{root:Int}(h: ¬FltOK ps root):Sm ps root=11:=if_neg h
theorem Lw (G:List (Nat×List Value))(p:PG)(many:Nat)(hb:p.keys.length≤1048576)(hb2:p.kids.length≤1048576)(hm:many≤1048576):Con prog G 144 [.agg (eP p),.r (.int .i64 many)] [] 0 (Is (.r (.bool (!TO p many))) [] 0) No:=by
 by_cases H:HeadOK p many
 ·exact PI G p many H hb2 hm
 ·exact PH G p many H hb hm
def Eu (x:Pg):List AV:=Aj x.2.1
def Ca (x:Pg):List AV:=Aj x.2.2
theorem L3 {P:Program}{E:Env}{N:Nat}{st:AS}{AQ:AExit→AS→Prop}{x y z v:Code}(fx:AS)(h:AWP P E N v fx AQ)(h2: ∀K:AS→Prop,(∀st',Emb E N st' fx→K st')→AWP P E N x st (CR (fun s=>AWP P E N y s (CR (fun s=>AWP P E N z s (CR K AQ)) AQ)) AQ)):
  AWP P E N (.seq x (.seq y (.seq z v))) st AQ:=
 A0 ((h2 _ fun st' he=>AWP.emb he h).mono (Bg fun _ hh=>A0 (hh.mono (Bg fun _ hh=>A0 hh))))
theorem KP {ps:List PG}(h: ∀(i:Nat)(p:PG),ps[i]?=some p→PageOK p ps.length)(i:Nat):(AI ps i).length≤5:=by
 cases hp:ps[i]? with
 |none=>
  have:pg ps i=default:=by rw[pg,List.getD_eq_getElem?_getD,hp];rfl
  rw[AI,this];exact Nat.zero_le _
 |some p=>
  have hpg:pg ps i=p:=by rw[pg,List.getD_eq_getElem?_getD,hp];rfl
  rw[AI,hpg];split
  ·exact Nat.zero_le _
  ·rename_i hl
   have h1:=(h i p hp).ki (by simpa using hl);have h2:=(h i p hp).nk;rw[List.length_map];omega
theorem Lv {ps:List PG}(h: ∀i,(AI ps i).length≤5): ∀(L:List Pg),(L.flatMap (B0 ps)).length≤5 * L.length
 | []=>by simp
 |x::r=>by
  have h1:=Lv h r;have h2:=h x.1;rw[List.flatMap_cons,List.length_append,List.length_cons,B0,List.length_mapIdx];omega
def sB (n:Nat)(D:List Nat):List (List AV):=(List.range n).map fun c=>[.r (.bool (decide (c ∈ D)))]
theorem GZ (n:Nat)(D:List Nat):(sB n D).length=n:=by simp[sB]
theorem I1 {n c:Nat}(D:List Nat)(h:c<n):(sB n D)[c]?=some [.r (.bool (decide (c ∈ D)))]:=by simp[sB,h]
theorem Rz {n x:Nat}(D:List Nat):(sB n D).set x [.r (.bool true)]=sB n (D++[x]):=by
 apply List.ext_getElem?;intro i;rw[List.getElem?_set]
 by_cases h:i<n
 ·rw[I1 _ h]
  by_cases hb:x=i
  ·subst hb;rw[if_pos rfl,GZ,if_pos h,I1 _ h];simp
  ·rw[if_neg hb,I1 _ h];simp[Ne.symm hb]
 ·rw[List.getElem?_eq_none (by rw[GZ];omega:(sB n (D++[x])).length≤i)]
  split
  ·rw[GZ,if_neg (by omega)]
  ·exact List.getElem?_eq_none (by rw[GZ];omega)
theorem VG (n:Nat):sB n []=List.replicate n [AV.r (.bool false)]:=by
 apply List.ext_getElem?;intro c
 by_cases hc:c<n
 ·rw[I1 _ hc];simp[hc]
 ·rw[List.getElem?_eq_none (by rw[GZ];omega),List.getElem?_eq_none (by simp;omega)]
def LD (ps:List PG)(rt i k:Nat):List Nat:=rt::((List.range i).flatMap (AI ps)++(AI ps i).take k)
theorem O3 (ps:List PG)(rt i:Nat){k:Nat}(hk:(AI ps i).length≤k):LD ps rt i k=LD ps rt (i+1) 0:=by
 simp[LD,List.range_succ,List.flatMap_append,List.take_of_length_le hk]
theorem O2 {ps:List PG}{rt i k x:Nat}(hx:(AI ps i)[k]?=some x):LD ps rt i (k+1)=LD ps rt i k++[x]:=by
 rw[LD,LD,List.take_add_one,hx];simp
theorem UI {ps:List PG}{rt i k x n:Nat}(hi:i<n)(hx:(AI ps i)[k]?=some x): ∃r,rt::JF ps n=LD ps rt i k++x::r:=by
 obtain⟨m,hm⟩: ∃m,n=i+(1+m):=⟨n - i - 1,by omega⟩;obtain⟨h1,h2⟩:=List.getElem?_eq_some_iff.1 hx
 have hd:AI ps i=(AI ps i).take k++x::(AI ps i).drop (k+1):=by
  rw[←h2,←List.drop_eq_getElem_cons h1,List.take_append_drop]
 refine⟨(AI ps i).drop (k+1)++((List.range m).map (i+1+ ·)).flatMap (AI ps),?_⟩
 have hr:List.range n=List.range i++i::(List.range m).map (i+1+ ·):=by
  rw[hm,List.range_add,Nat.add_comm 1 m,List.range_succ_eq_map,List.map_cons,List.map_map];simp[Function.comp_def,Nat.add_assoc,Nat.add_comm 1]
 rw[JF,hr,List.flatMap_append,List.flatMap_cons,LD]
 conv=>lhs;rw[hd]
 simp
theorem UK {ps:List PG}{rt i k x n:Nat}(hi:i<n)(hx:(AI ps i)[k]?=some x)(hm:x ∈ LD ps rt i k): ¬(rt::JF ps n).Nodup:=by
 obtain⟨r,hr⟩:=UI (rt:=rt) hi hx;rw[hr];intro h;exact(List.nodup_append.1 h).2.2 x hm x (by simp) rfl
theorem UJ (ps:List PG)(rt n:Nat):LD ps rt n 0=rt::JF ps n:=by simp[LD,JF]
set_option maxHeartbeats 8000000 in
theorem G9 (G:List (Nat×List Value))(t:Bool)(ps:List PG)(root:Int)(ho:VV ps)(hn0:ps.length≤1048576):Con prog G 92 [.agg [.ro t 5 (ps.map eP),.r (.int .i64 root)]] [] 0 (Is (.r (.int .i64 (Sm ps root))) [] 0) No:=by
 obtain⟨R,hR⟩: ∃R,Sm ps root=R:=⟨_,rfl⟩
 have hbad: ¬FltOK ps root→R=11:=fun h=>by rw[←hR];exact Sl h
 have hgood:FltOK ps root→R=0:=fun h=>by rw[←hR];exact Sk h
 rw[hR];have ic1:=Fw G ps.length 1 4000;have ic2:=Fw G root 0 ((ps.length:Int) - 1);refine AA func92 rfl (by kernel_rfl) (of_decide_eq_true (by kernel_rfl)) ?_;intro E hG hE;subst hG;simp only[B9]
 by_cases hb0:1≤ps.length∧ps.length≤4000∧0≤root∧root<ps.length
 rotate_left
 ·obtain rfl:=hbad fun X=>hb0 ⟨X.n1,X.n2,X.r0,X.r1⟩
  clear hbad hgood hR;(repeat' (first |refine A0 ?_ |refine A5 ?_ |refine A6 ?_ |((first |refine rR (fun K kp hK hkp=>?_) |refine cR ic1 ?_ |refine cR ic2 ?_ |refine iG ?_);simp(implicitDefEqProofs:=false) (maxSteps:=2000000) (disch:=omega) only[go_sem,eP];(repeat' (refine hK _ ?_;clear hK hkp kp K))) |((refine aG (fun h=>?_) (fun h=>?_))<;>simp only[h]) |refine A3 rfl ?_ |((refine AD rfl (fun h=>?_) (fun h=>?_)<;>try simp only[BQ] at h)<;>(try (exfalso;omega))) |refine A8 ?_))
  all_goals first
   |(refine A7 (by(simp(implicitDefEqProofs:=false) (maxSteps:=2000000) (disch:=omega) only[go_sem,results92]);rfl) ?_;refine eN hE ?_;simp[AG,ren,renL])
   |(exfalso;simp only[Bool.not_eq_false',Bool.and_eq_true,decide_eq_true_eq] at *;omega)
 obtain⟨b1,b2,b3,b4⟩:=hb0;obtain⟨rt,hrt⟩: ∃rt:Nat,root=rt:=⟨root.toNat,by omega⟩;subst hrt;have g1:(1≤(ps.length:Int))=True:=eq_true (by omega);have g2:((ps.length:Int)≤4000)=True:=eq_true (by omega);have g3:(0≤(rt:Int))=True:=eq_true (by omega);have g4:((rt:Int)≤(ps.length:Int) - 1)=True:=eq_true (by omega);simp only[g1,g2,decide_true,Bool.and_self] at ic1;simp only[g3,g4,decide_true,Bool.and_self] at ic2;refine A0 ?_;(refine rR (fun K kp hK hkp=>?_);simp(implicitDefEqProofs:=false) (maxSteps:=2000000) (disch:=omega) only[go_sem];(repeat' (refine hK _ ?_;clear hK hkp kp K)))
 by_cases hall: ∀(i:Nat)(p:PG),ps[i]?=some p→PageOK p ps.length
 rotate_left
 ·obtain rfl:=hbad fun X=>hall X.pg
  clear hbad hgood hR;(repeat' (first |refine A0 ?_ |refine A5 ?_ |refine A6 ?_ |((first |refine rR (fun K kp hK hkp=>?_) |refine cR ic1 ?_ |refine cR ic2 ?_);simp(implicitDefEqProofs:=false) (maxSteps:=2000000) (disch:=omega) only[go_sem,eP];(repeat' (refine hK _ ?_;clear hK hkp kp K))) |refine A4 rfl ?_));refine AH (fun i:Nat=>⟨[(3,.r (.int .i64 i)),(1,.p 0 0 0)],[(0,.box 33 [.ro t 5 (ps.map eP),.r (.int .i64 rt)])],1⟩) (fun i=>i≤ps.length∧ ∀(j:Nat)(p:PG),j<i→ps[j]?=some p→PageOK p ps.length) (fun i=>ps.length - i) 0 ?_ ?_ ?_
  ·exact⟨Nat.zero_le _,fun j p hj=>by omega⟩
  ·(refine AE hE [0] rfl ?_ ?_<;>simp[AU,AO,lk,ren,renL,A9,AL]<;>(try omega))
  intro i hi;obtain⟨hi,hdone⟩:=hi
  by_cases hlt:i<ps.length
  ·have zi:((i:Int)<(ps.length:Int))=True:=eq_true (by omega)
   obtain⟨p,hp⟩: ∃p,ps[i]?=some p:=⟨ps[i],by simp[hlt]⟩;have pc:=Lw E.G p ps.length (ho p (List.mem_of_getElem? hp)).1 (ho p (List.mem_of_getElem? hp)).2 hn0
   by_cases hpo:PageOK p ps.length
   ·rw[Ld hpo] at pc
    (repeat' (first |refine A0 ?_ |refine A5 ?_ |refine A6 ?_ |((first |refine rR (fun K kp hK hkp=>?_) |refine rD (id:=6) mixed 9 [0,1,2,3,4,5,6,7,8] (fun K kp hK hkp=>?_) |refine cD pc ?_);simp(implicitDefEqProofs:=false) (maxSteps:=2000000) (disch:=omega) only[go_sem,zi,hp,eP];(repeat' (refine hK _ ?_;clear hK hkp kp K))) |refine A3 rfl ?_ |refine A4 rfl ?_))
    ((refine AJ (i+1) ?_ ?_ ?_);rotate_left;(·(try dsimp only);(omega));(·(refine AE hE [0] rfl ?_ ?_<;>simp[AU,AO,lk,ren,renL,A9,AL]<;>(try omega))))
    refine⟨by omega,fun j q hj hq=>?_⟩
    by_cases he:j=i
    ·subst he;rw[hp] at hq;cases hq;exact hpo
    ·exact hdone j q (by omega) hq
   ·rw[GF hpo] at pc
    (repeat' (first |refine A0 ?_ |refine A5 ?_ |refine A6 ?_ |((first |refine rR (fun K kp hK hkp=>?_) |refine rD (id:=6) mixed 9 [0,1,2,3,4,5,6,7,8] (fun K kp hK hkp=>?_) |refine cD pc ?_);simp(implicitDefEqProofs:=false) (maxSteps:=2000000) (disch:=omega) only[go_sem,zi,hp,eP];(repeat' (refine hK _ ?_;clear hK hkp kp K))) |refine A3 rfl ?_ |refine A8 ?_));(refine A7 (by(simp(implicitDefEqProofs:=false) (maxSteps:=2000000) (disch:=omega) only[go_sem,results92]);rfl) ?_;refine eN hE ?_;simp[AG,ren,renL])
  ·exfalso
   exact hall fun j p hp=>hdone j p (by have:=(List.getElem?_eq_some_iff.1 hp).1;omega) hp
 refine Hm (fx:=⟨[(1,.p 0 0 0)],[(0,.box 33 [.ro t 5 (ps.map eP),.r (.int .i64 rt)])],1⟩) ?_ fun K hcut=>?_;rotate_left
 ·(repeat' (first |refine A0 ?_ |refine A5 ?_ |refine A6 ?_ |((first |refine rR (fun K kp hK hkp=>?_) |refine cR ic1 ?_ |refine cR ic2 ?_);simp(implicitDefEqProofs:=false) (maxSteps:=2000000) (disch:=omega) only[go_sem,eP];(repeat' (refine hK _ ?_;clear hK hkp kp K))) |refine A4 rfl ?_))
  refine AH (fun i:Nat=>⟨[(3,.r (.int .i64 i)),(1,.p 0 0 0)],[(0,.box 33 [.ro t 5 (ps.map eP),.r (.int .i64 rt)])],1⟩) (fun i=>i≤ps.length) (fun i=>ps.length - i) 0 ?_ ?_ ?_
  ·exact Nat.zero_le _
  ·(refine AE hE [0] rfl ?_ ?_<;>simp[AU,AO,lk,ren,renL,A9,AL]<;>(try omega))
  intro i hi
  by_cases hlt:i<ps.length
  ·have zi:((i:Int)<(ps.length:Int))=True:=eq_true (by omega)
   obtain⟨p,hp⟩: ∃p,ps[i]?=some p:=⟨ps[i],by simp[hlt]⟩;have pc:=Lw E.G p ps.length (ho p (List.mem_of_getElem? hp)).1 (ho p (List.mem_of_getElem? hp)).2 hn0;rw[Ld (hall i p hp)] at pc;(repeat' (first |refine A0 ?_ |refine A5 ?_ |refine A6 ?_ |((first |refine rR (fun K kp hK hkp=>?_) |refine rD (id:=6) mixed 9 [0,1,2,3,4,5,6,7,8] (fun K kp hK hkp=>?_) |refine cD pc ?_);simp(implicitDefEqProofs:=false) (maxSteps:=2000000) (disch:=omega) only[go_sem,zi,hp,eP];(repeat' (refine hK _ ?_;clear hK hkp kp K))) |refine A3 rfl ?_ |refine A4 rfl ?_))
   ((refine AJ (i+1) ?_ ?_ ?_);rotate_left;(·(try dsimp only);(omega));(·(refine AE hE [0] rfl ?_ ?_<;>simp[AU,AO,lk,ren,renL,A9,AL]<;>(try omega))))
   omega
  ·obtain rfl:i=ps.length:=by omega
   (repeat' (first |refine A0 ?_ |refine AB ?_ |((refine rR (fun K kp hK hkp=>?_));simp(implicitDefEqProofs:=false) (maxSteps:=2000000) (disch:=omega) only[go_sem];(repeat' (refine hK _ ?_;clear hK hkp kp K))) |((refine AD rfl (fun h=>?_) (fun h=>?_)<;>try simp only[BQ] at h)<;>(try (exfalso;omega)))));refine hcut _ ?_;(refine AE hE [0] rfl ?_ ?_<;>simp[AU,AO,lk,ren,renL,A9,AL]<;>(try omega))
 clear ic1 ic2;obtain⟨B,hB⟩: ∃B,Hk ps ps.length (ps.length+2) [(rt,[],[])] 0=B:=⟨_,rfl⟩;have hgood:B=true→(rt::JF ps ps.length).Nodup→R=0:=fun h1 h2=>hgood ⟨b1,b2,b3,b4,hall,by rw[Int.toNat_natCast,hB];exact h1,by rw[Int.toNat_natCast];exact h2⟩
 have hbad1:B=false→R=11:=fun h=>hbad fun Y=>by
  have:=Y.bf;rw[Int.toNat_natCast,hB,h] at this;cases this
 have hbad2: ¬(rt::JF ps ps.length).Nodup→R=11:=fun h=>hbad fun Y=>h (by have:=Y.on;rwa [Int.toNat_natCast] at this);clear hbad;have hin:=HP hall;refine A0 ?_;(refine rR (fun K kp hK hkp=>?_);simp(implicitDefEqProofs:=false) (maxSteps:=2000000) (disch:=omega) only[go_sem,Value.oneCell'];(repeat' (refine hK _ ?_;clear hK hkp kp K)));refine A0 ?_;(refine rR (fun K kp hK hkp=>?_);simp(implicitDefEqProofs:=false) (maxSteps:=2000000) (disch:=omega) only[go_sem,Value.oneCell'];(repeat' (refine hK _ ?_;clear hK hkp kp K)));refine A0 ?_;(refine rR (fun K kp hK hkp=>?_);simp(implicitDefEqProofs:=false) (maxSteps:=2000000) (disch:=omega) only[go_sem,Value.oneCell'];(repeat' (refine hK _ ?_;clear hK hkp kp K)));refine A0 ?_;(refine rR (fun K kp hK hkp=>?_);simp(implicitDefEqProofs:=false) (maxSteps:=2000000) (disch:=omega) only[go_sem];(repeat' (refine hK _ ?_;clear hK hkp kp K)));refine AWP.emb (Ny (T:=81) 2 rfl) ?_;refine AWP.emb (Ny (T:=81) 3 rfl) ?_;simp only[Ad];refine A0 ?_;refine A5 ?_;refine AH (fun d:List Pg×Nat×Nat=>⟨[(7,.r (.int .i64 d.2.1)),(6,.s 3 0 d.1.length),(5,.s 2 0 d.1.length),(4,.s 1 0 d.1.length),(1,.p 0 0 0)],[(0,.box 33 [.ro t 5 (ps.map eP),.r (.int .i64 rt)]),(1,.lst 3 1 ((BW d.1).map Cd)),(2,.lst 81 1 (d.1.map Eu)),(3,.lst 81 1 (d.1.map Ca))],4⟩)
  (fun d=>(∀x ∈ d.1,x.1<ps.length)∧d.2.1≤ps.length∧d.1.length≤20000∧ps.length<d.2.1+d.2.2∧Hk ps ps.length d.2.2 d.1 d.2.1=B) (fun d=>d.2.2) ([(rt,[],[])],0,ps.length+2) ?_ ?_ ?_
 ·exact⟨by simp;omega,by simp,by simp,by simp,hB⟩
 ·(refine AE hE [0,1,2,3] rfl ?_ ?_<;>simp[AU,AO,lk,ren,renL,A9,AL,BW,Cd,Eu,Ca,Aj]<;>(try omega))
 rintro⟨L,met,f⟩ ⟨hL,hmt,hLl,hf,hBf⟩;dsimp only at hL hmt hLl hf hBf ⊢
 by_cases hL0:L=[]
 ·subst hL0
  obtain⟨f,rfl⟩: ∃g,f=g+1:=⟨f - 1,by omega⟩;rw[Hk,if_pos rfl] at hBf
  by_cases hmn:met=ps.length
  rotate_left
  ·obtain rfl:=hbad1 (by rw[←hBf];exact decide_eq_false hmn)
   have q1:((met:Int) !=(ps.length:Int))=true:=by simp;omega
   (repeat' (first |refine A0 ?_ |refine AB ?_ |((refine rR (fun K kp hK hkp=>?_));simp(implicitDefEqProofs:=false) (maxSteps:=2000000) (disch:=omega) only[go_sem,q1,List.length_nil];(repeat' (refine hK _ ?_;clear hK hkp kp K))) |refine A3 rfl ?_ |refine A4 rfl ?_ |refine A8 ?_));(refine A7 (by(simp(implicitDefEqProofs:=false) (maxSteps:=2000000) (disch:=omega) only[go_sem,results92]);rfl) ?_;refine eN hE ?_;simp[AG,ren,renL])
  have hBt:B=true:=by rw[←hBf];exact decide_eq_true hmn
  have q1:((met:Int) !=(ps.length:Int))=false:=by rw[hmn];simp
  have q2:=VG ps.length;have q3:=I1 [] (show rt<ps.length by omega);have zr:((rt:Int)<(ps.length:Int))=True:=eq_true (by omega);have q4:(sB ps.length []).set rt [.r (.bool true)]=sB ps.length (LD ps rt 0 0):=Rz [];(repeat' (first |refine A0 ?_ |refine A5 ?_ |refine A6 ?_ |refine AB ?_ |((refine rR (fun K kp hK hkp=>?_));simp(implicitDefEqProofs:=false) (maxSteps:=2000000) (disch:=omega) only[go_sem,q1,List.length_nil,Value.oneCell',←q2,q3,zr];(repeat' (first |(refine hK _ ?_;clear hK hkp kp K) |(with_reducible refine And.intro ?_ ?_) |omega))) |refine A4 rfl ?_));rw[q4];refine AH (fun i:Nat=>⟨[(18,.r (.int .i64 i)),(17,.s 1 0 ps.length),(1,.p 0 0 0)],[(0,.box 33 [.ro t 5 (ps.map eP),.r (.int .i64 rt)]),(1,.lst 4 1 (sB ps.length (LD ps rt i 0)))],2⟩) (fun i=>i≤ps.length∧(LD ps rt i 0).Nodup) (fun i=>ps.length - i) 0 ?_ ?_ ?_
  ·exact⟨Nat.zero_le _,by simp[LD]⟩
  ·(refine AE hE [0,4] rfl ?_ ?_<;>simp[AU,AO,lk,ren,renL,A9,AL]<;>(try omega))
  intro i hi;obtain⟨hi,hnd0⟩:=hi
  by_cases hlt:i<ps.length
  ·have zi:((i:Int)<(ps.length:Int))=True:=eq_true (by omega)
   obtain⟨p,hp⟩: ∃p,ps[i]?=some p:=⟨ps[i],by simp[hlt]⟩
   have hpg:pg ps i=p:=by rw[pg,List.getD_eq_getElem?_getD,hp];rfl
   have hpo:=hall i p hp;(repeat' (first |refine A0 ?_ |refine A5 ?_ |refine A6 ?_ |((refine rR (fun K kp hK hkp=>?_));simp(implicitDefEqProofs:=false) (maxSteps:=2000000) (disch:=omega) only[go_sem,zi];(repeat' (refine hK _ ?_;clear hK hkp kp K))) |refine A3 rfl ?_));refine AH (fun k:Nat=>⟨[(19,.r (.int .i64 k)),(18,.r (.int .i64 i)),(17,.s 1 0 ps.length),(1,.p 0 0 0)],[(0,.box 33 [.ro t 5 (ps.map eP),.r (.int .i64 rt)]),(1,.lst 4 1 (sB ps.length (LD ps rt i k)))],2⟩) (fun k=>k≤(AI ps i).length∧(LD ps rt i k).Nodup) (fun k=>(AI ps i).length - k) 0 ?_ ?_ ?_
   ·exact⟨Nat.zero_le _,hnd0⟩
   ·(refine AE hE [0,1] rfl ?_ ?_<;>simp[AU,AO,lk,ren,renL,A9,AL]<;>(try omega))
   intro k hk;obtain⟨hk,hndk⟩:=hk
   by_cases hl:p.leaf=true
   ·have hk0:AI ps i=[]:=Dj (by rw[hpg];exact hl)
    have hnx:=O3 ps rt i (k:=k) (by rw[hk0];exact Nat.zero_le _);(repeat' (first |refine A0 ?_ |refine AB ?_ |((first |refine rR (fun K kp hK hkp=>?_) |refine iG ?_);simp(implicitDefEqProofs:=false) (maxSteps:=2000000) (disch:=omega) only[go_sem,zi,hp,eP,hl];(repeat' (refine hK _ ?_;clear hK hkp kp K))) |((refine aG (fun h=>?_) (fun h=>?_))<;>simp only[h]) |refine A4 rfl ?_))
    all_goals rw[hnx]
    all_goals ((refine AJ (i+1) ?_ ?_ ?_);rotate_left;(·(try dsimp only);(omega));(·(refine AE hE [0,1] rfl ?_ ?_<;>simp[AU,AO,lk,ren,renL,A9,AL]<;>(try omega))))
    all_goals exact⟨by omega,by rw[←hnx];exact hndk⟩
   replace hl:p.leaf=false:=by simpa using hl
   have hk5:=hpo.ki hl;have hk4:=hpo.nk
   have hpk:p.kids=BP (AI ps i):=by
    rw[AI,hpg,hl];simp only[Bool.false_eq_true,if_false,BP,List.map_map];refine(List.map_id _).symm.trans (List.map_congr_left fun x hx=>?_);obtain⟨j,hj⟩:=List.mem_iff_getElem?.1 hx;have:=(hpo.kd j (List.getElem?_eq_some_iff.1 hj).1).1;rw[List.getD_eq_getElem?_getD,hj] at this;show x=((x.toNat:Nat):Int);have h0:0≤x:=this;omega
   have hcl:p.kids.length=(AI ps i).length:=by rw[hpk,BP,List.length_map]
   by_cases hkl:k<(AI ps i).length
   ·have zk:((k:Int)<(p.kids.length:Int))=True:=eq_true (by omega)
    obtain⟨x,hx⟩: ∃x,(AI ps i)[k]?=some x:=⟨(AI ps i)[k],by simp[hkl]⟩
    have hkd:p.kids[k]?=some (x:Int):=by rw[hpk,BP,List.getElem?_map,hx];rfl
    have hxn:=hin i x (List.mem_of_getElem? hx);have zx:((x:Int)<(ps.length:Int))=True:=eq_true (by omega);have hg:=I1 (LD ps rt i k) hxn
    by_cases hm:x ∈ LD ps rt i k
    ·obtain rfl:=hbad2 (UK hlt hx hm)
     rw[decide_eq_true hm] at hg;(repeat' (first |refine A0 ?_ |refine A5 ?_ |refine A6 ?_ |((refine rR (fun K kp hK hkp=>?_));simp(implicitDefEqProofs:=false) (maxSteps:=2000000) (disch:=omega) only[go_sem,zi,hp,eP,hl,zk,hkd,eI,zx,hg,GZ];(repeat' (refine hK _ ?_;clear hK hkp kp K))) |refine A3 rfl ?_ |refine A8 ?_));(refine A7 (by(simp(implicitDefEqProofs:=false) (maxSteps:=2000000) (disch:=omega) only[go_sem,results92]);rfl) ?_;refine eN hE ?_;simp[AG,ren,renL])
    ·rw[decide_eq_false hm] at hg
     have hst:(sB ps.length (LD ps rt i k)).set x [.r (.bool true)]=sB ps.length (LD ps rt i (k+1)):=by rw[Rz,O2 hx]
     (repeat' (first |refine A0 ?_ |refine A5 ?_ |refine A6 ?_ |((refine rR (fun K kp hK hkp=>?_));simp(implicitDefEqProofs:=false) (maxSteps:=2000000) (disch:=omega) only[go_sem,zi,hp,eP,hl,zk,hkd,eI,zx,hg,GZ];(repeat' (refine hK _ ?_;clear hK hkp kp K))) |refine A3 rfl ?_ |refine A4 rfl ?_));rw[hst]
     ((refine AJ (k+1) ?_ ?_ ?_);rotate_left;(·(try dsimp only);(omega));(·(refine AE hE [0,1] rfl ?_ ?_<;>simp[AU,AO,lk,ren,renL,A9,AL]<;>(try omega))))
     refine⟨by omega,?_⟩;rw[O2 hx];exact List.nodup_append.2 ⟨hndk,by simp,fun a ha b hb=>by simp at hb;subst hb;rintro rfl;exact hm ha⟩
   ·have zk:((k:Int)<(p.kids.length:Int))=False:=eq_false (by omega)
    have hnx:=O3 ps rt i (k:=k) (by omega);(repeat' (first |refine A0 ?_ |refine AB ?_ |((refine rR (fun K kp hK hkp=>?_));simp(implicitDefEqProofs:=false) (maxSteps:=2000000) (disch:=omega) only[go_sem,zi,hp,eP,hl,zk];(repeat' (refine hK _ ?_;clear hK hkp kp K))) |refine A4 rfl ?_));rw[hnx]
    ((refine AJ (i+1) ?_ ?_ ?_);rotate_left;(·(try dsimp only);(omega));(·(refine AE hE [0,1] rfl ?_ ?_<;>simp[AU,AO,lk,ren,renL,A9,AL]<;>(try omega))))
    exact⟨by omega,by rw[←hnx];exact hndk⟩
  ·obtain rfl:i=ps.length:=by omega
   rw[UJ] at hnd0 ⊢;obtain rfl:=hgood hBt hnd0;(repeat' (first |refine A0 ?_ |refine AB ?_ |((refine rR (fun K kp hK hkp=>?_));simp(implicitDefEqProofs:=false) (maxSteps:=2000000) (disch:=omega) only[go_sem];(repeat' (refine hK _ ?_;clear hK hkp kp K))) |((refine AD rfl (fun h=>?_) (fun h=>?_)<;>try simp only[BQ] at h)<;>(try (exfalso;omega))) |refine A8 ?_));(refine A7 (by(simp(implicitDefEqProofs:=false) (maxSteps:=2000000) (disch:=omega) only[go_sem,results92]);rfl) ?_;refine eN hE ?_;simp[AG,ren,renL])
 obtain⟨f,rfl⟩: ∃g,f=g+1:=⟨f - 1,by omega⟩;rw[Hk,if_neg hL0] at hBf;have hLp:0<L.length:=List.length_pos_iff.2 hL0;have q1:((L.length:Int)>0)=True:=eq_true (by omega)
 have q0:(met:Int)+(L.length:Int)=((met+L.length:Nat):Int):=by omega
 by_cases c1:met+L.length>ps.length
 ·rw[if_pos c1] at hBf
  obtain rfl:=hbad1 hBf.symm;have q2:(((met+L.length:Nat):Int)>(ps.length:Int))=True:=eq_true (by omega);(repeat' (first |refine A0 ?_ |refine A5 ?_ |refine A6 ?_ |((refine rR (fun K kp hK hkp=>?_));simp(implicitDefEqProofs:=false) (maxSteps:=2000000) (disch:=omega) only[go_sem,q1,q0,q2];(repeat' (refine hK _ ?_;clear hK hkp kp K))) |refine A3 rfl ?_ |refine A8 ?_));(refine A7 (by(simp(implicitDefEqProofs:=false) (maxSteps:=2000000) (disch:=omega) only[go_sem,results92]);rfl) ?_;refine eN hE ?_;simp[AG,ren,renL])
 rw[if_neg c1] at hBf;have q2:(((met+L.length:Nat):Int)>(ps.length:Int))=False:=eq_false (by omega);(repeat' (first |refine A0 ?_ |refine A5 ?_ |refine A6 ?_ |((refine rR (fun K kp hK hkp=>?_));simp(implicitDefEqProofs:=false) (maxSteps:=2000000) (disch:=omega) only[go_sem,q1,q0,q2];(repeat' (refine hK _ ?_;clear hK hkp kp K))) |refine A3 rfl ?_ |refine A4 rfl ?_));(refine AWP.emb (C0 8 3 1 ?_) ?_;(·rfl);dsimp only);(refine AWP.emb (C0 9 81 1 ?_) ?_;(·rfl);dsimp only);(refine AWP.emb (C0 10 81 1 ?_) ?_;(·rfl);dsimp only);refine AH (fun i:Nat=>⟨[(11,.r (.int .i64 i)),(10,.s 6 0 ((L.take i).flatMap (B0 ps)).length),(9,.s 5 0 ((L.take i).flatMap (B0 ps)).length),(8,.s 4 0 ((L.take i).flatMap (B0 ps)).length),(7,.r (.int .i64 ((met+L.length:Nat):Int))),(6,.s 3 0 L.length),(5,.s 2 0 L.length),(4,.s 1 0 L.length),(1,.p 0 0 0)],[(0,.box 33 [.ro t 5 (ps.map eP),.r (.int .i64 rt)]),(1,.lst 3 1 ((BW L).map Cd)),(2,.lst 81 1 (L.map Eu)),(3,.lst 81 1 (L.map Ca)),(4,.lst 3 1 ((BW ((L.take i).flatMap (B0 ps))).map Cd)),(5,.lst 81 1 (((L.take i).flatMap (B0 ps)).map Eu)),(6,.lst 81 1 (((L.take i).flatMap (B0 ps)).map Ca))],7⟩) (fun i=>i≤L.length∧ ∀(j:Nat) x,j<i→L[j]?=some x→NN ps L j x) (fun i=>L.length - i) 0 ?_ ?_ ?_
 ·exact⟨Nat.zero_le _,fun j x hj=>by omega⟩
 ·(refine AE hE [0,1,2,3,4,5,6] rfl ?_ ?_<;>simp[AU,AO,lk,ren,renL,A9,AL,BW]<;>(try omega))
 intro i hi;obtain⟨hi,hdone⟩:=hi
 have hNl: ∀j,((L.take j).flatMap (B0 ps)).length≤5 * j:=fun j=>by
  have h1:=Lv (KP hall) (L.take j);have h2:=List.length_take_le j L;omega
 by_cases hlt:i<L.length
 ·obtain⟨x,hx⟩: ∃x,L[i]?=some x:=⟨L[i],by simp[hlt]⟩
  have hxn:=hL x (List.mem_of_getElem? hx)
  have hxm:(BW L)[i]?=some x.1:=by rw[BW,List.getElem?_map,hx];rfl
  have zi:((i:Int)<(L.length:Int))=True:=eq_true (by omega);have zx:((x.1:Int)<(ps.length:Int))=True:=eq_true (by omega);obtain⟨p,hp⟩: ∃p,ps[x.1]?=some p:=⟨ps[x.1],by simp[hxn]⟩
  have hpg:pg ps x.1=p:=by rw[pg,List.getD_eq_getElem?_getD,hp];rfl
  have hpo:=hall x.1 p hp
  have nl:(BW L).length=L.length:=by simp[BW]
  obtain⟨N,hN⟩: ∃N,(L.take i).flatMap (B0 ps)=N:=⟨_,rfl⟩;have hNi:=hNl i
  have i1:(i:Int)+1=((i+1:Nat):Int):=by omega
  rw[hN] at hNi ⊢;obtain⟨rv,hrv⟩: ∃rv,DA (BW L) i=rv:=⟨_,rfl⟩;refine A0 ?_;refine A0 ?_;(refine rR (fun K kp hK hkp=>?_);simp(implicitDefEqProofs:=false) (maxSteps:=2000000) (disch:=omega) only[go_sem,zi,nl];(repeat' (refine hK _ ?_;clear hK hkp kp K)));refine A3 rfl ?_;refine A6 ?_;refine A0 ?_;refine A5 ?_;refine L3 (fx:=⟨[(13,.r (.int .i64 rv)),(12,.p 7 0 0),(11,.r (.int .i64 i)),(10,.s 6 0 (N).length),(9,.s 5 0 (N).length),(8,.s 4 0 (N).length),(7,.r (.int .i64 ((met+L.length:Nat):Int))),(6,.s 3 0 L.length),(5,.s 2 0 L.length),(4,.s 1 0 L.length),(1,.p 0 0 0)],[(0,.box 33 [.ro t 5 (ps.map eP),.r (.int .i64 rt)]),(1,.lst 3 1 ((BW L).map Cd)),(2,.lst 81 1 (L.map Eu)),(3,.lst 81 1 (L.map Ca)),(4,.lst 3 1 ((BW (N)).map Cd)),(5,.lst 81 1 ((N).map Eu)),(6,.lst 81 1 ((N).map Ca)),(7,.box 131 [.r (.bool p.leaf),.ro true 1 (p.keys.map Aj),.ro true 1 (p.kids.map eI),.ro true 1 (p.high.map AC),.r (.int .i64 p.next)])],8⟩) ?_ fun K hcut=>?_;rotate_left
  ·by_cases hi1:i+1<L.length
   ·obtain⟨y,hy⟩: ∃y,L[i+1]?=some y:=⟨L[i+1],by simp[hi1]⟩
    have hym:(BW L)[i+1]?=some y.1:=by rw[BW,List.getElem?_map,hy];rfl
    obtain rfl:rv=(y.1:Int):=by rw[←hrv,DA,hym]
    have q3:(((i+1:Nat):Int)<(L.length:Int))=True:=eq_true (by omega);(repeat' (first |refine A0 ?_ |((first |refine rR (fun K kp hK hkp=>?_) |refine rD (id:=22) mixed 9 [0,1,2,3,4,5,6,7,8] (fun K kp hK hkp=>?_));simp(implicitDefEqProofs:=false) (maxSteps:=2000000) (disch:=omega) only[go_sem,zi,nl,hxm,zx,hp,eP,Cd,i1,q3,hym];(repeat' (refine hK _ ?_;clear hK hkp kp K))) |refine A3 rfl ?_));refine hcut _ ?_;(refine AE hE [0,1,2,3,4,5,6,7] rfl ?_ ?_<;>simp[AU,AO,lk,ren,renL,A9,AL]<;>(try omega))
   ·have hym:(BW L)[i+1]?=none:=List.getElem?_eq_none (by omega)
    obtain rfl:rv= -1:=by rw[←hrv,DA,hym]
    have q3:(((i+1:Nat):Int)<(L.length:Int))=False:=eq_false (by omega);(repeat' (first |refine A0 ?_ |refine A6 ?_ |((first |refine rR (fun K kp hK hkp=>?_) |refine rD (id:=22) mixed 9 [0,1,2,3,4,5,6,7,8] (fun K kp hK hkp=>?_));simp(implicitDefEqProofs:=false) (maxSteps:=2000000) (disch:=omega) only[go_sem,zi,nl,hxm,zx,hp,eP,Cd,i1,q3];(repeat' (refine hK _ ?_;clear hK hkp kp K))) |refine A4 rfl ?_));refine hcut _ ?_;(refine AE hE [0,1,2,3,4,5,6,7] rfl ?_ ?_<;>simp[AU,AO,lk,ren,renL,A9,AL]<;>(try omega))
  have hno: ¬NN ps L i x→R=11:=fun h=>hbad1 (by rw[←hBf,if_neg (fun ha=>h (ha i x hx))]);obtain⟨w,hw⟩: ∃w,L[0]?=some w:=⟨L[0],by simp[hLp]⟩
  have hwm:(BW L)[0]?=some w.1:=by rw[BW,List.getElem?_map,hw];rfl
  have hwD:(BW L).getD 0 0=w.1:=by rw[List.getD_eq_getElem?_getD,hwm];rfl
  have hwn:=hL w (List.mem_of_getElem? hw);obtain⟨p0,hp0⟩: ∃p0,ps[w.1]?=some p0:=⟨ps[w.1],by simp[hwn]⟩
  have hpg0:pg ps w.1=p0:=by rw[pg,List.getD_eq_getElem?_getD,hp0];rfl
  have zl0:((0:Int)<(L.length:Int))=True:=eq_true (by omega);have zw:((w.1:Int)<(ps.length:Int))=True:=eq_true (by omega)
  by_cases e1:p.next=rv
  rotate_left
  ·obtain rfl:=hno fun h=>e1 (by have:=h.1;rw[hpg,hrv] at this;exact this)
   have d1:(p.next !=rv)=true:=by simpa using e1
   (repeat' (first |refine A0 ?_ |((first |refine rR (fun K kp hK hkp=>?_) |refine rD (id:=26) mixed 27 [0,1,2,3,4,5,6,7,8,9,10,11,12,13,14,15,16,17,18,19,20,21,22,23,24,25,26] (fun K kp hK hkp=>?_));simp(implicitDefEqProofs:=false) (maxSteps:=2000000) (disch:=omega) only[go_sem,zi,nl,hx,zx,hp,eP,Cd,Ca,Eu,Aj,d1];(repeat' (refine hK _ ?_;clear hK hkp kp K))) |refine A3 rfl ?_ |refine A8 ?_));(refine A7 (by(simp(implicitDefEqProofs:=false) (maxSteps:=2000000) (disch:=omega) only[go_sem,results92]);rfl) ?_;refine eN hE ?_;simp[AG,ren,renL])
  have d1:(p.next !=rv)=false:=by rw[e1];simp
  by_cases e2:p.high=x.2.2
  rotate_left
  ·obtain rfl:=hno fun h=>e2 (by have:=h.2.1;rw[hpg] at this;exact this)
   have d2:(p.high==x.2.2)=false:=by simpa using e2
   (repeat' (first |refine A0 ?_ |((first |refine rR (fun K kp hK hkp=>?_) |refine rD (id:=26) mixed 27 [0,1,2,3,4,5,6,7,8,9,10,11,12,13,14,15,16,17,18,19,20,21,22,23,24,25,26] (fun K kp hK hkp=>?_) |refine cD (ED _ _ _ _ _) ?_);simp(implicitDefEqProofs:=false) (maxSteps:=2000000) (disch:=omega) only[go_sem,zi,nl,hx,zx,hp,eP,Cd,Ca,Eu,Aj,d1,d2];(repeat' (refine hK _ ?_;clear hK hkp kp K))) |refine A3 rfl ?_ |refine A8 ?_));(refine A7 (by(simp(implicitDefEqProofs:=false) (maxSteps:=2000000) (disch:=omega) only[go_sem,results92]);rfl) ?_;refine eN hE ?_;simp[AG,ren,renL])
  have d2:(p.high==x.2.2)=true:=by rw[e2];exact beq_self_eq_true _
  by_cases e3:p.leaf=p0.leaf
  rotate_left
  ·obtain rfl:=hno fun h=>e3 (by have:=h.2.2.1;rw[hpg,hwD,hpg0] at this;exact this)
   have d3:(p.leaf==p0.leaf)=false:=by simpa using e3
   (repeat' (first |refine A0 ?_ |((first |refine rR (fun K kp hK hkp=>?_) |refine rD (id:=26) mixed 27 [0,1,2,3,4,5,6,7,8,9,10,11,12,13,14,15,16,17,18,19,20,21,22,23,24,25,26] (fun K kp hK hkp=>?_) |refine cD (ED _ _ _ _ _) ?_);simp(implicitDefEqProofs:=false) (maxSteps:=2000000) (disch:=omega) only[go_sem,zi,nl,hx,zx,hp,eP,Cd,Ca,Eu,Aj,d1,d2,d3,hwm,hp0,zl0,zw];(repeat' (refine hK _ ?_;clear hK hkp kp K))) |refine A3 rfl ?_ |refine A8 ?_));(refine A7 (by(simp(implicitDefEqProofs:=false) (maxSteps:=2000000) (disch:=omega) only[go_sem,results92]);rfl) ?_;refine eN hE ?_;simp[AG,ren,renL])
  have d3:(p.leaf==p0.leaf)=true:=by rw[e3];exact beq_self_eq_true _
  cases e4:B5 p x.2.1
  ·obtain rfl:=hno fun h=>by
    have:=h.2.2.2;rw[hpg,e4] at this;cases this
   have hk0: ¬p.keys.length=0:=fun h=>by rw[HV h] at e4;cases e4
   have hk1:((p.keys.length:Int)>0)=True:=eq_true (by omega);obtain⟨k,hk⟩: ∃k,p.keys[0]?=some k:=⟨p.keys[0]'(by omega),by simp⟩
   have d4:Op.bytesLess k x.2.1=true:=by
    have e5:B4 k x.2.1=true:=by rw[DC hk] at e4;simpa using e4
    exact e5
   (repeat' (first |refine A0 ?_ |refine A6 ?_ |((first |refine rR (fun K kp hK hkp=>?_) |refine rD (id:=26) mixed 27 [0,1,2,3,4,5,6,7,8,9,10,11,12,13,14,15,16,17,18,19,20,21,22,23,24,25,26] (fun K kp hK hkp=>?_) |refine rD (id:=28) mixed 15 [0,1,2,3,4,5,6,7,8,9,10,11,12,13,14] (fun K kp hK hkp=>?_) |refine cD (ED _ _ _ _ _) ?_ |refine cD (C5 _ _ _ _ _) ?_);simp(implicitDefEqProofs:=false) (maxSteps:=2000000) (disch:=omega) only[go_sem,zi,nl,hx,zx,hp,eP,Cd,Ca,Eu,Aj,d1,d2,d3,hwm,hp0,zl0,zw,hk1,hk,d4];(repeat' (refine hK _ ?_;clear hK hkp kp K))) |refine A3 rfl ?_ |refine A4 rfl ?_ |refine A8 ?_));(refine A7 (by(simp(implicitDefEqProofs:=false) (maxSteps:=2000000) (disch:=omega) only[go_sem,results92]);rfl) ?_;refine eN hE ?_;simp[AG,ren,renL])
  have hrow:NN ps L i x:=⟨by rw[hpg,hrv];exact e1,by rw[hpg];exact e2,by rw[hpg,hwD,hpg0];exact e3,by rw[hpg];exact e4⟩
  have hkT:(B0 ps x).length=(AI ps x.1).length:=by rw[B0,List.length_mapIdx]
  have hk5:=KP hall x.1
  have hNx:(L.take (i+1)).flatMap (B0 ps)=N++B0 ps x:=by
   rw[List.take_add_one,hx];simp[←hN]
  refine Hm (fx:=⟨[(12,.p 7 0 0),(11,.r (.int .i64 i)),(10,.s 6 0 (N).length),(9,.s 5 0 (N).length),(8,.s 4 0 (N).length),(7,.r (.int .i64 ((met+L.length:Nat):Int))),(6,.s 3 0 L.length),(5,.s 2 0 L.length),(4,.s 1 0 L.length),(1,.p 0 0 0)],[(0,.box 33 [.ro t 5 (ps.map eP),.r (.int .i64 rt)]),(1,.lst 3 1 ((BW L).map Cd)),(2,.lst 81 1 (L.map Eu)),(3,.lst 81 1 (L.map Ca)),(4,.lst 3 1 ((BW (N)).map Cd)),(5,.lst 81 1 ((N).map Eu)),(6,.lst 81 1 ((N).map Ca)),(7,.box 131 [.r (.bool p.leaf),.ro true 1 (p.keys.map Aj),.ro true 1 (p.kids.map eI),.ro true 1 (p.high.map AC),.r (.int .i64 p.next)])],8⟩) ?_ fun K hcut=>?_;rotate_left
  ·by_cases hk0:p.keys.length=0
   ·have hk1:((p.keys.length:Int)>0)=False:=eq_false (by omega)
    (repeat' (first |refine A0 ?_ |refine A6 ?_ |((first |refine rD (id:=26) mixed 27 [0,1,2,3,4,5,6,7,8,9,10,11,12,13,14,15,16,17,18,19,20,21,22,23,24,25,26] (fun K kp hK hkp=>?_) |refine rD (id:=28) mixed 15 [0,1,2,3,4,5,6,7,8,9,10,11,12,13,14] (fun K kp hK hkp=>?_) |refine cD (ED _ _ _ _ _) ?_);simp(implicitDefEqProofs:=false) (maxSteps:=2000000) (disch:=omega) only[go_sem,zi,nl,hx,zx,hp,eP,Cd,Ca,Eu,Aj,d1,d2,d3,hwm,hp0,zl0,zw,hk1];(repeat' (refine hK _ ?_;clear hK hkp kp K))) |refine A4 rfl ?_));refine hcut _ ?_;(refine AE hE [0,1,2,3,4,5,6,7] rfl ?_ ?_<;>simp[AU,AO,lk,ren,renL,A9,AL]<;>(try omega))
   ·have hk1:((p.keys.length:Int)>0)=True:=eq_true (by omega)
    obtain⟨k,hk⟩: ∃k,p.keys[0]?=some k:=⟨p.keys[0]'(by omega),by simp⟩
    have d4:Op.bytesLess k x.2.1=false:=by
     have e5:B4 k x.2.1=false:=by rw[DC hk] at e4;simpa using e4
     exact e5
    (repeat' (first |refine A0 ?_ |refine A6 ?_ |((first |refine rD (id:=26) mixed 27 [0,1,2,3,4,5,6,7,8,9,10,11,12,13,14,15,16,17,18,19,20,21,22,23,24,25,26] (fun K kp hK hkp=>?_) |refine rD (id:=28) mixed 15 [0,1,2,3,4,5,6,7,8,9,10,11,12,13,14] (fun K kp hK hkp=>?_) |refine cD (ED _ _ _ _ _) ?_ |refine cD (C5 _ _ _ _ _) ?_);simp(implicitDefEqProofs:=false) (maxSteps:=2000000) (disch:=omega) only[go_sem,zi,nl,hx,zx,hp,eP,Cd,Ca,Eu,Aj,d1,d2,d3,hwm,hp0,zl0,zw,hk1,hk,d4];(repeat' (refine hK _ ?_;clear hK hkp kp K))) |refine A4 rfl ?_));refine hcut _ ?_;(refine AE hE [0,1,2,3,4,5,6,7] rfl ?_ ?_<;>simp[AU,AO,lk,ren,renL,A9,AL]<;>(try omega))
  (repeat' (first |refine A0 ?_ |refine A5 ?_ |((refine rR (fun K kp hK hkp=>?_));simp(implicitDefEqProofs:=false) (maxSteps:=2000000) (disch:=omega) only[go_sem,zi,nl,hx,Eu,Aj];(repeat' (refine hK _ ?_;clear hK hkp kp K)))));refine AH (fun k:Nat=>⟨[(15,.r (.int .i64 k)),(14,.ro true 1 ((if k≤p.keys.length then Eg p k x.2.1 else x.2.2).map AC)),(12,.p 7 0 0),(11,.r (.int .i64 i)),(10,.s 6 0 (N++(B0 ps x).take k).length),(9,.s 5 0 (N++(B0 ps x).take k).length),(8,.s 4 0 (N++(B0 ps x).take k).length),(7,.r (.int .i64 ((met+L.length:Nat):Int))),(6,.s 3 0 L.length),(5,.s 2 0 L.length),(4,.s 1 0 L.length),(1,.p 0 0 0)],[(0,.box 33 [.ro t 5 (ps.map eP),.r (.int .i64 rt)]),(1,.lst 3 1 ((BW L).map Cd)),(2,.lst 81 1 (L.map Eu)),(3,.lst 81 1 (L.map Ca)),(4,.lst 3 1 ((BW (N++(B0 ps x).take k)).map Cd)),(5,.lst 81 1 ((N++(B0 ps x).take k).map Eu)),(6,.lst 81 1 ((N++(B0 ps x).take k).map Ca)),(7,.box 131 [.r (.bool p.leaf),.ro true 1 (p.keys.map Aj),.ro true 1 (p.kids.map eI),.ro true 1 (p.high.map AC),.r (.int .i64 p.next)])],8⟩) (fun k=>k≤(AI ps x.1).length) (fun k=>(AI ps x.1).length - k) 0 ?_ ?_ ?_
  ·exact Nat.zero_le _
  ·(refine AE hE [0,1,2,3,4,5,6,7] rfl ?_ ?_<;>simp[AU,AO,lk,ren,renL,A9,AL,Eg]<;>(try omega))
  intro k hk
  have hdn1: ∀(j:Nat) y,j<i+1→L[j]?=some y→NN ps L j y:=fun j y hj hy=>by
   by_cases he:j=i
   ·subst he;rw[hx] at hy;cases hy;exact hrow
   ·exact hdone j y (by omega) hy
  by_cases hl:p.leaf=true
  ·have hk0:AI ps x.1=[]:=Dj (by rw[hpg];exact hl)
   have hall3:N++(B0 ps x).take k=N++B0 ps x:=by rw[List.take_of_length_le (by rw[hkT,hk0];exact Nat.zero_le _)]
   rw[hall3];(repeat' (first |refine A0 ?_ |refine AB ?_ |((first |refine rR (fun K kp hK hkp=>?_) |refine iG ?_);simp(implicitDefEqProofs:=false) (maxSteps:=2000000) (disch:=omega) only[go_sem,hl,eP];(repeat' (refine hK _ ?_;clear hK hkp kp K))) |((refine aG (fun h=>?_) (fun h=>?_))<;>simp only[h]) |refine A4 rfl ?_))
   all_goals ((refine AJ (i+1) ?_ ?_ ?_);rotate_left;(·(try dsimp only);(omega));(·(refine AE hE [0,1,2,3,4,5,6] rfl ?_ ?_<;>simp[AU,AO,lk,ren,renL,A9,AL,hNx]<;>(try omega))))
   all_goals exact⟨by omega,hdn1⟩
  replace hl:p.leaf=false:=by simpa using hl
  have hpk:p.kids=BP (AI ps x.1):=by
   rw[AI,hpg,hl];simp only[Bool.false_eq_true,if_false,BP,List.map_map];refine(List.map_id _).symm.trans (List.map_congr_left fun y hy=>?_);obtain⟨j,hj⟩:=List.mem_iff_getElem?.1 hy;have:=(hpo.kd j (List.getElem?_eq_some_iff.1 hj).1).1;rw[List.getD_eq_getElem?_getD,hj] at this;show y=((y.toNat:Nat):Int);have h0:0≤y:=this;omega
  have hcl:p.kids.length=(AI ps x.1).length:=by rw[hpk,BP,List.length_map]
  have hki:=hpo.ki hl
  by_cases hkl:k<(AI ps x.1).length
  ·have zk:((k:Int)<(p.kids.length:Int))=True:=eq_true (by omega)
   obtain⟨kid,hkid⟩: ∃y,(AI ps x.1)[k]?=some y:=⟨(AI ps x.1)[k],by simp[hkl]⟩
   have hkd:p.kids[k]?=some (kid:Int):=by rw[hpk,BP,List.getElem?_map,hkid];rfl
   have hkle:k≤p.keys.length:=by omega
   have hTk:(B0 ps x)[k]?=some (kid,Eg p k x.2.1,Db p k x.2.2):=by rw[B0,List.getElem?_mapIdx,hkid,hpg];rfl
   have hNk:N++(B0 ps x).take (k+1)=(N++(B0 ps x).take k)++[(kid,Eg p k x.2.1,Db p k x.2.2)]:=by rw[List.take_add_one,hTk];simp
   obtain⟨M,hM⟩: ∃M,N++(B0 ps x).take k=M:=⟨_,rfl⟩
   have hMl:M.length≤5 * 20000+5:=by rw[←hM,List.length_append,List.length_take];omega
   have hMn:(BW M).length=M.length:=by simp[BW]
   rw[hM] at hNk ⊢;rw[if_pos hkle]
   by_cases hkk:k<p.keys.length
   ·have zkk:((k:Int)<(p.keys.length:Int))=True:=eq_true (by omega)
    obtain⟨y,hy⟩: ∃y,p.keys[k]?=some y:=⟨p.keys[k],by simp[hkk]⟩
    have hhi:Db p k x.2.2=y:=by rw[Db,if_pos hkk,List.getD_eq_getElem?_getD,hy];rfl
    have hlo:(if k+1≤p.keys.length then Eg p (k+1) x.2.1 else x.2.2)=y:=by
     rw[if_pos (by omega),Eg,if_neg (by omega),Nat.add_sub_cancel,List.getD_eq_getElem?_getD,hy];rfl
    rw[hhi] at hNk;(repeat' (first |refine A0 ?_ |refine A5 ?_ |refine A6 ?_ |((refine rR (fun K kp hK hkp=>?_));simp(implicitDefEqProofs:=false) (maxSteps:=2000000) (disch:=omega) only[go_sem,zk,hl,eP,hkd,zkk,hy,hx,Ca,Aj,eI,zi,hMn,Value.oneCell'];(repeat' (first |(refine hK _ ?_;clear hK hkp kp K) |(with_reducible refine And.intro ?_ ?_) |omega))) |refine A3 rfl ?_))
    ((refine AJ (k+1) ?_ ?_ ?_);rotate_left;(·(try dsimp only);(omega));(·(refine AE hE [0,1,2,3,9,11,13,7] rfl ?_ ?_<;>simp[AU,AO,lk,ren,renL,A9,AL,hNk,hlo,hl,BW,Cd,Eu,Ca,Aj,List.map_append,List.take_of_length_le]<;>(try omega))))
    omega
   ·have zkk:((k:Int)<(p.keys.length:Int))=False:=eq_false (by omega)
    have hhi:Db p k x.2.2=x.2.2:=by rw[Db,if_neg hkk]
    have hlo:(if k+1≤p.keys.length then Eg p (k+1) x.2.1 else x.2.2)=x.2.2:=by rw[if_neg (by omega)]
    rw[hhi] at hNk;(repeat' (first |refine A0 ?_ |refine A5 ?_ |refine A6 ?_ |((refine rR (fun K kp hK hkp=>?_));simp(implicitDefEqProofs:=false) (maxSteps:=2000000) (disch:=omega) only[go_sem,zk,hl,eP,hkd,zkk,hx,Ca,Aj,eI,zi,hMn,Value.oneCell'];(repeat' (first |(refine hK _ ?_;clear hK hkp kp K) |(with_reducible refine And.intro ?_ ?_) |omega))) |refine A3 rfl ?_ |refine A4 rfl ?_))
    ((refine AJ (k+1) ?_ ?_ ?_);rotate_left;(·(try dsimp only);(omega));(·(refine AE hE [0,1,2,3,9,11,13,7] rfl ?_ ?_<;>simp[AU,AO,lk,ren,renL,A9,AL,hNk,hlo,hl,BW,Cd,Eu,Ca,Aj,List.map_append,List.take_of_length_le]<;>(try omega))))
    omega
  ·have zk:((k:Int)<(p.kids.length:Int))=False:=eq_false (by omega)
   have hall3:N++(B0 ps x).take k=N++B0 ps x:=by rw[List.take_of_length_le (by omega)]
   rw[hall3];(repeat' (first |refine A0 ?_ |refine AB ?_ |((refine rR (fun K kp hK hkp=>?_));simp(implicitDefEqProofs:=false) (maxSteps:=2000000) (disch:=omega) only[go_sem,zk,hl,eP];(repeat' (refine hK _ ?_;clear hK hkp kp K))) |refine A4 rfl ?_))
   all_goals ((refine AJ (i+1) ?_ ?_ ?_);rotate_left;(·(try dsimp only);(omega));(·(refine AE hE [0,1,2,3,4,5,6] rfl ?_ ?_<;>simp[AU,AO,lk,ren,renL,A9,AL,hNx]<;>(try omega))))
   all_goals exact⟨by omega,hdn1⟩
 ·obtain rfl:i=L.length:=by omega
  have hall2:QM ps L:=fun j x hx=>hdone j x (List.getElem?_eq_some_iff.1 hx).1 hx;rw[if_pos hall2] at hBf;rw[List.take_length];have hNl2:=hNl L.length;rw[List.take_length] at hNl2;(repeat' (first |refine A0 ?_ |refine AB ?_ |((refine rR (fun K kp hK hkp=>?_));simp(implicitDefEqProofs:=false) (maxSteps:=2000000) (disch:=omega) only[go_sem];(repeat' (refine hK _ ?_;clear hK hkp kp K))) |((refine AD rfl (fun h=>?_) (fun h=>?_)<;>try simp only[BQ] at h)<;>(try (exfalso;omega)))))
  ((refine Im ((L.flatMap (B0 ps),met+L.length,f)) ?_ ?_ ?_);rotate_left;(·(try dsimp only);(omega));(·(refine AE hE [0,4,5,6] rfl ?_ ?_<;>simp[AU,AO,lk,ren,renL,A9,AL]<;>(try omega))))
  dsimp only;refine⟨fun x hx=>?_,by omega,by omega,by omega,hBf⟩;obtain⟨y,hy,hx⟩:=List.mem_flatMap.1 hx;obtain⟨j,hj⟩:=List.mem_iff_getElem?.1 hx;rw[B0,List.getElem?_mapIdx,Option.map_eq_some_iff] at hj;obtain⟨kid,hkid,rfl⟩:=hj;exact hin y.1 kid (List.mem_of_getElem? hkid)
end Go.AM
namespace Go.AM
open Go Go.RowKit
theorem JR (ps:List PG)(d i:Nat):(pre ps d i).Perm (Gq ps d [i]):=by
 have:=QI ps d [i];simpa using this
theorem NM {ps:List PG}{d i:Nat}{low high:Ky}{r:Int×WS}(W:WalkOK ps d i 0 low high ⟨[],[]⟩ r){m:Nat}{l:List Nat}(h:r.2.rows[m]?=some l):l=CB ps m [i]:=by
 have h1:=W.rows m;rw[List.getD_eq_getElem?_getD,h] at h1;simpa using h1
theorem OB {ps:List PG}{root:Int}{d:Nat}(n1:1≤ps.length)(n2:ps.length≤4000)(r0:0≤root)(r1:root<ps.length)(hp: ∀(i:Nat)(p:PG),ps[i]?=some p→PageOK p ps.length)(T:TreeOK ps root.toNat d):ChkOK ps root:=by
 have hpm:=JR ps d root.toNat;have hd:=H8 (BX hp) d root.toNat [] [] T.good;rw[hpm.length_eq,T.all] at hd;have h0:=LS (BX hp) (ps.length+1) d root.toNat [] [] 0 ⟨[],[]⟩ (Nat.le_refl _) (by omega) T.good (by simpa using hpm.symm.nodup T.once);obtain⟨d',W⟩:=Dl (BX hp) (ps.length+1) root.toNat [] [] 0 ⟨[],[]⟩ (Nat.le_refl _) List.nodup_nil h0;obtain rfl:=Bo (BX hp) d root.toNat _ _ _ _ d' T.good W.good;refine⟨n1,n2,r0,r1,hp,h0,?_,fun l hl=>?_⟩
 ·rw[W.met,List.nil_append,hpm.length_eq,T.all]
 ·obtain⟨m,hm⟩:=List.mem_iff_getElem?.1 hl
  have hlt:=(List.getElem?_eq_some_iff.1 hm).1;rw[W.len] at hlt;rw[NM W hm];exact T.chains m (by simp at hlt;omega)
theorem Ib {ps:List PG}{root:Int}(h:ChkOK ps root): ∃d,TreeOK ps root.toNat d:=by
 obtain⟨d,W⟩:=Dl (BX h.pg) (ps.length+1) root.toNat [] [] 0 ⟨[],[]⟩ (Nat.le_refl _) List.nodup_nil h.wk;have hpm:=JR ps d root.toNat;refine⟨d,W.good,fun j hj=>?_,hpm.nodup (by simpa using W.nodup),?_⟩
 ·have hl:j<(CC ps (ps.length+1) root.toNat [] [] 0 ⟨[],[]⟩).2.rows.length:=by rw[W.len];simp;omega
  have hm:=List.getElem?_eq_getElem hl;have:=h.ch _ (List.mem_of_getElem? hm);rw[NM W hm] at this;exact this
 ·rw[←hpm.length_eq,←h.mt,W.met,List.nil_append]
theorem Nn {ps:List PG}{root:Int}{d:Nat}(n1:1≤ps.length)(n2:ps.length≤4000)(r0:0≤root)(r1:root<ps.length)(hp: ∀(i:Nat)(p:PG),ps[i]?=some p→PageOK p ps.length)(T:TreeOK ps root.toNat d):FltOK ps root:=by
 have hpm:=JR ps d root.toNat;have hd:=H8 (BX hp) d root.toNat [] [] T.good;rw[hpm.length_eq,T.all] at hd;refine⟨n1,n2,r0,r1,hp,?_,?_⟩
 ·refine OH (BX hp) (ps.length+2) d _ 0 (by simp) (by omega) (fun x hx=>?_) T.chains (by show 0+(Gq ps d [root.toNat]).length=_;rw[T.all];omega)
  obtain rfl:=List.mem_singleton.1 hx;exact T.good
 ·exact ML (HP hp) (by omega) (Ls T.good (d+1) (by omega)) T.once T.all
theorem N9 {ps:List PG}{root:Int}(h:FltOK ps root): ∃d,TreeOK ps root.toNat d:=by
 obtain⟨d,g,c,s⟩:=M4 (BX h.pg) (ps.length+2) [(root.toNat,[],[])] 0 (by simp) h.bf
 have hr:root.toNat<ps.length:=by have:=h.r0;have:=h.r1;omega
 exact⟨d,g _ (List.mem_singleton.2 rfl),c,HA (HP h.pg) hr h.on d,by have s':0+(Gq ps d [root.toNat]).length=ps.length:=s;omega⟩
theorem QD (ps:List PG)(root:Int):E9 ps root=Sm ps root:=by
 by_cases h:ChkOK ps root
 ·obtain⟨d,T⟩:=Ib h
  rw[Ms h,Sk (Nn h.n1 h.n2 h.r0 h.r1 h.pg T)]
 ·have h2: ¬FltOK ps root:=fun h'=>by
   obtain⟨d,T⟩:=N9 h';exact h (OB h'.n1 h'.n2 h'.r0 h'.r1 h'.pg T)
  rw[Kt h,Sl h2]
end Go.AM
namespace Go.AM
def Ba (k:Ky):List Ky→Nat
 | []=>0
 |x::r=>if B4 x k=true then Ba k r+1 else 0
theorem HK (k:Ky): ∀l,Ba k l≤l.length
 | []=>Nat.le_refl _
 |x::r=>by
  have:=HK k r
  rw[Ba];split<;>simp<;>omega
theorem HI (k:Ky): ∀(l:List Ky)(m:Nat)(x:Ky),m<Ba k l→l[m]?=some x→B4 x k=true
 | [],m,x,h,hx=>by simp at hx
 |y::r,0,x,h,hx=>by
  rw[Ba] at h;split at h
  ·rename_i hy;cases hx;exact hy
  ·omega
 |y::r,m+1,x,h,hx=>by
  rw[Ba] at h;split at h
  ·exact HI k r m x (by omega) hx
  ·omega
theorem JT (k:Ky): ∀(l:List Ky)(x:Ky),l[Ba k l]?=some x→B4 x k=false
 | [],x,hx=>by simp at hx
 |y::r,x,hx=>by
  rw[Ba] at hx;split at hx
  ·exact JT k r x (by simpa using hx)
  ·rename_i hy;simp at hx;subst hx;simpa using hy
theorem To (k:Ky){l:List Ky}{i:Nat}(hi:i≤l.length)(h1: ∀(m:Nat)(x:Ky),m<i→l[m]?=some x→B4 x k=true)(h2: ∀x,l[i]?=some x→B4 x k=false):i=Ba k l:=by
 have hle:=HK k l
 rcases Nat.lt_trichotomy i (Ba k l) with h |h |h
 ·have hx:=List.getElem?_eq_getElem (l:=l) (i:=i) (by omega)
  have:=HI k l i _ h hx;rw[h2 _ hx] at this;cases this
 ·exact h
 ·have hx:=List.getElem?_eq_getElem (l:=l) (i:=Ba k l) (by omega)
  have:=JT k l _ hx;rw[h1 _ _ h hx] at this;cases this
def LQ (l:List Ky):Prop:= ∀(i j:Nat)(x y:Ky),i<j→l[i]?=some x→l[j]?=some y→B4 x y=true
theorem NG {l:List Ky}(h: ∀(i:Nat)(x y:Ky),l[i]?=some x→l[i+1]?=some y→B4 x y=true):LQ l:=by
 intro i j x y hij hx hy
 induction j generalizing y with
 |zero=>omega
 |succ j ih=>
  have hj:j<l.length:=by have:=(List.getElem?_eq_some_iff.1 hy).1;omega
  have hz:=List.getElem?_eq_getElem hj;have h1:=h j _ y hz hy
  by_cases he:i=j
  ·subst he;rw[hx] at hz;cases hz;exact h1
  ·exact BU (ih _ (by omega) hz) h1
theorem Bl {p:PG}{n:Nat}(h:PageOK p n):LQ p.keys:=NG fun i x y hx hy=>by
 have hl:=(List.getElem?_eq_some_iff.1 hy).1;have:=(h.ks (i+1) hl).2.1 (by omega);rw[Nat.add_sub_cancel,List.getD_eq_getElem?_getD,List.getD_eq_getElem?_getD,hx,hy] at this;exact this
theorem IE {p:PG}{n:Nat}(h:PageOK p n){x:Ky}(hx:x ∈ p.keys)(hh:p.high≠[]):B4 x p.high=true:=by
 obtain⟨i,hi⟩:=List.mem_iff_getElem?.1 hx;have:=(h.ks i (List.getElem?_eq_some_iff.1 hi).1).2.2 (List.length_pos_iff.2 hh)
 rwa [List.getD_eq_getElem?_getD,hi] at this
theorem E1 {p:PG}{n:Nat}(h:PageOK p n){x:Ky}(hx:x ∈ p.keys):x≠[]:=by
 obtain⟨i,hi⟩:=List.mem_iff_getElem?.1 hx;have:=(h.ks i (List.getElem?_eq_some_iff.1 hi).1).1;rw[List.getD_eq_getElem?_getD,hi] at this;rintro rfl;simp[DM] at this
theorem MV (x:Ky):B4 x []=false:=by cases x<;>rfl
def AN (p:PG)(k:Ky):Nat:=if p.leaf=false∧p.keys[Ba k p.keys]?=some k then Ba k p.keys+1 else Ba k p.keys
def Bq (ps:List PG)(k:Ky)(i:Nat):Nat:=((pg ps i).kids.getD (AN (pg ps i) k) 0).toNat
def BH (ps:List PG)(k:Ky):Nat→Nat→Nat
 |0,i=>i
 |d+1,i=>BH ps k d (Bq ps k i)
def Ak (ps:List PG)(k:Ky):Nat→Nat→List Nat
 |0,i=>[i]
 |d+1,i=>i::Ak ps k d (Bq ps k i)
theorem Bc (p:PG)(k:Ky):AN p k≤p.keys.length:=by
 have:=HK k p.keys;unfold AN;split
 ·rename_i h
  have:=(List.getElem?_eq_some_iff.1 h.2).1;omega
 ·exact this
theorem FS {p:PG}{n:Nat}(h:PageOK p n)(hl:p.leaf=false)(k:Ky){m:Nat}{x:Ky}(hm:m<AN p k)(hx:p.keys[m]?=some x):B4 k x=false:=by
 unfold AN at hm;split at hm
 ·rename_i hc
  by_cases he:m=Ba k p.keys
  ·subst he;rw[hx] at hc;cases hc.2;exact Dz _
  ·exact EW (HI k _ m x (by omega) hx)
 ·exact EW (HI k _ m x hm hx)
theorem Dw {p:PG}{n:Nat}(h:PageOK p n)(hl:p.leaf=false)(k:Ky){m:Nat}{x:Ky}(hm:AN p k≤m)(hx:p.keys[m]?=some x):B4 k x=true:=by
 have hs:=Bl h;have hlt:=(List.getElem?_eq_some_iff.1 hx).1;unfold AN at hm;split at hm
 ·rename_i hc
  exact hs _ m k x (by omega) hc.2 hx
 ·rename_i hc
  obtain⟨y,hy⟩: ∃y,p.keys[Ba k p.keys]?=some y:=⟨_,List.getElem?_eq_getElem (by omega)⟩;have h1:=JT k _ _ hy
  have h2:B4 k y=true:=by
   cases h3:B4 k y
   ·exact absurd ⟨hl,by rw[hy,ID h3 h1]⟩ hc
   ·rfl
  by_cases he:m=Ba k p.keys
  ·subst he;rw[hx] at hy;cases hy;exact h2
  ·exact BU h2 (hs _ m _ x (by omega) hy hx)
section
variable {ps:List PG}
abbrev Bt (ps:List PG):Prop:= ∀(i:Nat)(p:PG),ps[i]?=some p→PageOK p ps.length
theorem MP {i:Nat}{p:PG}(h:ps[i]?=some p):pg ps i=p:=by rw[pg,List.getD_eq_getElem?_getD,h];rfl
theorem DR {i:Nat}(hl:i<ps.length):ps[i]?=some (pg ps i):=by rw[pg,List.getD_eq_getElem?_getD,List.getElem?_eq_getElem hl];rfl
theorem HB (hp:Bt ps){i:Nat}(h:i<ps.length):PageOK (pg ps i) ps.length:=hp i _ (DR h)
theorem Cl (hp:Bt ps){i:Nat}(h:(pg ps i).leaf=false):PageOK (pg ps i) ps.length:=by
 cases hi:ps[i]? with
 |none=>
  have:pg ps i=default:=by rw[pg,List.getD_eq_getElem?_getD,hi];rfl
  rw[this] at h;cases h
 |some p=>rw[MP hi];exact hp i p hi
theorem KO (hp:Bt ps){i:Nat}(h:(pg ps i).leaf=false):(AI ps i).length=(pg ps i).keys.length+1:=by
 rw[AI,if_neg (by simp[h]),List.length_map,(Cl hp h).ki h]
theorem KQ (hp:Bt ps){i:Nat}(h:(pg ps i).leaf=false)(k:Ky):(AI ps i)[AN (pg ps i) k]?=some (Bq ps k i):=by
 have h1:=(Cl hp h).ki h;have h2:=Bc (pg ps i) k;rw[AI,if_neg (by simp[h]),List.getElem?_map,List.getElem?_eq_getElem (by omega),Bq,List.getD_eq_getElem?_getD,List.getElem?_eq_getElem (by omega)];rfl
theorem Cn (hp:Bt ps): ∀(d i:Nat)(low high:Ky),CU ps d i low high→ ∀x ∈ CB ps d [i],∀e ∈ (pg ps x).keys,B4 e low=false∧(high=[]∨B4 e high=true)
 |0,i,low,high,h,x,hx,e,he=>by
  simp only[CB,List.mem_singleton] at hx;subst hx
  by_cases hin:x<ps.length
  ·have hk:=HB hp hin
   refine⟨?_,?_⟩
   ·have h1:=h.2.2
    obtain⟨j,hj⟩:=List.mem_iff_getElem?.1 he;have hs:=Bl hk
    cases hks:(pg ps x).keys with
    |nil=>rw[hks] at he;cases he
    |cons y r=>
     rw[B5,hks] at h1
     have h1:B4 y low=false:=by simpa using h1
     by_cases hj0:j=0
     ·subst hj0;rw[hks] at hj;cases hj;exact h1
     ·have h2:=hs 0 j y e (by omega) (by rw[hks];rfl) hj
      cases h3:B4 e low
      ·rfl
      ·rw[BU h2 h3] at h1;cases h1
   ·by_cases hh:high=[]
    ·exact .inl hh
    ·right
     have:=IE hk he (by rw[h.2.1];exact hh)
     rwa [h.2.1] at this
  ·have:pg ps x=default:=by rw[pg,List.getD_eq_getElem?_getD,List.getElem?_eq_none (by omega)];rfl
   rw[this] at he;cases he
 |d+1,i,low,high,h,x,hx,e,he=>by
  obtain⟨h1,h2,h3,h4⟩:=h;have hk:=Cl hp h1;have hs:=Bl hk
  have hx': ∃kid ∈ AI ps i,x ∈ CB ps d [kid]:=by
   rw[D_] at hx;clear h4;generalize AI ps i=l at hx
   induction l with
   |nil=>rw[Da] at hx;cases hx
   |cons y r ih=>
    rw[show y::r=[y]++r from rfl,Bh] at hx
    rcases List.mem_append.1 hx with hx |hx
    ·exact⟨y,by simp,hx⟩
    ·obtain⟨kid,hk,hx⟩:=ih hx
     exact⟨kid,by simp[hk],hx⟩
  obtain⟨kid,hkid,hx⟩:=hx';obtain⟨m,hm⟩:=List.mem_iff_getElem?.1 hkid;have hml:=(List.getElem?_eq_some_iff.1 hm).1;rw[KO hp h1] at hml;obtain⟨b1,b2⟩:=Cn hp d kid _ _ (h4 m kid hm) x hx e he;refine⟨?_,?_⟩
  ·unfold Eg at b1
   split at b1
   ·exact b1
   ·rename_i hm0
    obtain⟨y,hy⟩: ∃y,(pg ps i).keys[m - 1]?=some y:=⟨_,List.getElem?_eq_getElem (by omega)⟩;rw[List.getD_eq_getElem?_getD,hy] at b1;have b1:B4 e y=false:=b1;cases h5:B4 e low
    ·rfl
    ·have h6:B4 y low=false:=by
      obtain⟨z,hz⟩: ∃z,(pg ps i).keys[0]?=some z:=⟨_,List.getElem?_eq_getElem (by omega)⟩
      have h3:B4 z low=false:=by
       rw[B5] at h3
       cases hks:(pg ps i).keys with
       |nil=>rw[hks] at hz;cases hz
       |cons z' r=>rw[hks] at h3 hz;cases hz;simpa using h3
      by_cases hm1:m - 1=0
      ·rw[hm1,hz] at hy;cases hy;exact h3
      ·have h7:=hs 0 (m - 1) z y (by omega) hz hy
       cases h8:B4 y low
       ·rfl
       ·rw[BU h7 h8] at h3;cases h3
     rw[Cm h5 h6] at b1;cases b1
  ·unfold Db at b2
   split at b2
   ·rename_i hm0
    have hy:=List.getElem?_eq_getElem hm0;rw[List.getD_eq_getElem?_getD,hy] at b2;have hne:(pg ps i).keys[m]≠[]:=E1 hk (List.getElem_mem hm0)
    have b2:B4 e (pg ps i).keys[m]=true:=by
     rcases b2 with b2 |b2
     ·exact absurd b2 hne
     ·exact b2
    by_cases hh:high=[]
    ·exact .inl hh
    ·right
     have:=IE hk (List.getElem_mem hm0) (by rw[h2];exact hh);rw[h2] at this;exact BU b2 this
   ·exact b2
theorem Lj (d:Nat){l:List Nat}{j x:Nat}(h:l[j]?=some x):CB ps d l=CB ps d (l.take j)++(CB ps d [x]++CB ps d (l.drop (j+1))):=by
 have hl:=(List.getElem?_eq_some_iff.1 h);rw[←Bh,←Bh]
 congr 1
 obtain⟨hl,rfl⟩:=hl;rw[List.singleton_append,List.getElem_cons_drop,List.take_append_drop]
theorem MT (d:Nat){l:List Nat}{x:Nat}(h:x ∈ CB ps d l): ∃(m kid:Nat),l[m]?=some kid∧x ∈ CB ps d [kid]:=by
 induction l with
 |nil=>rw[Da] at h;cases h
 |cons y r ih=>
  rw[show y::r=[y]++r from rfl,Bh] at h
  rcases List.mem_append.1 h with h |h
  ·exact⟨0,y,rfl,h⟩
  ·obtain⟨m,kid,h1,h2⟩:=ih h
   exact⟨m+1,kid,by simpa using h1,h2⟩
theorem Ex (hp:Bt ps)(k:Ky): ∀(d i:Nat)(low high:Ky),CU ps d i low high→(high=[]∨B4 k high=true)→
  ∃A B,CB ps d [i]=A++BH ps k d i::B∧(∀x ∈ A,∀e ∈ (pg ps x).keys,B4 e k=true)∧(∀x ∈ B,∀e ∈ (pg ps x).keys,B4 k e=true)∧ ∃lo hi,CU ps 0 (BH ps k d i) lo hi∧(hi=[]∨B4 k hi=true)
 |0,i,low,high,h,hk=>⟨[],[],rfl,(fun x hx=>by cases hx),(fun x hx=>by cases hx),low,high,h,hk⟩
 |d+1,i,low,high,h,hk=>by
  obtain⟨h1,h2,h3,h4⟩:=h;have hq:=Cl hp h1;have ha:=KQ hp h1 k;have hb:=h4 _ _ ha
  have hkk:Db (pg ps i) (AN (pg ps i) k) high=[]∨B4 k (Db (pg ps i) (AN (pg ps i) k) high)=true:=by
   unfold Db;split
   ·rename_i hl
    have hy:=List.getElem?_eq_getElem hl
    right
    rw[List.getD_eq_getElem?_getD,hy];exact Dw hq h1 k (Nat.le_refl _) hy
   ·exact hk
  obtain⟨A,B,e,hA,hB,hg⟩:=Ex hp k d (Bq ps k i) _ _ hb hkk;refine⟨CB ps d ((AI ps i).take (AN (pg ps i) k))++A,B++CB ps d ((AI ps i).drop (AN (pg ps i) k+1)),?_,?_,?_,hg⟩
  ·rw[D_,Lj d ha,e,BH];simp
  ·intro x hx y hy
   rcases List.mem_append.1 hx with hx |hx
   ·obtain⟨m,kid,hm,hx⟩:=MT d hx
    have hmlt:m<AN (pg ps i) k:=by
     have:=(List.getElem?_eq_some_iff.1 hm).1;rw[List.length_take] at this;omega
    rw[List.getElem?_take_of_lt hmlt] at hm;have hb:=(Cn hp d kid _ _ (h4 m kid hm) x hx y hy).2;have hpl:=Bc (pg ps i) k;unfold Db at hb;rw[if_pos (by omega)] at hb;have hz:=List.getElem?_eq_getElem (l:=(pg ps i).keys) (i:=m) (by omega);rw[List.getD_eq_getElem?_getD,hz] at hb
    rcases hb with hb |hb
    ·exact absurd hb (E1 hq (List.getElem_mem (by omega)))
    ·exact Cm hb (FS hq h1 k hmlt hz)
   ·exact hA x hx y hy
  ·intro x hx y hy
   rcases List.mem_append.1 hx with hx |hx
   ·exact hB x hx y hy
   ·obtain⟨m,kid,hm,hx⟩:=MT d hx
    rw[List.getElem?_drop] at hm;have hml:=(List.getElem?_eq_some_iff.1 hm).1;rw[KO hp h1] at hml;have hb:=(Cn hp d kid _ _ (h4 _ kid hm) x hx y hy).1;unfold Eg at hb;rw[if_neg (by omega)] at hb;have hz:=List.getElem?_eq_getElem (l:=(pg ps i).keys) (i:=AN (pg ps i) k+1+m - 1) (by omega);rw[List.getD_eq_getElem?_getD,hz] at hb;have h5:=Dw hq h1 k (m:=AN (pg ps i) k+1+m - 1) (by omega) hz;exact Cm h5 hb
end
end Go.AM
namespace Go.AM
open Go Go.RowKit
attribute [local irreducible] AWP Aw
theorem U5 (i j:Nat)(h:i+j≤1048576):IntKind.i64.wrap (NI .u64 (IntKind.u64.wrap ((i:Int)+(j:Int))) 1)=((i+j) / 2:Nat):=by
 have h1:IntKind.u64.wrap ((i:Int)+(j:Int))=((i+j:Nat):Int):=by
  simp[IntKind.wrap,IntKind.bits,IntKind.signed];omega
 rw[h1]
 have h2:NI .u64 ((i+j:Nat):Int) 1=(((i+j) / 2:Nat):Int):=by
  unfold NI;rw[show(2:Int) ^ (min (1:Int).toNat IntKind.u64.bits)=2 from rfl,Int.fdiv_eq_ediv_of_nonneg _ (by omega)];omega
 rw[h2];simp[IntKind.wrap,IntKind.bits,IntKind.signed];omega
set_option maxHeartbeats 4000000 in
theorem Js (G:List (Nat×List Value))(t u:Bool)(l:List Ky)(k:Ky)(hs:LQ l)(hl:l.length≤4):Con prog G 151 [.ro t 1 (l.map Aj),.ro u 1 (k.map AC),.fn 96 []] [] 0 (Is (.tup [.r (.int .i64 (Ba k l)),.r (.bool (decide (l[Ba k l]?=some k)))]) [] 0) No:=by
 refine AA func151 rfl (by kernel_rfl) (of_decide_eq_true (by kernel_rfl)) ?_;intro E hG hE;subst hG;simp only[B9];(repeat' (first |refine A0 ?_ |refine A5 ?_ |((refine rR (fun K kp hK hkp=>?_));simp(implicitDefEqProofs:=false) (maxSteps:=2000000) (disch:=omega) only[go_sem];(repeat' (refine hK _ ?_;clear hK hkp kp K)))));refine AH (fun q:Nat×Nat=>⟨[(10,.r (.int .i64 q.2)),(9,.r (.int .i64 q.1)),(8,.r (.int .i64 l.length)),(0,.ro t 1 (l.map Aj)),(1,.ro u 1 (k.map AC)),(2,.fn 96 [])],[],0⟩)
  (fun q=>q.1≤q.2∧q.2≤l.length∧(∀(m:Nat)(x:Ky),m<q.1→l[m]?=some x→B4 x k=true)∧(∀(m:Nat)(x:Ky),q.2≤m→l[m]?=some x→B4 x k=false)) (fun q=>q.2 - q.1) (0,l.length) ?_ ?_ ?_
 ·exact⟨Nat.zero_le _,Nat.le_refl _,fun m x hm=>by omega,fun m x hm hx=>by have:=(List.getElem?_eq_some_iff.1 hx).1;simp only at hm;omega⟩
 ·(refine AE hE [] rfl ?_ ?_<;>simp[AU,AO,lk,ren,renL,A9,AL]<;>(try omega))
 rintro⟨i,j⟩ ⟨h1,h2,h3,h4⟩;simp only at h1 h2 h3 h4
 by_cases hij:i<j
 ·have zi:((i:Int)<(j:Int))=True:=eq_true (by omega)
  have hh:=U5 i j (by omega);obtain⟨x,hx⟩: ∃x,l[(i+j) / 2]?=some x:=⟨_,List.getElem?_eq_getElem (by omega)⟩;(repeat' (first |refine A0 ?_ |refine A5 ?_ |refine A6 ?_ |((first |refine rR (fun K kp hK hkp=>?_) |refine cR (Ct _ _ _ _ _) ?_);simp(implicitDefEqProofs:=false) (maxSteps:=2000000) (disch:=omega) only[go_sem,zi,hh,hx,Aj,Mp];(repeat' (refine hK _ ?_;clear hK hkp kp K))) |refine A3 rfl ?_ |((refine AD rfl (fun h=>?_) (fun h=>?_)<;>try simp only[BQ] at h)<;>(try (exfalso;omega)))))
  ·((refine Im ((((i+j) / 2+1,j):Nat×Nat)) ?_ ?_ ?_);rotate_left;(·(try dsimp only);(omega));(·(refine AE hE [] rfl ?_ ?_<;>simp[AU,AO,lk,ren,renL,A9,AL]<;>(try omega))))
   refine⟨by omega,by omega,fun m y hm hy=>?_,h4⟩
   by_cases he:m=(i+j) / 2
   ·subst he;rw[hx] at hy;cases hy;exact h
   ·exact BU (hs m _ y x (by simp only at hm;omega) hy hx) h
  ·((refine Im (((i,(i+j) / 2):Nat×Nat)) ?_ ?_ ?_);rotate_left;(·(try dsimp only);(omega));(·(refine AE hE [] rfl ?_ ?_<;>simp[AU,AO,lk,ren,renL,A9,AL]<;>(try omega))))
   refine⟨by simp only;omega,by simp only;omega,h3,fun m y hm hy=>?_⟩
   by_cases he:m=(i+j) / 2
   ·subst he;rw[hx] at hy;cases hy;exact h
   ·have h5:=hs _ m x y (by simp only at hm;omega) hx hy
    cases h6:B4 y k
    ·rfl
    ·rw[BU h5 h6] at h;cases h
 ·obtain rfl:i=j:=by omega
  have zi:((i:Int)<(i:Int))=False:=eq_false (by omega)
  obtain rfl:i=Ba k l:=To k h2 h3 fun x hx=>h4 i x (Nat.le_refl _) hx
  generalize hi:Ba k l=i at *
  by_cases hil:i<l.length
  ·have zl:((i:Int)<(l.length:Int))=True:=eq_true (by omega)
   obtain⟨x,hx⟩: ∃x,l[i]?=some x:=⟨_,List.getElem?_eq_getElem hil⟩
   have he:(Lib.compareBytes x k==0)=decide (x=k):=by
    rw[Bool.eq_iff_iff,beq_iff_eq,RJ,decide_eq_true_eq]
   (repeat' (first |refine A0 ?_ |refine AB ?_ |((first |refine rR (fun K kp hK hkp=>?_) |refine cR (Ct _ _ _ _ _) ?_);simp(implicitDefEqProofs:=false) (maxSteps:=2000000) (disch:=omega) only[go_sem,zi,zl,hx,Aj,he];(repeat' (refine hK _ ?_;clear hK hkp kp K))) |refine A4 rfl ?_ |refine A8 ?_));(refine A7 (by(simp(implicitDefEqProofs:=false) (maxSteps:=2000000) (disch:=omega) only[go_sem,results151,hx]);rfl) ?_;refine eN hE ?_;simp[AG,ren,renL,hx])
  ·have zl:((i:Int)<(l.length:Int))=False:=eq_false (by omega)
   have hx:l[i]?=none:=List.getElem?_eq_none (by omega);(repeat' (first |refine A0 ?_ |refine AB ?_ |((refine rR (fun K kp hK hkp=>?_));simp(implicitDefEqProofs:=false) (maxSteps:=2000000) (disch:=omega) only[go_sem,zi,zl,hx,Aj];(repeat' (refine hK _ ?_;clear hK hkp kp K))) |refine A4 rfl ?_ |refine A8 ?_));(refine A7 (by(simp(implicitDefEqProofs:=false) (maxSteps:=2000000) (disch:=omega) only[go_sem,results151,hx]);rfl) ?_;refine eN hE ?_;simp[AG,ren,renL,hx])
theorem Lc (G:List (Nat×List Value))(t:Bool)(p:PG)(k:Ky)(hs:LQ p.keys)(hl:p.keys.length≤4):Con prog G 105 [.agg (eP p),.ro t 1 (k.map AC)] [] 0 (Is (.r (.int .i64 (AN p k))) [] 0) No:=by
 have sc:=Js G true t p.keys k hs hl;have hb:=HK k p.keys;refine AA func105 rfl (by kernel_rfl) (of_decide_eq_true (by kernel_rfl)) ?_;intro E hG hE;subst hG;simp only[B9];cases hlf:p.leaf
 ·by_cases hx:p.keys[Ba k p.keys]?=some k
  ·have hp:AN p k=Ba k p.keys+1:=if_pos ⟨hlf,hx⟩
   rw[decide_eq_true hx] at sc;(repeat' (first |refine A0 ?_ |((first |refine rR (fun K kp hK hkp=>?_) |refine cR sc ?_);simp(implicitDefEqProofs:=false) (maxSteps:=2000000) (disch:=omega) only[go_sem,eP,hlf];(repeat' (refine hK _ ?_;clear hK hkp kp K))) |refine A3 rfl ?_ |refine A8 ?_));(refine A7 (by(simp(implicitDefEqProofs:=false) (maxSteps:=2000000) (disch:=omega) only[go_sem,results105,hp]);rfl) ?_;refine eN hE ?_;simp[AG,ren,renL,hp])
  ·have hp:AN p k=Ba k p.keys:=if_neg fun h=>hx h.2
   rw[decide_eq_false hx] at sc;(repeat' (first |refine A0 ?_ |refine A6 ?_ |((first |refine rR (fun K kp hK hkp=>?_) |refine cR sc ?_);simp(implicitDefEqProofs:=false) (maxSteps:=2000000) (disch:=omega) only[go_sem,eP,hlf];(repeat' (refine hK _ ?_;clear hK hkp kp K))) |refine A4 rfl ?_ |refine A8 ?_));(refine A7 (by(simp(implicitDefEqProofs:=false) (maxSteps:=2000000) (disch:=omega) only[go_sem,results105,hp]);rfl) ?_;refine eN hE ?_;simp[AG,ren,renL,hp])
 ·have hp:AN p k=Ba k p.keys:=if_neg fun h=>by rw[hlf] at h;cases h.1
  by_cases hx:p.keys[Ba k p.keys]?=some k
  ·rw[decide_eq_true hx] at sc
   (repeat' (first |refine A0 ?_ |refine A6 ?_ |((first |refine rR (fun K kp hK hkp=>?_) |refine cR sc ?_);simp(implicitDefEqProofs:=false) (maxSteps:=2000000) (disch:=omega) only[go_sem,eP,hlf];(repeat' (refine hK _ ?_;clear hK hkp kp K))) |refine A4 rfl ?_ |refine A8 ?_));(refine A7 (by(simp(implicitDefEqProofs:=false) (maxSteps:=2000000) (disch:=omega) only[go_sem,results105,hp]);rfl) ?_;refine eN hE ?_;simp[AG,ren,renL,hp])
  ·rw[decide_eq_false hx] at sc
   (repeat' (first |refine A0 ?_ |refine A6 ?_ |((first |refine rR (fun K kp hK hkp=>?_) |refine cR sc ?_);simp(implicitDefEqProofs:=false) (maxSteps:=2000000) (disch:=omega) only[go_sem,eP,hlf];(repeat' (refine hK _ ?_;clear hK hkp kp K))) |refine A4 rfl ?_ |refine A8 ?_));(refine A7 (by(simp(implicitDefEqProofs:=false) (maxSteps:=2000000) (disch:=omega) only[go_sem,results105,hp]);rfl) ?_;refine eN hE ?_;simp[AG,ren,renL,hp])
theorem Pb (G:List (Nat×List Value))(t:Bool)(p:PG)(k:Ky)(h:p.high=[]∨B4 k p.high=true):Con prog G 150 [.agg (eP p),.ro t 1 (k.map AC)] [] 0 (Is (.r (.bool false)) [] 0) No:=by
 refine AA func150 rfl (by kernel_rfl) (of_decide_eq_true (by kernel_rfl)) ?_;intro E hG hE;subst hG;simp only[B9]
 by_cases h1:p.high=[]
 ·have z1:((p.high.length:Int)>0)=False:=eq_false (by rw[h1];simp)
  (repeat' (first |refine A0 ?_ |((refine rR (fun K kp hK hkp=>?_));simp(implicitDefEqProofs:=false) (maxSteps:=2000000) (disch:=omega) only[go_sem,eP,z1];(repeat' (refine hK _ ?_;clear hK hkp kp K))) |refine A8 ?_));(refine A7 (by(simp(implicitDefEqProofs:=false) (maxSteps:=2000000) (disch:=omega) only[go_sem,results150]);rfl) ?_;refine eN hE ?_;simp[AG,ren,renL])
 ·have z1:((p.high.length:Int)>0)=True:=eq_true (by have:=List.length_pos_iff.2 h1;omega)
  have h2:B4 k p.high=true:=by
   rcases h with h |h
   ·exact absurd h h1
   ·exact h
  (repeat' (first |refine A0 ?_ |((first |refine rR (fun K kp hK hkp=>?_) |refine cR (Ct _ _ _ _ _) ?_);simp(implicitDefEqProofs:=false) (maxSteps:=2000000) (disch:=omega) only[go_sem,eP,z1,Mq,h2];(repeat' (refine hK _ ?_;clear hK hkp kp K))) |refine A8 ?_));(refine A7 (by(simp(implicitDefEqProofs:=false) (maxSteps:=2000000) (disch:=omega) only[go_sem,results150]);rfl) ?_;refine eN hE ?_;simp[AG,ren,renL])
end Go.AM
namespace Go.AM
open Go Go.RowKit
attribute [local irreducible] AWP Aw
theorem Dx (ps:List PG)(k:Ky): ∀(d i:Nat),(Ak ps k d i).length=d+1
 |0,i=>rfl
 |d+1,i=>by rw[Ak,List.length_cons,Dx ps k d]
theorem IA (ps:List PG)(k:Ky): ∀(d i:Nat),(Ak ps k d i)[d]?=some (BH ps k d i)
 |0,i=>rfl
 |d+1,i=>by rw[Ak,List.getElem?_cons_succ,IA ps k d,BH]
section
variable {ps:List PG}
theorem D2 (hp:Bt ps)(k:Ky): ∀(d i:Nat)(low high:Ky),CU ps d i low high→(high=[]∨B4 k high=true)→ ∀(j x:Nat),(Ak ps k d i)[j]?=some x→
  ((pg ps x).high=[]∨B4 k (pg ps x).high=true)∧((pg ps x).leaf=decide (j=d))∧(j<d→(Ak ps k d i)[j+1]?=some (Bq ps k x))∧(x=i∨ ∃y,x ∈ AI ps y)
 |0,i,low,high,h,hk,0,x,hx=>by
  cases hx;exact⟨by rw[h.2.1];exact hk,by rw[h.1];rfl,fun h=>by omega,.inl rfl⟩
 |0,i,low,high,h,hk,j+1,x,hx=>by simp[Ak] at hx
 |d+1,i,low,high,h,hk,0,x,hx=>by
  cases hx;refine⟨by rw[h.2.1];exact hk,by rw[h.1];rfl,fun _=>?_,.inl rfl⟩
  cases d<;>rfl
 |d+1,i,low,high,h,hk,j+1,x,hx=>by
  obtain⟨h1,h2,h3,h4⟩:=h;have hq:=Cl hp h1;have ha:=KQ hp h1 k;have hb:=h4 _ _ ha
  have hkk:Db (pg ps i) (AN (pg ps i) k) high=[]∨B4 k (Db (pg ps i) (AN (pg ps i) k) high)=true:=by
   unfold Db;split
   ·rename_i hl
    have hy:=List.getElem?_eq_getElem hl
    right
    rw[List.getD_eq_getElem?_getD,hy];exact Dw hq h1 k (Nat.le_refl _) hy
   ·exact hk
  rw[Ak,List.getElem?_cons_succ] at hx;obtain⟨a,b,c,e⟩:=D2 hp k d (Bq ps k i) _ _ hb hkk j x hx;refine⟨a,by rw[b];simp,fun hj=>?_,.inr ?_⟩
  ·rw[Ak,List.getElem?_cons_succ];exact c (by omega)
  ·rcases e with e |⟨y,e⟩
   ·exact⟨i,by rw[e];exact List.mem_of_getElem? ha⟩
   ·exact⟨y,e⟩
theorem Ma (hp:Bt ps){x:Nat}(h:(pg ps x).leaf=false)(k:Ky):(pg ps x).kids[AN (pg ps x) k]?=some ((Bq ps k x:Nat):Int):=by
 have hq:=Cl hp h;have h1:=hq.ki h;have h2:=Bc (pg ps x) k;have hg:=List.getElem?_eq_getElem (l:=(pg ps x).kids) (i:=AN (pg ps x) k) (by omega);have h0:=(hq.kd (AN (pg ps x) k) (by omega)).1;rw[Bq];rw[List.getD_eq_getElem?_getD] at h0 ⊢;rw[hg] at h0 ⊢;have h0:0≤(pg ps x).kids[AN (pg ps x) k]:=h0;show _=some ((pg ps x).kids[AN (pg ps x) k].toNat:Int)
 congr 1
 omega
end
set_option maxHeartbeats 4000000 in
theorem SC (G:List (Nat×List Value))(t u:Bool)(ps:List PG)(root d:Nat)(k:Ky)(hp:Bt ps)(hin: ∀i x,x ∈ AI ps i→x<ps.length)(hg:CU ps d root [] [])(hr:root<ps.length)(hn:ps.length≤4000)(hd:d<ps.length):
  Con prog G 103 [.agg [.ro t 5 (ps.map eP),.r (.int .i64 root)],.ro u 1 (k.map AC)] [] 0 (Is (.ro true 1 ((Ak ps k d root).map Cd)) [] 0) No:=by
 have hps:=D2 hp k d root [] [] hg (.inl rfl);have hpl:=Dx ps k d root;refine AA func103 rfl (by kernel_rfl) (of_decide_eq_true (by kernel_rfl)) ?_;intro E hG hE;subst hG;simp only[B9];(repeat' (first |refine A0 ?_ |refine A5 ?_ |((refine rR (fun K kp hK hkp=>?_));simp(implicitDefEqProofs:=false) (maxSteps:=2000000) (disch:=omega) only[go_sem];(repeat' (refine hK _ ?_;clear hK hkp kp K)))));refine AH (fun j:Nat=>⟨[(5,.s 1 0 (j+1)),(2,.p 0 0 0),(1,.ro u 1 (k.map AC))],[(0,.box 33 [.ro t 5 (ps.map eP),.r (.int .i64 root)]),(1,.lst 3 1 (((Ak ps k d root).take (j+1)).map Cd))],2⟩) (fun j=>j≤d) (fun j=>d - j) 0 ?_ ?_ ?_
 ·exact Nat.zero_le _
 ·have h0:(Ak ps k d root).take (0+1)=[root]:=by cases d<;>simp[Ak]
  (refine AE hE [0,1] rfl ?_ ?_<;>simp[AU,AO,lk,ren,renL,A9,AL,h0,Cd]<;>(try omega))
 intro j hj;obtain⟨x,hx⟩: ∃x,(Ak ps k d root)[j]?=some x:=⟨_,List.getElem?_eq_getElem (by omega)⟩;obtain⟨b1,b2,b3,b4⟩:=hps j x hx
 have hxl:x<ps.length:=by
  rcases b4 with rfl |⟨y,hy⟩
  ·exact hr
  ·exact hin y x hy
 have hpx:=DR hxl;have kv:=fun h=>Ma hp (x:=x) h k;have hok:=hp x _ hpx;generalize hP:pg ps x=p at hpx b1 b2 kv hok
 have htj:((Ak ps k d root).take (j+1))[j]?=some x:=by rw[List.getElem?_take_of_lt (by omega),hx]
 have hl:((Ak ps k d root).take (j+1)).length=j+1:=by rw[List.length_take];omega
 have e1:((j+1:Nat):Int) - 1=(j:Int):=by omega
 have zj:((j:Int)<((j+1:Nat):Int))=True:=eq_true (by omega);have bc:=Pb E.G u p k b1;have pc:=Lc E.G u p k (Bl hok) hok.nk
 by_cases hjd:j=d
 ·subst hjd
  have b2:p.leaf=true:=by rw[b2];simp
  simp only[eP,b2] at bc pc;(repeat' (first |refine A0 ?_ |refine A5 ?_ |refine A6 ?_ |((first |refine rR (fun K kp hK hkp=>?_) |refine cR bc ?_);simp(implicitDefEqProofs:=false) (maxSteps:=2000000) (disch:=omega) only[go_sem,e1,zj,htj,hl,hpx,b2,eP,Cd];(repeat' (refine hK _ ?_;clear hK hkp kp K))) |refine A3 rfl ?_ |refine A4 rfl ?_ |refine A8 ?_));have htk:(Ak ps k j root).take (j+1)=Ak ps k j root:=List.take_of_length_le (by omega);rw[htk];(refine A7 (by(simp(implicitDefEqProofs:=false) (maxSteps:=2000000) (disch:=omega) only[go_sem,results103,hpl]);rfl) ?_;refine Ar (by simp only[AG];simp(implicitDefEqProofs:=false) (maxSteps:=2000000) (disch:=omega) only[go_sem,hpl];rfl) ?_;refine(Al hE (by simp) ?_).s;simp[AG,ren,renL,hpl]);exact List.take_of_length_le (by simp[hpl])
 ·have b2:p.leaf=false:=by rw[b2];simp[hjd]
  have b3:=b3 (by omega);have kv:=kv b2;simp only[eP,b2] at bc pc
  have htk:(Ak ps k d root).take (j+1+1)=(Ak ps k d root).take (j+1)++[Bq ps k x]:=by rw[List.take_add_one (i:=j+1),b3];rfl
  (repeat' (first |refine A0 ?_ |refine A5 ?_ |refine A6 ?_ |((first |refine rR (fun K kp hK hkp=>?_) |refine rD (id:=8) mixed 9 [0,1,2,3,4,5,6,7,8] (fun K kp hK hkp=>?_) |refine cR bc ?_ |refine cD pc ?_);simp(implicitDefEqProofs:=false) (maxSteps:=2000000) (disch:=omega) only[go_sem,e1,zj,htj,hl,hpx,b2,kv,eP,eI,Cd];(repeat' (first |(refine hK _ ?_;clear hK hkp kp K) |(with_reducible refine And.intro ?_ ?_) |omega))) |refine A4 rfl ?_))
  ((refine Im (j+1) ?_ ?_ ?_);rotate_left;(·(try dsimp only);(omega));(·(refine AE hE [0,4] rfl ?_ ?_<;>simp[AU,AO,lk,ren,renL,A9,AL,htk,Cd,List.take_take,Nat.min_self]<;>(try omega))))
  omega
def Bu (p:PG)(k:Ky):Bool:=decide (p.keys[AN p k]?=some k)
set_option maxHeartbeats 4000000 in
theorem Fz (G:List (Nat×List Value))(t u:Bool)(ps:List PG)(root d:Nat)(k:Ky)(hp:Bt ps)(hin: ∀i x,x ∈ AI ps i→x<ps.length)(hg:CU ps d root [] [])(hr:root<ps.length)(hn:ps.length≤4000)(hd:d<ps.length):
  Con prog G 101 [.agg [.ro t 5 (ps.map eP),.r (.int .i64 root)],.ro u 1 (k.map AC)] [] 0 (Is (.tup [.r (.int .i64 (BH ps k d root)),.r (.int .i64 (AN (pg ps (BH ps k d root)) k)),.r (.bool (Bu (pg ps (BH ps k d root)) k))]) [] 0) No:=by
 have hpl:=Dx ps k d root;have hlast:=IA ps k d root;obtain⟨_,_,_,b4⟩:=D2 hp k d root [] [] hg (.inl rfl) d _ hlast
 have hxl:BH ps k d root<ps.length:=by
  rcases b4 with h |⟨y,hy⟩
  ·rw[h];exact hr
  ·exact hin y _ hy
 have pc:=SC G t u ps root d k hp hin hg hr hn hd;have hpx:=DR hxl;have hok:=hp _ _ hpx;generalize BH ps k d root=x at *;generalize hP:pg ps x=p at hpx hok;have lc:=Lc G u p k (Bl hok) hok.nk
 have e1:((d+1:Nat):Int) - 1=(d:Int):=by omega
 have zd:((d:Int)<((d+1:Nat):Int))=True:=eq_true (by omega);have hple:=Bc p k;have h4:=hok.nk;simp only[eP] at lc;refine AA func101 rfl (by kernel_rfl) (of_decide_eq_true (by kernel_rfl)) ?_;intro E hG hE;subst hG;simp only[B9]
 by_cases hat:AN p k<p.keys.length
 ·have zi:((AN p k:Int)<(p.keys.length:Int))=True:=eq_true (by omega)
  obtain⟨y,hy⟩: ∃y,p.keys[AN p k]?=some y:=⟨_,List.getElem?_eq_getElem hat⟩
  have ht:Bu p k=(y==k):=by rw[Bu,hy,Bool.eq_iff_iff,decide_eq_true_eq,beq_iff_eq];exact⟨fun h=>Option.some.inj h,fun h=>by rw[h]⟩
  (repeat' (first |refine A0 ?_ |((first |refine rR (fun K kp hK hkp=>?_) |refine cR pc ?_ |refine cR lc ?_ |refine cR (Hl _ _ _ _ _) ?_);simp(implicitDefEqProofs:=false) (maxSteps:=2000000) (disch:=omega) only[go_sem,e1,zd,zi,hlast,hpl,hpx,hy,eP,Aj,Cd];(repeat' (refine hK _ ?_;clear hK hkp kp K))) |refine A8 ?_));(refine A7 (by(simp(implicitDefEqProofs:=false) (maxSteps:=2000000) (disch:=omega) only[go_sem,results101,hP,ht]);rfl) ?_;refine eN hE ?_;simp[AG,ren,renL,hP,ht])
 ·have zi:((AN p k:Int)<(p.keys.length:Int))=False:=eq_false (by omega)
  have ht:Bu p k=false:=by rw[Bu,List.getElem?_eq_none (by omega)];rfl
  (repeat' (first |refine A0 ?_ |((first |refine rR (fun K kp hK hkp=>?_) |refine cR pc ?_ |refine cR lc ?_);simp(implicitDefEqProofs:=false) (maxSteps:=2000000) (disch:=omega) only[go_sem,e1,zd,zi,hlast,hpl,hpx,eP,Aj,Cd];(repeat' (refine hK _ ?_;clear hK hkp kp K))) |refine A8 ?_));(refine A7 (by(simp(implicitDefEqProofs:=false) (maxSteps:=2000000) (disch:=omega) only[go_sem,results101,hP,ht]);rfl) ?_;refine eN hE ?_;simp[AG,ren,renL,hP,ht])
end Go.AM
namespace Go.AM
abbrev Et:=Ky×Int
def CS (ps:List PG)(x:Nat):List Et:=(pg ps x).keys.zip (pg ps x).kids
def BC (ps:List PG)(d i:Nat):List Et:=(CB ps d [i]).flatMap (CS ps)
theorem G1 {ps:List PG}{x:Nat}{e:Et}(h:e ∈ CS ps x):e.1 ∈ (pg ps x).keys:=(List.of_mem_zip h).1
theorem UH {ps:List PG}(hp:Bt ps)(x:Nat):(CS ps x).length≤4:=by
 rw[CS,List.length_zip]
 by_cases h:x<ps.length
 ·have:=(HB hp h).nk;omega
 ·have:pg ps x=default:=by rw[pg,List.getD_eq_getElem?_getD,List.getElem?_eq_none (by omega)];rfl
  rw[this];exact Nat.zero_le _
theorem Dk {ps:List PG}(hp:Bt ps): ∀(l:List Nat),(l.flatMap (CS ps)).length≤4 * l.length
 | []=>Nat.le_refl _
 |x::r=>by
  have:=Dk hp r;have:=UH hp x;rw[List.flatMap_cons,List.length_append,List.length_cons];omega
theorem Nq (k:Ky): ∀(ks:List Ky)(is:List Int),ks.length=is.length→LQ ks→(ks.zip is).find? (fun e=>e.1==k)=if ks[Ba k ks]?=some k then some (k,is.getD (Ba k ks) 0) else none
 | [],is,_,_=>by simp
 |x::r,[],h,_=>by simp at h
 |x::r,n::s,h,hs=>by
  have hs':LQ r:=fun i j a b hij ha hb=>hs (i+1) (j+1) a b (by omega) (by simpa using ha) (by simpa using hb);rw[List.zip_cons_cons,List.find?_cons]
  by_cases hx:B4 x k=true
  ·have hne:(x==k)=false:=by
    rw[beq_eq_false_iff_ne];rintro rfl;rw[Dz] at hx;cases hx
   have hl:Ba k (x::r)=Ba k r+1:=by rw[Ba,if_pos hx]
   rw[hl];simp only[hne,List.getElem?_cons_succ,List.getD_cons_succ];exact Nq k r s (by simpa using h) hs'
  ·have hl:Ba k (x::r)=0:=by rw[Ba,if_neg hx]
   rw[hl];simp only[List.getElem?_cons_zero,List.getD_cons_zero]
   by_cases he:x=k
   ·subst he;simp
   ·have hne:(x==k)=false:=by rw[beq_eq_false_iff_ne];exact he
    rw[if_neg (by simpa using he)];simp only[hne];refine List.find?_eq_none.2 fun e he'=>?_;have h1:=(List.of_mem_zip he').1;obtain⟨j,hj⟩:=List.mem_iff_getElem?.1 h1;have h2:=hs 0 (j+1) x e.1 (by omega) rfl (by simpa using hj);simp only[beq_iff_eq];rintro rfl;exact hx h2
theorem Fd {ps:List PG}{k:Ky}{l:List Nat}(h: ∀x ∈ l,∀e ∈ (pg ps x).keys,e≠k):(l.flatMap (CS ps)).find? (fun e=>e.1==k)=none:=by
 refine List.find?_eq_none.2 fun e he=>?_;obtain⟨x,hx,he⟩:=List.mem_flatMap.1 he;simpa using h x hx e.1 (G1 he)
def DN (l:List Et)(k:Ky):Int×Int:=match l.find? (fun e=>e.1==k) with
 |some e=>(e.2,0)
 |none=>(0,8)
def GJ (p:PG)(k:Ky):Int×Int:=if p.keys[AN p k]?=some k then (p.kids.getD (AN p k) 0,0) else (0,8)
theorem SO {a b:Ky}(h:B4 a b=true):a≠b:=by rintro rfl;rw[Dz] at h;cases h
theorem Gg {ps:List PG}(hp:Bt ps){d root:Nat}(hg:CU ps d root [] [])(k:Ky)(hl:BH ps k d root<ps.length):DN (BC ps d root) k=GJ (pg ps (BH ps k d root)) k:=by
 obtain⟨A,B,e,hA,hB,lo,hi,hgl,_⟩:=Ex hp k d root [] [] hg (.inl rfl);have hlf:=hgl.1;have hok:=HB hp hl;generalize BH ps k d root=x at *;have hkl:=hok.kl hlf
 have hpl:AN (pg ps x) k=Ba k (pg ps x).keys:=if_neg fun h=>by rw[hlf] at h;cases h.1
 rw[DN,BC,e,List.flatMap_append,List.flatMap_cons,List.find?_append,List.find?_append,Fd (fun x hx e he=>SO (hA x hx e he)),Fd (fun x hx e he=>(SO (hB x hx e he)).symm),CS,Nq k _ _ hkl.symm (Bl hok),GJ,hpl]
 by_cases h:(pg ps x).keys[Ba k (pg ps x).keys]?=some k
 ·rw[if_pos h,if_pos h];rfl
 ·rw[if_neg h,if_neg h];rfl
end Go.AM
namespace Go.AM
open Go Go.RowKit
attribute [local irreducible] AWP Aw
set_option maxHeartbeats 4000000 in
theorem Q_ (G:List (Nat×List Value))(t t':Bool)(l:List Int)(hl:l.length≤1048576):Con prog G 15 [.ro t 1 (l.map eI),.ro t' 1 (l.map eI)] [] 0 (Is (.r (.bool true)) [] 0) No:=by
 refine AA func15 rfl (by kernel_rfl) (of_decide_eq_true (by kernel_rfl)) ?_;intro E hG hE;subst hG;simp only[B9];(repeat' (first |refine A0 ?_ |refine A5 ?_ |refine A6 ?_ |((refine rR (fun K kp hK hkp=>?_));simp(implicitDefEqProofs:=false) (maxSteps:=2000000) (disch:=omega) only[go_sem,bne_self_eq_false];(repeat' (refine hK _ ?_;clear hK hkp kp K))) |refine A4 rfl ?_));refine AH (fun k:Nat=>⟨[(5,.r (.int .i64 k)),(0,.ro t 1 (l.map eI)),(1,.ro t' 1 (l.map eI))],[],0⟩) (fun k=>k≤l.length) (fun k=>l.length - k) 0 ?_ ?_ ?_
 ·simp
 ·(refine AE hE [] rfl ?_ ?_<;>simp[AU,AO,lk,ren,renL,A9,AL]<;>(try omega))
 intro k hk
 by_cases hlt:k<l.length
 ·obtain⟨x,hx⟩: ∃x,l[k]?=some x:=⟨l[k],by simp[hlt]⟩
  have d1:decide ((k:Int)<(l.length:Int))=true:=decide_eq_true (by omega);(repeat' (first |refine A0 ?_ |refine A5 ?_ |refine A6 ?_ |((first |refine rR (fun K kp hK hkp=>?_) |refine rD (id:=6) mixed 9 [0,1,2,3,4,5,6,7,8] (fun K kp hK hkp=>?_));simp(implicitDefEqProofs:=false) (maxSteps:=2000000) (disch:=omega) only[go_sem,hx,eI,d1,bne_self_eq_false];(repeat' (refine hK _ ?_;clear hK hkp kp K))) |refine A3 rfl ?_ |refine A4 rfl ?_))
  ((refine AJ (k+1) ?_ ?_ ?_);rotate_left;(·(try dsimp only);(omega));(·(refine AE hE [] rfl ?_ ?_<;>simp[AU,AO,lk,ren,renL,A9,AL]<;>(try omega))))
  omega
 ·have d1:decide ((k:Int)<(l.length:Int))=false:=decide_eq_false (by omega)
  (repeat' (first |refine A0 ?_ |refine AB ?_ |((refine rR (fun K kp hK hkp=>?_));simp(implicitDefEqProofs:=false) (maxSteps:=2000000) (disch:=omega) only[go_sem,d1];(repeat' (refine hK _ ?_;clear hK hkp kp K))) |refine A4 rfl ?_ |refine A8 ?_));(refine A7 (by(simp(implicitDefEqProofs:=false) (maxSteps:=2000000) (disch:=omega) only[go_sem,results15]);rfl) ?_;refine eN hE ?_;simp[AG,ren,renL])
end Go.AM
namespace Go.AM
open Go Go.RowKit
attribute [local irreducible] AWP Aw
def BG (ps:List PG):Prop:=ps.length≤1048576∧ ∀p ∈ ps,p.keys.length≤1048576∧p.kids.length≤1048576∧p.high.length≤1048576∧ ∀k ∈ p.keys,k.length≤1048576
set_option maxHeartbeats 4000000 in
theorem MG (G:List (Nat×List Value))(t t':Bool)(ps:List PG)(root:Int)(ho:BG ps):Con prog G 54 [.agg [.ro t 5 (ps.map eP),.r (.int .i64 root)],.agg [.ro t' 5 (ps.map eP),.r (.int .i64 root)]] [] 0 (Is (.r (.bool true)) [] 0) No:=by
 have hn:=ho.1;refine AA func54 rfl (by kernel_rfl) (of_decide_eq_true (by kernel_rfl)) ?_;intro E hG hE;subst hG;simp only[B9];(repeat' (first |refine A0 ?_ |refine A5 ?_ |refine A6 ?_ |((refine rR (fun K kp hK hkp=>?_));simp(implicitDefEqProofs:=false) (maxSteps:=2000000) (disch:=omega) only[go_sem,eP,bne_self_eq_false];(repeat' (refine hK _ ?_;clear hK hkp kp K))) |refine A4 rfl ?_));refine AH (fun i:Nat=>⟨[(5,.r (.int .i64 i)),(3,.p 1 0 0),(2,.p 0 0 0)],[(0,.box 33 [.ro t 5 (ps.map eP),.r (.int .i64 root)]),(1,.box 33 [.ro t' 5 (ps.map eP),.r (.int .i64 root)])],2⟩) (fun i=>i≤ps.length) (fun i=>ps.length - i) 0 ?_ ?_ ?_
 ·exact Nat.zero_le _
 ·(refine AE hE [0,1] rfl ?_ ?_<;>simp[AU,AO,lk,ren,renL,A9,AL]<;>(try omega))
 intro i hi
 by_cases hlt:i<ps.length
 ·have zi:((i:Int)<(ps.length:Int))=True:=eq_true (by omega)
  obtain⟨p,hp⟩: ∃p,ps[i]?=some p:=⟨ps[i],by simp[hlt]⟩;obtain⟨h1,h2,h3,h4⟩:=ho.2 p (List.mem_of_getElem? hp);have sc:=Q_ E.G true true p.kids h2;(repeat' (first |refine A0 ?_ |refine A5 ?_ |refine A6 ?_ |((first |refine rR (fun K kp hK hkp=>?_) |refine cR sc ?_);simp(implicitDefEqProofs:=false) (maxSteps:=2000000) (disch:=omega) only[go_sem,zi,hp,eP,bne_self_eq_false,Gz,beq_self_eq_true];(repeat' (refine hK _ ?_;clear hK hkp kp K))) |refine A3 rfl ?_ |refine A4 rfl ?_));refine AH (fun k:Nat=>⟨[(8,.r (.int .i64 k)),(7,.p 3 0 0),(6,.p 2 0 0),(5,.r (.int .i64 i)),(3,.p 1 0 0),(2,.p 0 0 0)],[(0,.box 33 [.ro t 5 (ps.map eP),.r (.int .i64 root)]),(1,.box 33 [.ro t' 5 (ps.map eP),.r (.int .i64 root)]),(2,.box 131 (eP p)),(3,.box 131 (eP p))],4⟩) (fun k=>k≤p.keys.length) (fun k=>p.keys.length - k) 0 ?_ ?_ ?_
  ·exact Nat.zero_le _
  ·(refine AE hE [0,1,2,3] rfl ?_ ?_<;>simp[AU,AO,lk,ren,renL,A9,AL,eP]<;>(try omega))
  intro k hk
  by_cases hkl:k<p.keys.length
  ·have zk:((k:Int)<(p.keys.length:Int))=True:=eq_true (by omega)
   obtain⟨x,hx⟩: ∃x,p.keys[k]?=some x:=⟨p.keys[k],by simp[hkl]⟩;(repeat' (first |refine A0 ?_ |refine A5 ?_ |refine A6 ?_ |((first |refine rR (fun K kp hK hkp=>?_) |refine rD (id:=13) mixed 13 [0,1,2,3,4,5,6,7,8,9,10,11,12] (fun K kp hK hkp=>?_));simp(implicitDefEqProofs:=false) (maxSteps:=2000000) (disch:=omega) only[go_sem,zk,hx,eP,Aj,bne_self_eq_false,Gz,beq_self_eq_true];(repeat' (refine hK _ ?_;clear hK hkp kp K))) |refine A3 rfl ?_ |refine A4 rfl ?_))
   ((refine AJ (k+1) ?_ ?_ ?_);rotate_left;(·(try dsimp only);(omega));(·(refine AE hE [0,1,2,3] rfl ?_ ?_<;>simp[AU,AO,lk,ren,renL,A9,AL,eP]<;>(try omega))))
   omega
  ·obtain rfl:k=p.keys.length:=by omega
   (repeat' (first |refine A0 ?_ |refine AB ?_ |((refine rR (fun K kp hK hkp=>?_));simp(implicitDefEqProofs:=false) (maxSteps:=2000000) (disch:=omega) only[go_sem,eP];(repeat' (refine hK _ ?_;clear hK hkp kp K))) |((refine AD rfl (fun h=>?_) (fun h=>?_)<;>try simp only[BQ] at h)<;>(try (exfalso;omega)))))
   ((refine AJ (i+1) ?_ ?_ ?_);rotate_left;(·(try dsimp only);(omega));(·(refine AE hE [0,1] rfl ?_ ?_<;>simp[AU,AO,lk,ren,renL,A9,AL]<;>(try omega))))
   omega
 ·obtain rfl:i=ps.length:=by omega
  (repeat' (first |refine A0 ?_ |refine AB ?_ |((refine rR (fun K kp hK hkp=>?_));simp(implicitDefEqProofs:=false) (maxSteps:=2000000) (disch:=omega) only[go_sem];(repeat' (refine hK _ ?_;clear hK hkp kp K))) |((refine AD rfl (fun h=>?_) (fun h=>?_)<;>try simp only[BQ] at h)<;>(try (exfalso;omega))) |refine A8 ?_));(refine A7 (by(simp(implicitDefEqProofs:=false) (maxSteps:=2000000) (disch:=omega) only[go_sem,results54]);rfl) ?_;refine eN hE ?_;simp[AG,ren,renL])
end Go.AM
namespace Go.AM
open Go Go.RowKit
attribute [local irreducible] AWP Aw
set_option maxHeartbeats 4000000 in
theorem DV (G:List (Nat×List Value))(t:Bool)(ps:List PG)(root:Int)(ho:BG ps):Con prog G 37 [.agg [.ro t 5 (ps.map eP),.r (.int .i64 root)]] [] 0 (Is (.agg [.ro true 5 (ps.map eP),.r (.int .i64 root)]) [] 0) No:=by
 have hn:=ho.1;refine AA func37 rfl (by kernel_rfl) (of_decide_eq_true (by kernel_rfl)) ?_;intro E hG hE;subst hG;simp only[B9];(repeat' (first |refine A0 ?_ |refine A5 ?_ |((refine rR (fun K kp hK hkp=>?_));simp(implicitDefEqProofs:=false) (maxSteps:=2000000) (disch:=omega) only[go_sem,eP];(repeat' (refine hK _ ?_;clear hK hkp kp K)))));(refine AWP.emb (BD 2 0 131 5 rfl rfl (by simp)) ?_;simp only[List.set_cons_zero,List.set_cons_succ,lk,↓reduceIte,Nat.reduceAdd]);refine AH (fun i:Nat=>⟨[(4,.r (.int .i64 i)),(3,.p 2 0 0),(2,.p 1 0 0),(1,.p 0 0 0)],[(0,.box 33 [.ro t 5 (ps.map eP),.r (.int .i64 root)]),(1,.box 33 [.r (.slice none 0 0),.r (.int .i64 0)]),(2,.box 33 [.s 3 0 i,.r (.int .i64 root)]),(3,.lst 131 5 ((ps.take i).map eP))],4⟩) (fun i=>i≤ps.length) (fun i=>ps.length - i) 0 ?_ ?_ ?_
 ·exact Nat.zero_le _
 ·(refine AE hE [0,1,2,3] rfl ?_ ?_<;>simp[AU,AO,lk,ren,renL,A9,AL,AK]<;>(try omega))
 intro i hi
 by_cases hlt:i<ps.length
 ·have zi:((i:Int)<(ps.length:Int))=True:=eq_true (by omega)
  obtain⟨p,hp⟩: ∃p,ps[i]?=some p:=⟨ps[i],by simp[hlt]⟩;obtain⟨h1,h2,h3,h4⟩:=ho.2 p (List.mem_of_getElem? hp);have bc:=BT E.G true p.high h3;(repeat' (first |refine A0 ?_ |refine A5 ?_ |refine A6 ?_ |((first |refine rR (fun K kp hK hkp=>?_) |refine rU (id:=6) mixed 9 [⟨0,0,[],[(0,1)]⟩,⟨0,0,[0],[(0,1)]⟩,⟨0,0,[],[(0,1)]⟩,⟨0,0,[2],[(0,1)]⟩,⟨0,0,[2,3],[(0,1)]⟩,⟨0,0,[],[(0,1)]⟩,⟨0,0,[5],[(0,1)]⟩,⟨0,0,[0,1,2,3,4,5,6],[(0,1)]⟩,⟨0,1,[],[]⟩] 1 [25,26,27,28,29,30,31,32,6] [] (fun K kp hK hkp=>?_) |refine cU bc ?_);simp(implicitDefEqProofs:=false) (maxSteps:=2000000) (disch:=omega) only[go_sem,zi,hp,eP];(repeat' (refine hK _ ?_;clear hK hkp kp K))) |refine A3 rfl ?_));(refine AWP.emb (BD 5 1 81 1 rfl rfl (by simp)) ?_;simp only[List.set_cons_zero,List.set_cons_succ,lk,↓reduceIte,Nat.reduceAdd]);(refine AWP.emb (BD 5 2 3 1 rfl rfl (by simp)) ?_;simp only[List.set_cons_zero,List.set_cons_succ,lk,↓reduceIte,Nat.reduceAdd]);refine AH (fun k:Nat=>⟨[(7,.r (.int .i64 k)),(6,.p 5 0 0),(5,.p 4 0 0),(4,.r (.int .i64 i)),(3,.p 2 0 0),(2,.p 1 0 0),(1,.p 0 0 0)],[(0,.box 33 [.ro t 5 (ps.map eP),.r (.int .i64 root)]),(1,.box 33 [.r (.slice none 0 0),.r (.int .i64 0)]),(2,.box 33 [.s 3 0 i,.r (.int .i64 root)]),(3,.lst 131 5 ((ps.take i).map eP)),(4,.box 131 (eP p)),(5,.box 131 [.r (.bool p.leaf),.s 6 0 (k),.s 7 0 (0),.ro true 1 (p.high.map AC),.r (.int .i64 p.next)]),(6,.lst 81 1 ((p.keys.take k).map Aj)),(7,.lst 3 1 [])],8⟩) (fun k=>k≤p.keys.length) (fun k=>p.keys.length - k) 0 ?_ ?_ ?_
  ·exact Nat.zero_le _
  ·(refine AE hE [0,1,2,3,4,5,6,7] rfl ?_ ?_<;>simp[AU,AO,lk,ren,renL,A9,AL,eP]<;>(try omega))
  intro k hk
  by_cases hkl:k<p.keys.length
  ·have zk:((k:Int)<(p.keys.length:Int))=True:=eq_true (by omega)
   obtain⟨x,hx⟩: ∃x,p.keys[k]?=some x:=⟨p.keys[k],by simp[hkl]⟩;have xc:=BT E.G true x (h4 x (List.mem_of_getElem? hx))
   have htk:p.keys.take (k+1)=p.keys.take k++[x]:=by rw[List.take_add_one,hx];rfl
   have hl:(p.keys.take k).length=k:=by rw[List.length_take];omega
   (repeat' (first |refine A0 ?_ |refine A5 ?_ |refine A6 ?_ |((first |refine rR (fun K kp hK hkp=>?_) |refine cR xc ?_);simp(implicitDefEqProofs:=false) (maxSteps:=2000000) (disch:=omega) only[go_sem,zk,hx,eP,Aj,hl,Value.oneCell'];(repeat' (first |(refine hK _ ?_;clear hK hkp kp K) |(with_reducible refine And.intro ?_ ?_) |omega))) |refine A3 rfl ?_))
   ((refine AJ (k+1) ?_ ?_ ?_);rotate_left;(·(try dsimp only);(omega));(·(refine AE hE [0,1,2,3,4,5,9,7] rfl ?_ ?_<;>simp[AU,AO,lk,ren,renL,A9,AL,htk,Aj,eP,List.take_take,Nat.min_self]<;>(try omega))))
   omega
  ·obtain rfl:k=p.keys.length:=by omega
   rw[List.take_length];(repeat' (first |refine A0 ?_ |refine A5 ?_ |refine AB ?_ |((refine rR (fun K kp hK hkp=>?_));simp(implicitDefEqProofs:=false) (maxSteps:=2000000) (disch:=omega) only[go_sem,eP];(repeat' (refine hK _ ?_;clear hK hkp kp K))) |((refine AD rfl (fun h=>?_) (fun h=>?_)<;>try simp only[BQ] at h)<;>(try (exfalso;omega)))));refine AH (fun k:Nat=>⟨[(9,.r (.int .i64 k)),(6,.p 5 0 0),(5,.p 4 0 0),(4,.r (.int .i64 i)),(3,.p 2 0 0),(2,.p 1 0 0),(1,.p 0 0 0)],[(0,.box 33 [.ro t 5 (ps.map eP),.r (.int .i64 root)]),(1,.box 33 [.r (.slice none 0 0),.r (.int .i64 0)]),(2,.box 33 [.s 3 0 i,.r (.int .i64 root)]),(3,.lst 131 5 ((ps.take i).map eP)),(4,.box 131 (eP p)),(5,.box 131 [.r (.bool p.leaf),.s 6 0 (p.keys.length),.s 7 0 (k),.ro true 1 (p.high.map AC),.r (.int .i64 p.next)]),(6,.lst 81 1 (p.keys.map Aj)),(7,.lst 3 1 ((p.kids.take k).map eI))],8⟩) (fun k=>k≤p.kids.length) (fun k=>p.kids.length - k) 0 ?_ ?_ ?_
   ·exact Nat.zero_le _
   ·(refine AE hE [0,1,2,3,4,5,6,7] rfl ?_ ?_<;>simp[AU,AO,lk,ren,renL,A9,AL,eP]<;>(try omega))
   intro k hk
   by_cases hkl:k<p.kids.length
   ·have zk:((k:Int)<(p.kids.length:Int))=True:=eq_true (by omega)
    obtain⟨x,hx⟩: ∃x,p.kids[k]?=some x:=⟨p.kids[k],by simp[hkl]⟩
    have htk:p.kids.take (k+1)=p.kids.take k++[x]:=by rw[List.take_add_one,hx];rfl
    have hl:(p.kids.take k).length=k:=by rw[List.length_take];omega
    (repeat' (first |refine A0 ?_ |refine A5 ?_ |refine A6 ?_ |((first |refine rR (fun K kp hK hkp=>?_) |refine rX (id:=15) mixed [7] 9 [0,1,2,3,4,5,6,7,8] (fun K kp hK hkp=>?_));simp(implicitDefEqProofs:=false) (maxSteps:=2000000) (disch:=omega) only[go_sem,zk,hx,eP,eI,hl,Value.oneCell'];(repeat' (first |(refine hK _ ?_;clear hK hkp kp K) |(with_reducible refine And.intro ?_ ?_) |omega))) |refine A3 rfl ?_))
    ((refine AJ (k+1) ?_ ?_ ?_);rotate_left;(·(try dsimp only);(omega));(·(refine AE hE [0,1,2,3,4,5,6,9] rfl ?_ ?_<;>simp[AU,AO,lk,ren,renL,A9,AL,htk,eI,eP,List.take_take,Nat.min_self]<;>(try omega))))
    omega
   ·obtain rfl:k=p.kids.length:=by omega
    rw[List.take_length]
    have hl:(ps.take i).length=i:=by rw[List.length_take];omega
    have ht:ps.take (i+1)=ps.take i++[p]:=by rw[List.take_add_one,hp];rfl
    (repeat' (first |refine A0 ?_ |refine AB ?_ |((refine rR (fun K kp hK hkp=>?_));simp(implicitDefEqProofs:=false) (maxSteps:=2000000) (disch:=omega) only[go_sem,eP,hl];(repeat' (first |(refine hK _ ?_;clear hK hkp kp K) |(with_reducible refine And.intro ?_ ?_) |omega))) |((refine AD rfl (fun h=>?_) (fun h=>?_)<;>try simp only[BQ] at h)<;>(try (exfalso;omega)))))
    ((refine AJ (i+1) ?_ ?_ ?_);rotate_left;(·(try dsimp only);(omega));(·(refine AE hE [0,1,2,9] rfl ?_ ?_<;>simp[AU,AO,lk,ren,renL,A9,AL,ht,eP,List.take_take,Nat.min_self]<;>(try omega))))
    omega
 ·obtain rfl:i=ps.length:=by omega
  rw[List.take_length];(repeat' (first |refine A0 ?_ |refine AB ?_ |((refine rR (fun K kp hK hkp=>?_));simp(implicitDefEqProofs:=false) (maxSteps:=2000000) (disch:=omega) only[go_sem];(repeat' (refine hK _ ?_;clear hK hkp kp K))) |((refine AD rfl (fun h=>?_) (fun h=>?_)<;>try simp only[BQ] at h)<;>(try (exfalso;omega))) |refine A8 ?_));(refine A7 (by(simp(implicitDefEqProofs:=false) (maxSteps:=2000000) (disch:=omega) only[go_sem,results37]);rfl) ?_;refine Ar (by simp only[AG];simp(implicitDefEqProofs:=false) (maxSteps:=2000000) (disch:=omega) only[go_sem];rfl) ?_;refine(Al hE (by simp) ?_).s;simp[AG,ren,renL])
end Go.AM
namespace Go.AM
open Go Go.RowKit
attribute [local irreducible] AWP Aw
theorem Fs {ps:List PG}(h:BG ps):VV ps:=fun p hp=>⟨(h.2 p hp).1,(h.2 p hp).2.1⟩
end Go.AM
namespace Go.AM
open Go Go.RowKit
attribute [local irreducible] AWP Aw
def E8 (e:Et):List AV:=[.ro true 1 (e.1.map AC),.r (.int .i64 e.2)]
@[simp] theorem Tg (a:Et):(∀x,x ∈ E8 a→PT x)=True:=eq_true (by intro x hx;simp[E8] at hx;rcases hx with rfl |rfl<;>simp)
instance:PTf E8:=⟨fun a=>of_eq_true (Tg a)⟩
set_option maxHeartbeats 4000000 in
theorem Nx (t:Bool)(ps:List PG)(root:Int)(hp:Bt ps)(ho:BG ps)(hin: ∀i x,x ∈ AI ps i→x<ps.length)(hn:ps.length≤4000): ∀(d i:Nat)(low high:Ky),CU ps d i low high→i<ps.length→(CB ps d [i]).length≤4000→
  ∀(G:List (Nat×List Value)),Con prog G 97 [.agg [.ro t 5 (ps.map eP),.r (.int .i64 root)],.r (.int .i64 i)] [] 0 (Is (.ro true 2 ((BC ps d i).map E8)) [] 0) No:=by
 intro d
 induction d with
 |zero=>
  intro i low high hg hi hl G;have hlf:=hg.1;have hpx:=DR hi;have hok:=hp _ _ hpx;obtain⟨o1,o2,o3,o4⟩:=ho.2 _ (List.mem_of_getElem? hpx)
  have he:BC ps 0 i=(pg ps i).keys.zip (pg ps i).kids:=by simp[BC,CB,CS]
  rw[he];generalize pg ps i=p at *;have hkl:=hok.kl hlf;have h4:=hok.nk;refine AA func97 rfl (by kernel_rfl) (of_decide_eq_true (by kernel_rfl)) ?_;intro E hG hE;subst hG;simp only[B9];(repeat' (first |refine A0 ?_ |refine A5 ?_ |((refine rR (fun K kp hK hkp=>?_));simp(implicitDefEqProofs:=false) (maxSteps:=2000000) (disch:=omega) only[go_sem,hpx,eP,hlf];(repeat' (refine hK _ ?_;clear hK hkp kp K)))));(refine AWP.emb (C0 6 83 2 ?_) ?_;(·rfl);dsimp only);refine AH (fun j:Nat=>⟨[(7,.r (.int .i64 j)),(6,.s 2 0 j),(5,.p 1 0 0),(2,.p 0 0 0)],[(0,.box 33 [.ro t 5 (ps.map eP),.r (.int .i64 root)]),(1,.box 131 [.r (.bool true),.ro true 1 (p.keys.map Aj),.ro true 1 (p.kids.map eI),.ro true 1 (p.high.map AC),.r (.int .i64 p.next)]),(2,.lst 83 2 (((p.keys.zip p.kids).take j).map E8))],3⟩) (fun j=>j≤p.keys.length) (fun j=>p.keys.length - j) 0 ?_ ?_ ?_
  ·exact Nat.zero_le _
  ·(refine AE hE [0,1,2] rfl ?_ ?_<;>simp[AU,AO,lk,ren,renL,A9,AL]<;>(try omega))
  intro j hj
  by_cases hlt:j<p.keys.length
  ·have zj:((j:Int)<(p.kids.length:Int))=True:=eq_true (by omega)
   obtain⟨x,hx⟩: ∃x,p.keys[j]?=some x:=⟨_,List.getElem?_eq_getElem hlt⟩;obtain⟨y,hy⟩: ∃y,p.kids[j]?=some y:=⟨_,List.getElem?_eq_getElem (by omega)⟩;have bc:=BT E.G true x (o4 x (List.mem_of_getElem? hx));have hz:(p.keys.zip p.kids)[j]?=some (x,y):=List.getElem?_zip_eq_some.2 ⟨hx,hy⟩
   have htk:(p.keys.zip p.kids).take (j+1)=(p.keys.zip p.kids).take j++[(x,y)]:=by rw[List.take_add_one,hz];rfl
   have hlj:((p.keys.zip p.kids).take j).length=j:=by rw[List.length_take,List.length_zip];omega
   (repeat' (first |refine A0 ?_ |refine A5 ?_ |refine A6 ?_ |((first |refine rR (fun K kp hK hkp=>?_) |refine rD (id:=7) mixed 14 [0,1,2,3,4,5,7,8,9,10,11,6,12,13] (fun K kp hK hkp=>?_) |refine cD bc ?_);simp(implicitDefEqProofs:=false) (maxSteps:=2000000) (disch:=omega) only[go_sem,zj,hx,hy,hlj,Aj,eI,E8];(repeat' (first |(refine hK _ ?_;clear hK hkp kp K) |(with_reducible refine And.intro ?_ ?_) |omega))) |refine A3 rfl ?_))
   ((refine AJ (j+1) ?_ ?_ ?_);rotate_left;(·(try dsimp only);(omega));(·(refine AE hE [0,1,4] rfl ?_ ?_<;>simp[AU,AO,lk,ren,renL,A9,AL,htk,E8,List.take_take,Nat.min_self]<;>(try omega))))
   omega
  ·obtain rfl:j=p.keys.length:=by omega
   have zj:((p.keys.length:Int)<(p.kids.length:Int))=False:=eq_false (by omega);have htk:(p.keys.zip p.kids).take p.keys.length=p.keys.zip p.kids:=List.take_of_length_le (by rw[List.length_zip];omega);rw[htk]
   have hzl:(p.keys.zip p.kids).length=p.keys.length:=by rw[List.length_zip];omega
   (repeat' (first |refine A0 ?_ |refine AB ?_ |((refine rR (fun K kp hK hkp=>?_));simp(implicitDefEqProofs:=false) (maxSteps:=2000000) (disch:=omega) only[go_sem,zj];(repeat' (refine hK _ ?_;clear hK hkp kp K))) |refine A4 rfl ?_ |refine A8 ?_));(refine A7 (by(simp(implicitDefEqProofs:=false) (maxSteps:=2000000) (disch:=omega) only[go_sem,results97,hzl]);rfl) ?_;refine Ar (by simp only[AG];simp(implicitDefEqProofs:=false) (maxSteps:=2000000) (disch:=omega) only[go_sem,hzl];rfl) ?_;refine(Al hE (by simp) ?_).s;simp[AG,ren,renL,hzl]);exact List.take_of_length_le (by simp[hkl])
 |succ d ih=>
  intro i low high hg hi hl G;have hlf:=hg.1;have hks:=hg.2.2.2;have hpx:=DR hi;have hok:=hp _ _ hpx
  have hkd: ∀(j kid:Nat),(AI ps i)[j]?=some kid→(pg ps i).kids[j]?=some (kid:Int):=fun j kid h=>by
   rw[AI,if_neg (by simp[hlf]),List.getElem?_map,Option.map_eq_some_iff] at h;obtain⟨y,hy,rfl⟩:=h;have h0:=(hok.kd j (List.getElem?_eq_some_iff.1 hy).1).1;rw[List.getD_eq_getElem?_getD,hy] at h0;have h0:0≤y:=h0;rw[hy];congr 1;omega
  have hkn:(AI ps i).length=(pg ps i).kids.length:=by rw[AI,if_neg (by simp[hlf]),List.length_map]
  have hL:CB ps (d+1) [i]=CB ps d (AI ps i):=D_ _ _ _;have hK: ∀kid,kid ∈ AI ps i→kid<ps.length:=fun kid h=>hin i kid h
  have hF:BC ps (d+1) i=(CB ps d (AI ps i)).flatMap (CS ps):=by rw[BC,hL]
  rw[hF];rw[hL] at hl;generalize pg ps i=p at hpx hok hkd hkn hlf hks;generalize AI ps i=ks at *;have hki:=hok.ki hlf;have h4:=hok.nk
  have hcl: ∀j,((CB ps d (ks.take j)).flatMap (CS ps)).length≤16000:=fun j=>by
   have h1:=Dk hp (CB ps d (ks.take j))
   have h2:(CB ps d (ks.take j)).length≤(CB ps d ks).length:=by
    conv=>rhs;rw[←List.take_append_drop j ks,Bh,List.length_append]
    omega
   omega
  refine AA func97 rfl (by kernel_rfl) (of_decide_eq_true (by kernel_rfl)) ?_;intro E hG hE;subst hG;simp only[B9];(repeat' (first |refine A0 ?_ |refine A5 ?_ |((refine rR (fun K kp hK hkp=>?_));simp(implicitDefEqProofs:=false) (maxSteps:=2000000) (disch:=omega) only[go_sem,hpx,eP,hlf];(repeat' (refine hK _ ?_;clear hK hkp kp K)))));(refine AWP.emb (C0 6 83 2 ?_) ?_;(·rfl);dsimp only);refine AH (fun j:Nat=>⟨[(7,.r (.int .i64 j)),(6,.s 2 0 ((CB ps d (ks.take j)).flatMap (CS ps)).length),(5,.p 1 0 0),(2,.p 0 0 0)],[(0,.box 33 [.ro t 5 (ps.map eP),.r (.int .i64 root)]),(1,.box 131 [.r (.bool false),.ro true 1 (p.keys.map Aj),.ro true 1 (p.kids.map eI),.ro true 1 (p.high.map AC),.r (.int .i64 p.next)]),(2,.lst 83 2 (((CB ps d (ks.take j)).flatMap (CS ps)).map E8))],3⟩) (fun j=>j≤ks.length) (fun j=>ks.length - j) 0 ?_ ?_ ?_
  ·exact Nat.zero_le _
  ·have hl0:CB ps d []=[]:=Da ps d
   (refine AE hE [0,1,2] rfl ?_ ?_<;>simp[AU,AO,lk,ren,renL,A9,AL,hl0]<;>(try omega))
  intro j hj
  by_cases hlt:j<ks.length
  ·have zj:((j:Int)<(p.kids.length:Int))=True:=eq_true (by omega)
   obtain⟨kid,hkj⟩: ∃kid,ks[j]?=some kid:=⟨_,List.getElem?_eq_getElem hlt⟩;have hy:=hkd j kid hkj
   have hlk:(CB ps d [kid]).length≤4000:=by
    have:=congrArg List.length (Lj (ps:=ps) d hkj);simp only[List.length_append] at this;omega
   have rc:=ih kid _ _ (hks j kid hkj) (hK kid (List.mem_of_getElem? hkj)) hlk E.G
   have htk:(CB ps d (ks.take (j+1))).flatMap (CS ps)=(CB ps d (ks.take j)).flatMap (CS ps)++BC ps d kid:=by rw[List.take_add_one,hkj,BC,←List.flatMap_append,←Bh];rfl
   have hc1:=hcl j;have hc2:=hcl (j+1);rw[htk,List.length_append] at hc2;generalize (CB ps d (ks.take j)).flatMap (CS ps)=cur at *;generalize BC ps d kid=add at *;(repeat' (first |refine A0 ?_ |refine A5 ?_ |refine A6 ?_ |((first |refine rR (fun K kp hK hkp=>?_) |refine rD (id:=8) mixed 8 [0,1,2,3,4,5,6,7] (fun K kp hK hkp=>?_) |refine cD rc ?_);simp(implicitDefEqProofs:=false) (maxSteps:=2000000) (disch:=omega) only[go_sem,zj,hy,eI,E8];(repeat' (first |(refine hK _ ?_;clear hK hkp kp K) |(with_reducible refine And.intro ?_ ?_) |omega))) |refine A3 rfl ?_ |refine A4 rfl ?_))
   ((refine AJ (j+1) ?_ ?_ ?_);rotate_left;(·(try dsimp only);(omega));(·(refine AE hE [0,1,3] rfl ?_ ?_<;>simp[AU,AO,lk,ren,renL,A9,AL,htk,E8,List.take_take,Nat.min_self]<;>(try omega))))
   omega
  ·obtain rfl:j=ks.length:=by omega
   have zj:((ks.length:Int)<(p.kids.length:Int))=False:=eq_false (by omega);have hcj:=hcl ks.length;rw[List.take_length] at hcj ⊢;(repeat' (first |refine A0 ?_ |refine AB ?_ |((refine rR (fun K kp hK hkp=>?_));simp(implicitDefEqProofs:=false) (maxSteps:=2000000) (disch:=omega) only[go_sem,zj];(repeat' (refine hK _ ?_;clear hK hkp kp K))) |refine A4 rfl ?_ |refine A8 ?_));(refine A7 (by(simp(implicitDefEqProofs:=false) (maxSteps:=2000000) (disch:=omega) only[go_sem,results97]);rfl) ?_;refine Ar (by simp only[AG];simp(implicitDefEqProofs:=false) (maxSteps:=2000000) (disch:=omega) only[go_sem];rfl) ?_;refine(Al hE (by simp) ?_).s;simp[AG,ren,renL])
end Go.AM
namespace Go.AM
open Go Go.RowKit
attribute [local irreducible] AWP Aw
noncomputable def CG (ps:List PG)(root:Int)(k:Ky):Int:=if E9 ps root≠0 then E9 ps root else if DM k=true then 0 else 1
theorem F8 (G:List (Nat×List Value))(t:Bool)(ps:List PG)(root:Int)(k:Ky)(ho:BG ps):Con prog G 100 [.agg [.ro true 5 (ps.map eP),.r (.int .i64 root)],.ro t 1 (k.map AC)] [] 0 (Is (.r (.int .i64 (CG ps root k))) [] 0) No:=by
 have cc:=F9 G ps root (Fs ho);obtain⟨c,hc⟩: ∃c,E9 ps root=c:=⟨_,rfl⟩;rw[CG];rw[hc] at cc ⊢;refine AA func100 rfl (by kernel_rfl) (of_decide_eq_true (by kernel_rfl)) ?_;intro E hG hE;subst hG;simp only[B9]
 by_cases h0:c=0
 ·subst h0
  cases hk:DM k
  ·have kc:=JW E.G t k
   rw[hk] at kc;(repeat' (first |refine A0 ?_ |refine A6 ?_ |((first |refine rR (fun K kp hK hkp=>?_) |refine cR cc ?_ |refine cR kc ?_);simp(implicitDefEqProofs:=false) (maxSteps:=2000000) (disch:=omega) only[go_sem,bne_self_eq_false];(repeat' (refine hK _ ?_;clear hK hkp kp K))) |refine A3 rfl ?_ |refine A4 rfl ?_ |refine A8 ?_));(refine A7 (by(simp(implicitDefEqProofs:=false) (maxSteps:=2000000) (disch:=omega) only[go_sem,results100]);rfl) ?_;refine eN hE ?_;simp[AG,ren,renL])
  ·have kc:=JW E.G t k
   rw[hk] at kc;(repeat' (first |refine A0 ?_ |refine A6 ?_ |((first |refine rR (fun K kp hK hkp=>?_) |refine cR cc ?_ |refine cR kc ?_);simp(implicitDefEqProofs:=false) (maxSteps:=2000000) (disch:=omega) only[go_sem,bne_self_eq_false];(repeat' (refine hK _ ?_;clear hK hkp kp K))) |refine A4 rfl ?_ |refine A8 ?_));(refine A7 (by(simp(implicitDefEqProofs:=false) (maxSteps:=2000000) (disch:=omega) only[go_sem,results100]);rfl) ?_;refine eN hE ?_;simp[AG,ren,renL])
 ·have z0:(c !=0)=true:=by simp[h0]
  (repeat' (first |refine A0 ?_ |((first |refine rR (fun K kp hK hkp=>?_) |refine cR cc ?_);simp(implicitDefEqProofs:=false) (maxSteps:=2000000) (disch:=omega) only[go_sem,z0];(repeat' (refine hK _ ?_;clear hK hkp kp K))) |refine A3 rfl ?_ |refine A8 ?_));(refine A7 (by(simp(implicitDefEqProofs:=false) (maxSteps:=2000000) (disch:=omega) only[go_sem,results100,h0]);rfl) ?_;refine eN hE ?_;simp[AG,ren,renL,h0])
theorem Dn (G:List (Nat×List Value))(t u:Bool)(ps:List PG)(root:Int)(k:Ky)(ho:BG ps):Con prog G 110 [.agg [.ro u 5 (ps.map eP),.r (.int .i64 root)],.ro t 1 (k.map AC)] [] 0 (Is (.r (.int .i64 (CG ps root k))) [] 0) No:=by
 have cc:=G9 G u ps root (Fs ho) ho.1;obtain⟨c,hc⟩: ∃c,E9 ps root=c:=⟨_,rfl⟩;rw[CG];rw[←QD,hc] at cc;rw[hc];refine AA func110 rfl (by kernel_rfl) (of_decide_eq_true (by kernel_rfl)) ?_;intro E hG hE;subst hG;simp only[B9]
 by_cases h0:c=0
 ·subst h0
  cases hk:DM k
  ·have kc:=Ey E.G t k
   rw[hk] at kc;(repeat' (first |refine A0 ?_ |((first |refine rR (fun K kp hK hkp=>?_) |refine cR cc ?_ |refine cR kc ?_);simp(implicitDefEqProofs:=false) (maxSteps:=2000000) (disch:=omega) only[go_sem,beq_self_eq_true];(repeat' (refine hK _ ?_;clear hK hkp kp K))) |refine A3 rfl ?_ |refine A8 ?_));(refine A7 (by(simp(implicitDefEqProofs:=false) (maxSteps:=2000000) (disch:=omega) only[go_sem,results110]);rfl) ?_;refine eN hE ?_;simp[AG,ren,renL])
  ·have kc:=Ey E.G t k
   rw[hk] at kc;(repeat' (first |refine A0 ?_ |refine A6 ?_ |((first |refine rR (fun K kp hK hkp=>?_) |refine cR cc ?_ |refine cR kc ?_);simp(implicitDefEqProofs:=false) (maxSteps:=2000000) (disch:=omega) only[go_sem,beq_self_eq_true];(repeat' (refine hK _ ?_;clear hK hkp kp K))) |refine A4 rfl ?_ |refine A8 ?_));(refine A7 (by(simp(implicitDefEqProofs:=false) (maxSteps:=2000000) (disch:=omega) only[go_sem,results110]);rfl) ?_;refine eN hE ?_;simp[AG,ren,renL])
 ·have z0:(c==0)=false:=by simp[h0]
  (repeat' (first |refine A0 ?_ |refine A6 ?_ |((first |refine rR (fun K kp hK hkp=>?_) |refine cR cc ?_);simp(implicitDefEqProofs:=false) (maxSteps:=2000000) (disch:=omega) only[go_sem,z0];(repeat' (refine hK _ ?_;clear hK hkp kp K))) |refine A4 rfl ?_ |refine A8 ?_));(refine A7 (by(simp(implicitDefEqProofs:=false) (maxSteps:=2000000) (disch:=omega) only[go_sem,results110,h0]);rfl) ?_;refine eN hE ?_;simp[AG,ren,renL,h0])
structure Trd (ps:List PG)(r d:Nat):Prop where
 ok:Bt ps
 kin: ∀i x,x ∈ AI ps i→x<ps.length
 good:CU ps d r [] []
 rl:r<ps.length
 n:ps.length≤4000
 dl:d<ps.length
 tr:TreeOK ps r d
theorem GS {ps:List PG}{root:Int}(h:ChkOK ps root): ∃r d:Nat,root=r∧Trd ps r d:=by
 obtain⟨d,T⟩:=Ib h;refine⟨root.toNat,d,by have:=h.r0;omega,h.pg,HP h.pg,T.good,by have:=h.r0;have:=h.r1;omega,h.n2,?_,T⟩;have hpm:=JR ps d root.toNat;have hd:=H8 (BX h.pg) d root.toNat [] [] T.good;rw[hpm.length_eq,T.all] at hd;omega
theorem Pv (ps:List PG): ∀(d:Nat)(l:List Nat),(CB ps d l).length≤(Gq ps d l).length
 |0,l=>Nat.le_refl _
 |d+1,l=>by
  have:=Pv ps d (l.flatMap (AI ps));rw[CB,Gq,List.length_append];omega
theorem Trd.many {ps:List PG}{r d:Nat}(h:Trd ps r d):(CB ps d [r]).length≤4000:=by
 have:=Pv ps d [r];have:=h.tr.all;have:=h.n;omega
theorem Trd.leaf {ps:List PG}{r d:Nat}(h:Trd ps r d)(k:Ky):BH ps k d r<ps.length:=by
 obtain⟨_,_,_,b4⟩:=D2 h.ok k d r [] [] h.good (.inl rfl) d _ (IA ps k d r)
 rcases b4 with e |⟨y,hy⟩
 ·rw[e];exact h.rl
 ·exact h.kin y _ hy
theorem GL (G:List (Nat×List Value))(t:Bool){ps:List PG}{r d:Nat}(h:Trd ps r d)(ho:BG ps):Con prog G 43 [.agg [.ro t 5 (ps.map eP),.r (.int .i64 r)]] [] 0 (Is (.ro true 2 ((BC ps d r).map E8)) [] 0) No:=by
 have ec:=Nx t ps r h.ok ho h.kin h.n d r [] [] h.good h.rl h.many G;refine AA func43 rfl (by kernel_rfl) (of_decide_eq_true (by kernel_rfl)) ?_;intro E hG hE;subst hG;simp only[B9];(repeat' (first |refine A0 ?_ |((first |refine rR (fun K kp hK hkp=>?_) |refine cR ec ?_);simp(implicitDefEqProofs:=false) (maxSteps:=2000000) (disch:=omega) only[go_sem];(repeat' (refine hK _ ?_;clear hK hkp kp K))) |refine A8 ?_));(refine A7 (by(simp(implicitDefEqProofs:=false) (maxSteps:=2000000) (disch:=omega) only[go_sem,results43]);rfl) ?_;refine eN hE ?_;simp[AG,ren,renL])
noncomputable def K_ (ps:List PG)(root:Int)(k:Ky)(R:Int×Int):AV:= .tup [.r (.int .i64 (if CG ps root k≠0 then 0 else R.1)),.r (.int .i64 (if CG ps root k≠0 then CG ps root k else R.2))]
theorem Ho {ps:List PG}{root:Int}{k:Ky}(h:CG ps root k=0):ChkOK ps root:=by
 rw[CG] at h
 by_cases hc:ChkOK ps root
 ·exact hc
 ·rw[Kt hc] at h;simp at h
set_option maxHeartbeats 4000000 in
theorem R6 (G:List (Nat×List Value))(t:Bool)(ps:List PG)(root:Int)(k:Ky)(ho:BG ps)(R:Int×Int)(hR:CG ps root k=0→ ∀r d:Nat,root=r→Trd ps r d→R=GJ (pg ps (BH ps k d r)) k):
  Con prog G 88 [.agg [.ro true 5 (ps.map eP),.r (.int .i64 root)],.ro t 1 (k.map AC)] [] 0 (Is (K_ ps root k R) [] 0) No:=by
 have cc:=F8 G t ps root k ho;rw[K_]
 by_cases h0:CG ps root k=0
 ·obtain⟨r,d,rfl,h⟩:=GS (Ho h0)
  have hR:=hR h0 r d rfl h;rw[h0] at cc ⊢;have fc:=Fz G true t ps r d k h.ok h.kin h.good h.rl h.n h.dl;have hl:=h.leaf k;have hpx:=DR hl;have hok:=h.ok _ _ hpx;obtain⟨A,B,e,hA,hB,lo,hi,hgl,_⟩:=Ex h.ok k d r [] [] h.good (.inl rfl);have hlf:=hgl.1;clear hA hB hgl e;generalize BH ps k d r=x at *;generalize pg ps x=p at *;have hkl:=hok.kl hlf;have hpk:=Bc p k;refine AA func88 rfl (by kernel_rfl) (of_decide_eq_true (by kernel_rfl)) ?_;intro E hG hE;subst hG;simp only[B9];rw[GJ] at hR
  by_cases ht:p.keys[AN p k]?=some k
  ·rw[Bu,decide_eq_true ht] at fc
   rw[if_pos ht] at hR;have hlt:=(List.getElem?_eq_some_iff.1 ht).1;obtain⟨y,hy⟩: ∃y,p.kids[AN p k]?=some y:=⟨_,List.getElem?_eq_getElem (by omega)⟩
   have hyD:p.kids.getD (AN p k) 0=y:=by rw[List.getD_eq_getElem?_getD,hy];rfl
   rw[hyD] at hR;subst hR;(repeat' (first |refine A0 ?_ |refine A6 ?_ |((first |refine rR (fun K kp hK hkp=>?_) |refine cR cc ?_ |refine cR fc ?_);simp(implicitDefEqProofs:=false) (maxSteps:=2000000) (disch:=omega) only[go_sem,bne_self_eq_false,hpx,hy,eP,eI];(repeat' (refine hK _ ?_;clear hK hkp kp K))) |refine A4 rfl ?_ |refine A8 ?_));(refine A7 (by(simp(implicitDefEqProofs:=false) (maxSteps:=2000000) (disch:=omega) only[go_sem,results88]);rfl) ?_;refine eN hE ?_;simp[AG,ren,renL])
  ·rw[Bu,decide_eq_false ht] at fc
   rw[if_neg ht] at hR;subst hR;(repeat' (first |refine A0 ?_ |refine A6 ?_ |((first |refine rR (fun K kp hK hkp=>?_) |refine cR cc ?_ |refine cR fc ?_);simp(implicitDefEqProofs:=false) (maxSteps:=2000000) (disch:=omega) only[go_sem,bne_self_eq_false,hpx,eP,eI];(repeat' (refine hK _ ?_;clear hK hkp kp K))) |refine A3 rfl ?_ |refine A4 rfl ?_ |refine A8 ?_));(refine A7 (by(simp(implicitDefEqProofs:=false) (maxSteps:=2000000) (disch:=omega) only[go_sem,results88]);rfl) ?_;refine eN hE ?_;simp[AG,ren,renL])
 ·have z0:(CG ps root k !=0)=true:=by simp[h0]
  refine AA func88 rfl (by kernel_rfl) (of_decide_eq_true (by kernel_rfl)) ?_;intro E hG hE;subst hG;simp only[B9];(repeat' (first |refine A0 ?_ |((first |refine rR (fun K kp hK hkp=>?_) |refine cR cc ?_);simp(implicitDefEqProofs:=false) (maxSteps:=2000000) (disch:=omega) only[go_sem,z0];(repeat' (refine hK _ ?_;clear hK hkp kp K))) |refine A3 rfl ?_ |refine A8 ?_));(refine A7 (by(simp(implicitDefEqProofs:=false) (maxSteps:=2000000) (disch:=omega) only[go_sem,results88,h0]);rfl) ?_;refine eN hE ?_;simp[AG,ren,renL,h0])
def KX (k:Ky):List Et→Int×Int
 | []=>(0,8)
 |e::r=>if (e.1==k)=true then (e.2,0) else KX k r
theorem Lu (k:Ky): ∀l,KX k l=DN l k
 | []=>rfl
 |e::r=>by
  rw[KX,DN,List.find?_cons];cases h:(e.1==k)
  ·simp only[Bool.false_eq_true,↓reduceIte];rw[Lu k r,DN]
  ·simp
set_option maxHeartbeats 4000000 in
theorem Lt (G:List (Nat×List Value))(t u:Bool)(ps:List PG)(root:Int)(k:Ky)(ho:BG ps)(R:Int×Int)(hR:CG ps root k=0→ ∀r d:Nat,root=r→Trd ps r d→R=DN (BC ps d r) k):
  Con prog G 79 [.agg [.ro u 5 (ps.map eP),.r (.int .i64 root)],.ro t 1 (k.map AC)] [] 0 (Is (K_ ps root k R) [] 0) No:=by
 have cc:=Dn G t u ps root k ho;rw[K_]
 by_cases h0:CG ps root k=0
 ·obtain⟨r,d,rfl,h⟩:=GS (Ho h0)
  have hR:=hR h0 r d rfl h;rw[←Lu] at hR;rw[h0] at cc ⊢;have ec:=GL G u h ho;have hlen:=Dk h.ok (CB ps d [r]);have:=h.many
  have hlen:(BC ps d r).length≤16000:=by rw[BC];omega
  generalize BC ps d r=l at *;refine AA func79 rfl (by kernel_rfl) (of_decide_eq_true (by kernel_rfl)) ?_;intro E hG hE;subst hG;simp only[B9];(repeat' (first |refine A0 ?_ |refine A5 ?_ |refine A6 ?_ |((first |refine rR (fun K kp hK hkp=>?_) |refine cR cc ?_ |refine cR ec ?_);simp(implicitDefEqProofs:=false) (maxSteps:=2000000) (disch:=omega) only[go_sem,bne_self_eq_false,E8];(repeat' (refine hK _ ?_;clear hK hkp kp K))) |refine A4 rfl ?_));refine AH (fun j:Nat=>⟨[(8,.r (.int .i64 j)),(7,.ro true 2 (l.map E8)),(1,.ro t 1 (k.map AC))],[],0⟩) (fun j=>j≤l.length∧R=KX k (l.drop j)) (fun j=>l.length - j) 0 ?_ ?_ ?_
  ·exact⟨Nat.zero_le _,hR⟩
  ·(refine AE hE [] rfl ?_ ?_<;>simp[AU,AO,lk,ren,renL,A9,AL]<;>(try omega))
  rintro j ⟨hj,hRj⟩
  by_cases hlt:j<l.length
  ·have zj:((j:Int)<(l.length:Int))=True:=eq_true (by omega)
   obtain⟨x,hx⟩: ∃x,l[j]?=some x:=⟨_,List.getElem?_eq_getElem hlt⟩;rw[BA hx,KX] at hRj;cases he:(x.1==k)
   ·rw[he] at hRj
    (repeat' (first |refine A0 ?_ |refine A5 ?_ |refine A6 ?_ |((first |refine rR (fun K kp hK hkp=>?_) |refine cR (ED _ _ _ _ _) ?_);simp(implicitDefEqProofs:=false) (maxSteps:=2000000) (disch:=omega) only[go_sem,zj,hx,E8,he];(repeat' (refine hK _ ?_;clear hK hkp kp K))) |refine A3 rfl ?_ |refine A4 rfl ?_))
    ((refine AJ (j+1) ?_ ?_ ?_);rotate_left;(·(try dsimp only);(omega));(·(refine AE hE [] rfl ?_ ?_<;>simp[AU,AO,lk,ren,renL,A9,AL]<;>(try omega))))
    exact⟨by omega,by simpa using hRj⟩
   ·rw[he] at hRj
    have hRj:R=(x.2,0):=by simpa using hRj
    subst hRj;(repeat' (first |refine A0 ?_ |refine A5 ?_ |refine A6 ?_ |((first |refine rR (fun K kp hK hkp=>?_) |refine cR (ED _ _ _ _ _) ?_);simp(implicitDefEqProofs:=false) (maxSteps:=2000000) (disch:=omega) only[go_sem,zj,hx,E8,he];(repeat' (refine hK _ ?_;clear hK hkp kp K))) |refine A3 rfl ?_ |refine A8 ?_));(refine A7 (by(simp(implicitDefEqProofs:=false) (maxSteps:=2000000) (disch:=omega) only[go_sem,results79]);rfl) ?_;refine eN hE ?_;simp[AG,ren,renL])
  ·obtain rfl:j=l.length:=by omega
   rw[List.drop_length] at hRj;obtain rfl:R=(0,8):=hRj;(repeat' (first |refine A0 ?_ |refine AB ?_ |((refine rR (fun K kp hK hkp=>?_));simp(implicitDefEqProofs:=false) (maxSteps:=2000000) (disch:=omega) only[go_sem];(repeat' (refine hK _ ?_;clear hK hkp kp K))) |((refine AD rfl (fun h=>?_) (fun h=>?_)<;>try simp only[BQ] at h)<;>(try (exfalso;omega))) |refine A8 ?_));(refine A7 (by(simp(implicitDefEqProofs:=false) (maxSteps:=2000000) (disch:=omega) only[go_sem,results79]);rfl) ?_;refine eN hE ?_;simp[AG,ren,renL])
 ·have z0:(CG ps root k !=0)=true:=by simp[h0]
  refine AA func79 rfl (by kernel_rfl) (of_decide_eq_true (by kernel_rfl)) ?_;intro E hG hE;subst hG;simp only[B9];(repeat' (first |refine A0 ?_ |((first |refine rR (fun K kp hK hkp=>?_) |refine cR cc ?_);simp(implicitDefEqProofs:=false) (maxSteps:=2000000) (disch:=omega) only[go_sem,z0];(repeat' (refine hK _ ?_;clear hK hkp kp K))) |refine A3 rfl ?_ |refine A8 ?_));(refine A7 (by(simp(implicitDefEqProofs:=false) (maxSteps:=2000000) (disch:=omega) only[go_sem,results79,h0]);rfl) ?_;refine eN hE ?_;simp[AG,ren,renL,h0])
theorem PF (ps:List PG)(root:Int)(k:Ky): ∃R:Int×Int,∀r d:Nat,root=r→Trd ps r d→R=GJ (pg ps (BH ps k d r)) k∧R=DN (BC ps d r) k:=by
 by_cases h: ∃r d:Nat,root=r∧Trd ps r d
 ·obtain⟨r,d,rfl,h⟩:=h
  refine⟨GJ (pg ps (BH ps k d r)) k,fun r' d' e h'=>?_⟩
  obtain rfl:r=r':=by omega
  obtain rfl:=Bo (BX h.ok) d r _ _ _ _ d' h.good h'.good;exact⟨rfl,(Gg h.ok h.good k (h.leaf k)).symm⟩
 ·exact⟨(0,0),fun r d e h'=>absurd ⟨r,d,e,h'⟩ h⟩
end Go.AM
namespace Go.AM
open Go Go.RowKit
attribute [local irreducible] AWP Aw
def Ko (t u:Bool)(ps:List PG)(root:Int)(k:Ky):AV:= .fn 145 [.re true [.ro t 5 (ps.map eP),.r (.int .i64 root)] 0,.re true [.ro u 1 (k.map AC)] 0]
theorem Sq (G:List (Nat×List Value))(t u:Bool)(ps:List PG)(root:Int)(k:Ky):Con prog G 95 [.agg [.ro t 5 (ps.map eP),.r (.int .i64 root)],.ro u 1 (k.map AC)] [] 0 (Is (Ko t u ps root k) [] 0) No:=by
 refine AA func95 rfl (by kernel_rfl) (of_decide_eq_true (by kernel_rfl)) ?_;intro E hG hE;subst hG;simp only[B9];refine A0 ?_;(refine rR (fun K kp hK hkp=>?_);simp(implicitDefEqProofs:=false) (maxSteps:=2000000) (disch:=omega) only[go_sem];(repeat' (refine hK _ ?_;clear hK hkp kp K)));refine AWP.emb (PL 2 0 rfl rfl rfl) ?_;refine AWP.emb (PL 3 1 rfl rfl rfl) ?_;simp only[rm,↓reduceIte,Nat.reduceEqDiff];(repeat' (first |refine A0 ?_ |((refine rR (fun K kp hK hkp=>?_));simp(implicitDefEqProofs:=false) (maxSteps:=2000000) (disch:=omega) only[go_sem];(repeat' (refine hK _ ?_;clear hK hkp kp K))) |refine A8 ?_));simp only[AS.put];(refine A7 (by(simp(implicitDefEqProofs:=false) (maxSteps:=2000000) (disch:=omega) only[go_sem,results95,Ko]);rfl) ?_;refine eN hE ?_;simp[AG,ren,renL,Ko])
end Go.AM
namespace Go.AM
open Go Go.RowKit
attribute [local irreducible] AWP Aw
def Dt (ps:List PG)(LV:List Nat)(q at_:Nat):List Et:=match LV.drop q with
 | []=>[]
 |x::r=>(CS ps x).drop at_++r.flatMap (CS ps)
def DL (LV:List Nat)(q:Nat):Int:=match LV[q]? with
 |some x=>(x:Int)
 |none=> -1
theorem S5 {ps:List PG}{LV:List Nat}{q at_:Nat}(h:LV.length≤q):Dt ps LV q at_=[]:=by rw[Dt,List.drop_of_length_le h]
theorem JP {ps:List PG}{LV:List Nat}{q at_ x:Nat}(h:LV[q]?=some x):Dt ps LV q at_=(CS ps x).drop at_++(LV.drop (q+1)).flatMap (CS ps):=by rw[Dt,BA h]
theorem Qh {ps:List PG}{LV:List Nat}{q:Nat}:Dt ps LV q 0=(LV.drop q).flatMap (CS ps):=by
 rw[Dt];cases LV.drop q<;>simp
theorem Qj {ps:List PG}{LV:List Nat}{q at_ x:Nat}(h:LV[q]?=some x)(hl:(CS ps x).length≤at_):Dt ps LV q at_=Dt ps LV (q+1) 0:=by
 rw[JP h,Qh,List.drop_of_length_le hl];rfl
theorem Qi {ps:List PG}{LV:List Nat}{q at_ x:Nat}{e:Et}(h:LV[q]?=some x)(he:(CS ps x)[at_]?=some e):Dt ps LV q at_=e::Dt ps LV q (at_+1):=by
 rw[JP h,JP h,BA he];rfl
section
variable {t u:Bool} {ps:List PG} {r d:Nat} {k:Ky}
structure LVok (ps:List PG)(LV:List Nat):Prop where
 lt: ∀x ∈ LV,x<ps.length
 lf: ∀x ∈ LV,(pg ps x).leaf=true
 nx:Hh ps LV
theorem XG (h:Trd ps r d):LVok ps (CB ps d [r]):=by
 refine⟨Oy h.kin d [r] (by simp[h.rl]),fun x hx=>?_,h.tr.chains d (Nat.le_refl _)⟩
 have: ∀(d i:Nat)(low high:Ky),CU ps d i low high→ ∀x ∈ CB ps d [i],(pg ps x).leaf=true:=by
  intro d
  induction d with
  |zero=>intro i low high hg x hx;simp only[CB,List.mem_singleton] at hx;subst hx;exact hg.1
  |succ d ih=>
   intro i low high hg x hx;rw[D_] at hx;obtain⟨m,kid,hm,hx⟩:=MT d hx;exact ih kid _ _ (hg.2.2.2 m kid hm) x hx
 exact this d r [] [] h.good x hx
end
def mO (t u:Bool)(ps:List PG)(root:Int)(k:Ky)(l:Nat)(leaf:Int)(at_:Nat):List (Nat×AV):=[(5,.r (.int .i64 at_)),(4,.r (.int .i64 leaf)),(2,.re true [.ro u 1 (k.map AC)] 0),(1,.re true [.ro t 5 (ps.map eP),.r (.int .i64 root)] 0),(0,.r (.func (.yield l) #[] #[]))]
def mI (t u:Bool)(ps:List PG)(root:Int)(k:Ky)(l:Nat)(p:PG)(leaf:Int)(at_:Nat):List (Nat×AV):=(7,.re true [.r (.bool p.leaf),.ro true 1 (p.keys.map Aj),.ro true 1 (p.kids.map eI),.ro true 1 (p.high.map AC),.r (.int .i64 p.next)] 0)::mO t u ps root k l leaf at_
set_option maxHeartbeats 8000000 in
theorem RE (G:List (Nat×List Value)){t u th:Bool}{ps:List PG}{root:Int}{k:Ky}{LV:List Nat}(hL:LVok ps LV)(ho:BG ps)(hp:Bt ps){q0 at0:Nat}
  (fc: ∀G,Con prog G 101 [.agg [.ro t 5 (ps.map eP),.r (.int .i64 root)],.ro u 1 (k.map AC)] [] 0 (Is (.tup [.r (.int .i64 (DL LV q0)),.r (.int .i64 at0),.r (.bool th)]) [] 0) No)
  {l kk:Nat} {J Jx:List Et→World→AT→Prop} (Y:Yld (fun x:Et=> .agg (E8 x)) (Dt ps LV q0 at0) prog kk l J Jx) (W:World) (z:AT) (hz: ∀t b,z t b→b<W.heap.size) (hG: ∀g cs,(g,cs) ∈ G→z true g∧ ∀(j:Nat) v,cs[j]?=some v→W.cell? ⟨g,j,none⟩=some v)
  (pT pK:Value) (hr:Reps W z [] [.re true [.ro t 5 (ps.map eP),.r (.int .i64 root)] 0,.re true [.ro u 1 (k.map AC)] 0] [pT,pK]) (h0:J [] W z):
  CallsIn Fence.wide (kk+1) prog 145 #[.func (.yield l) #[] #[],pT,pK] W fun e W'=>(∃v,e= .returned v)∧ ∃z',(∀t b,z t b→z' t b)∧(J (Dt ps LV q0 at0) W' z'∨ ∃pre,pre <+: Dt ps LV q0 at0∧Jx pre W' z'):=by
 refine(callsIn_wide (n:=kk+1)).2 ?_;have hA0:=OL (G:=G) (N:=(f145).ntmps) (xs:=[.r (.func (.yield l) #[] #[]),.re true [.ro t 5 (ps.map eP),.r (.int .i64 root)] 0,.re true [.ro u 1 (k.map AC)] 0]) (vs:=[.func (.yield l) #[] #[],pT,pK]) hz hG (.cons (.r _ _) hr) (of_decide_eq_true (by kernel_rfl));refine calls_of_wp func145 rfl ?_
 obtain⟨R,hR⟩: ∃R:Ending→World→Prop,R=fun e W'=>(∃v,e= .returned v)∧ ∃z',(∀t b,z t b→z' t b)∧(J (Dt ps LV q0 at0) W' z'∨ ∃pre,pre <+: Dt ps LV q0 at0∧Jx pre W' z'):=⟨_,rfl⟩
 rw[←hR];generalize ({tmps:=_,defers:=[]}:Act)=a0 at hA0 ⊢;refine wp_seq ?_;refine Ud (AQ:=fun e m1=>e= .normal∧m1=mO t u ps root k l (DL LV q0) at0) ?_ hA0 ?_
 ·intro E hG hE;subst hG
  simp only[B9];have fc':=fc E.G;(repeat' ((first |refine rR (fun K kp hK hkp=>?_) |refine cR fc' ?_);simp(implicitDefEqProofs:=false) (maxSteps:=2000000) (disch:=omega) only[go_sem];(repeat' (refine hK _ ?_;clear hK hkp kp K))));refine⟨_,⟨rfl,rfl⟩,?_⟩;(refine AE hE [] rfl ?_ ?_<;>simp[AU,AO,lk,ren,renL,A9,AL,mO]<;>(try omega))
 rintro e m1 a1 w1 z1 ⟨rfl,rfl⟩ hA1 s1;dsimp only[TI,Exit.then]
 have hO: ¬LetsOut (bodyPost prog f145 R):=by
  rintro⟨a,w,h⟩;have h:R .outgrown w:=h;rw[hR] at h;obtain⟨⟨v,hv⟩,_⟩:=h;cases hv
 have hP: ∀c a w,¬bodyPost prog f145 R (.panic c) a w:=by
  rintro c a w ⟨_,h⟩;rw[hR] at h;obtain⟨⟨v,hv⟩,_⟩:=h;cases hv
 refine wp_block ?_;refine N1 (fun(i:Nat×Nat) a w=> ∃pre z',(∀t b,z t b→z' t b)∧At G (f145).ntmps (mO t u ps root k l (DL LV i.1) i.2) z' a w∧J pre w z'∧pre++Dt ps LV i.1 i.2=Dt ps LV q0 at0) (fun i=>LV.length - i.1) (q0,at0)
  ⟨[],z1,s1.sub,hA1,Y.grow _ _ _ _ _ h0 s1,rfl⟩ ?_
 rintro⟨q,at_⟩ a w ⟨pre,z',hzs,hA,hJ,hrem⟩;dsimp only at hA hrem ⊢
 by_cases hlt:q<LV.length
 ·obtain⟨x,hx⟩: ∃x,LV[q]?=some x:=⟨_,List.getElem?_eq_getElem hlt⟩
  have hxl:=hL.lt x (List.mem_of_getElem? hx);have hlf:=hL.lf x (List.mem_of_getElem? hx);have hnx:=hL.nx q x hx
  have hle:DL LV q=(x:Int):=by rw[DL,hx]
  have hle2:(pg ps x).next=DL LV (q+1):=by rw[hnx];rfl
  have hpx:=DR hxl;have hok:=hp _ _ hpx;obtain⟨o1,o2,o3,o4⟩:=ho.2 _ (List.mem_of_getElem? hpx);have hent:CS ps x=(pg ps x).keys.zip (pg ps x).kids:=rfl;rw[hle] at hA;generalize hp':pg ps x=p at *;have hkl:=hok.kl hlf;have h4:=hok.nk;refine wp_seq ?_;refine Ud (AQ:=fun e m1=>e= .normal∧m1=mO t u ps root k l x at_) ?_ hA ?_
  ·intro E hG hE;subst hG
   have zx:((x:Int)≥0)=True:=eq_true (by omega);simp only[mO];(repeat' (first |refine A0 ?_ |refine A6 ?_ |((refine rR (fun K kp hK hkp=>?_));simp(implicitDefEqProofs:=false) (maxSteps:=2000000) (disch:=omega) only[go_sem,zx];(repeat' (refine hK _ ?_;clear hK hkp kp K))) |refine A3 rfl ?_));refine⟨_,⟨rfl,rfl⟩,?_⟩;(refine AE hE [] rfl ?_ ?_<;>simp[AU,AO,lk,ren,renL,A9,AL,mO]<;>(try omega))
  rintro e m1 a2 w2 z2 ⟨rfl,rfl⟩ hA2 s2;dsimp only[TI,Exit.then];refine wp_block ?_;refine wp_seq ?_;refine Ud (AQ:=fun e m1=>e= .normal∧m1=mI t u ps root k l p x at_) ?_ hA2 ?_
  ·intro E hG hE;subst hG
   simp only[mO];(repeat' ((refine rR (fun K kp hK hkp=>?_));simp(implicitDefEqProofs:=false) (maxSteps:=2000000) (disch:=omega) only[go_sem,hpx,eP];(repeat' (refine hK _ ?_;clear hK hkp kp K))));refine⟨_,⟨rfl,rfl⟩,?_⟩;refine Emb.trans (PL 7 0 rfl rfl rfl) ?_;simp only[rm,↓reduceIte];(refine AE hE [] rfl ?_ ?_<;>simp[AU,AO,lk,ren,renL,A9,AL,mI,mO]<;>(try omega))
  rintro e m1 a3 w3 z3 ⟨rfl,rfl⟩ hA3 s3;dsimp only[TI,Exit.then];refine wp_seq ?_;refine wp_block ?_;refine N1 (fun(j:Nat) a w=> ∃pre z',(∀t b,z t b→z' t b)∧At G (f145).ntmps (mI t u ps root k l p x j) z' a w∧J pre w z'∧pre++Dt ps LV q j=Dt ps LV q0 at0) (fun j=>p.keys.length - j) at_
   ⟨pre,z3,fun t b hb=>s3.sub t b (s2.sub t b (hzs t b hb)),hA3,Y.grow _ _ _ _ _ (Y.grow _ _ _ _ _ hJ s2) s3,hrem⟩ ?_
  clear hA hA2 hA3 hJ hrem hzs s1 s2 s3 hA1;rintro j a w ⟨pre,z',hzs,hA,hJ,hrem⟩
  by_cases hj:j<p.keys.length
  ·obtain⟨key,hkey⟩: ∃key,p.keys[j]?=some key:=⟨_,List.getElem?_eq_getElem hj⟩
   obtain⟨row,hrow⟩: ∃row,p.kids[j]?=some row:=⟨_,List.getElem?_eq_getElem (by omega)⟩
   have hee:(CS ps x)[j]?=some (key,row):=by rw[hent];exact List.getElem?_zip_eq_some.2 ⟨hkey,hrow⟩
   have hst:=Qi hx hee;refine wp_seq ?_;refine Ud (AQ:=fun e m1=>e= .normal∧m1=mI t u ps root k l p x j) ?_ hA ?_
   ·intro E hG hE;subst hG
    have zj:((j:Int)<(p.keys.length:Int))=True:=eq_true (by omega);simp only[mI,mO];(repeat' (first |refine A0 ?_ |refine A6 ?_ |((refine rR (fun K kp hK hkp=>?_));simp(implicitDefEqProofs:=false) (maxSteps:=2000000) (disch:=omega) only[go_sem,zj];(repeat' (refine hK _ ?_;clear hK hkp kp K))) |refine A3 rfl ?_));refine⟨_,⟨rfl,rfl⟩,?_⟩;(refine AE hE [] rfl ?_ ?_<;>simp[AU,AO,lk,ren,renL,A9,AL,mI,mO]<;>(try omega))
   rintro e m1 a2 w2 z2 ⟨rfl,rfl⟩ hA2 s2;dsimp only[TI,Exit.then];refine wp_seq ?_;refine wp_block ?_;refine wp_seq ?_;refine RX (k:=kk) (KM:=fun m1=>m1=(41,.agg (E8 (key,row)))::(29,.r (.func (.yield l) #[] #[]))::mI t u ps root k l p x j) mixed 13 [0,1,2,3,4,5,7,8,9,10,11,6,12] hA2 ?_ ?_ (by kernel_rfl) (by kernel_rfl) (by kernel_rfl) (by kernel_rfl) (by simp only[go_sem];rfl) (by simp only[go_sem];rfl) (by simp only[go_sem];rfl) ?_ ?_
   ·rintro⟨a,w,h⟩;exact hO ⟨a,w,h⟩
   ·exact fun c a w h=>hP c a w h
   ·intro E hG hE K kp hK hkp;subst hG
    have hne:=E1 hok (List.mem_of_getElem? hkey);have hlk:=o4 key (List.mem_of_getElem? hkey)
    cases key with
    |nil=>exact absurd rfl hne
    |cons b kr=>
    have hc:=Ks E.G true b kr (by simp only[List.length_cons] at hlk;omega);simp only[mI,mO];(simp(implicitDefEqProofs:=false) (maxSteps:=2000000) (disch:=omega) only[go_sem,hkey,hrow,Aj,eI];(repeat' (omega)));refine cD hc ?_;(simp(implicitDefEqProofs:=false) (maxSteps:=2000000) (disch:=omega) only[go_sem,hkey,hrow,Aj,eI];(repeat' (refine hK _ ?_;clear hK hkp kp K)));refine⟨_,⟨rfl,rfl⟩,?_⟩;(refine AE hE [] rfl ?_ ?_<;>simp[AU,AO,lk,ren,renL,A9,AL,mI,mO,E8]<;>(try omega))
   rintro m1 a4 w4 z4 rfl hA4 s4;refine⟨l,(hA4.slot (i:=29) rfl).r_inv,?_⟩;have hJ4:=Y.grow _ _ _ _ _ (Y.grow _ _ _ _ _ hJ s2) s4;obtain⟨fn,tmps,assign,body,hy,hRr⟩:=Y.call pre (key,row) _ w4 z4 ⟨Dt ps LV q (j+1),by rw[←hrem,hst];simp⟩ hJ4 hA4.zlt (hA4.slot (i:=41) rfl);refine⟨fn,tmps,assign,body,hy,hRr.mono ?_⟩;clear hy hRr;rintro e w5 ⟨⟨hsz,hsame⟩,(⟨rfl,hJ5⟩ |⟨rfl,hJ5⟩)⟩
   ·refine⟨_,rfl,?_⟩
    have hA5:=(hA4.turn hsz hsame).putb 42 (of_decide_eq_true (by kernel_rfl)) (.bool true);refine Po (KM:=fun m1=>m1=(43,.r (.bool false))::mI t u ps root k l p x j) hA5 ?_ ?_ (by kernel_rfl) ?_ ?_
    ·rintro⟨a,w,h⟩;exact hO ⟨a,w,h⟩
    ·intro o ho i hi
     simp only[List.mem_singleton] at ho;subst ho;cases hi;exact of_decide_eq_true (by kernel_rfl)
    ·intro E hG hE K kp hK hkp;subst hG
     simp only[mI,mO];(simp(implicitDefEqProofs:=false) (maxSteps:=2000000) (disch:=omega) only[go_sem];(repeat' (refine hK _ ?_;clear hK hkp kp K)));refine⟨_,⟨rfl,rfl⟩,?_⟩;(refine AE hE [] rfl ?_ ?_<;>simp[AU,AO,lk,ren,renL,A9,AL,mI,mO]<;>(try omega))
    rintro m1 a6 w6 z6 rfl hA6 s6;dsimp only[Exit.then];refine wp_cond_false ((hA6.slot (i:=43) rfl).r_inv) (wp_skip ?_);dsimp only[Exit.inBlock,Exit.then];refine Ud (AQ:=fun e m1=>e= .normal∧m1=mI t u ps root k l p x (j+1)) ?_ hA6 ?_
    ·intro E hG hE;subst hG
     simp only[mI,mO];(repeat' ((refine rR (fun K kp hK hkp=>?_));simp(implicitDefEqProofs:=false) (maxSteps:=2000000) (disch:=omega) only[go_sem];(repeat' (refine hK _ ?_;clear hK hkp kp K))));refine⟨_,⟨rfl,rfl⟩,?_⟩;(refine AE hE [] rfl ?_ ?_<;>simp[AU,AO,lk,ren,renL,A9,AL,mI,mO]<;>(try omega))
    rintro e m1 a7 w7 z7 ⟨rfl,rfl⟩ hA7 s7;dsimp only[TI,Exit.then];refine⟨j+1,by omega,pre++[(key,row)],z7,fun t b hb=>s7.sub t b (s6.sub t b (s4.sub t b (s2.sub t b (hzs t b hb)))),hA7,Y.grow _ _ _ _ _ (Y.grow _ _ _ _ _ hJ5 s6) s7,?_⟩;rw[hst] at hrem;rw[←hrem];simp
   ·refine⟨_,rfl,?_⟩
    have hA5:=(hA4.turn hsz hsame).putb 42 (of_decide_eq_true (by kernel_rfl)) (.bool false);refine Po (KM:=fun m1=>m1=(43,.r (.bool true))::mI t u ps root k l p x j) hA5 ?_ ?_ (by kernel_rfl) ?_ ?_
    ·rintro⟨a,w,h⟩;exact hO ⟨a,w,h⟩
    ·intro o ho i hi
     simp only[List.mem_singleton] at ho;subst ho;cases hi;exact of_decide_eq_true (by kernel_rfl)
    ·intro E hG hE K kp hK hkp;subst hG
     simp only[mI,mO];(simp(implicitDefEqProofs:=false) (maxSteps:=2000000) (disch:=omega) only[go_sem];(repeat' (refine hK _ ?_;clear hK hkp kp K)));refine⟨_,⟨rfl,rfl⟩,?_⟩;(refine AE hE [] rfl ?_ ?_<;>simp[AU,AO,lk,ren,renL,A9,AL,mI,mO]<;>(try omega))
    rintro m1 a6 w6 z6 rfl hA6 s6;dsimp only[Exit.then];refine wp_cond_true ((hA6.slot (i:=43) rfl).r_inv) (wp_ret ?_);dsimp only[Exit.inBlock,Exit.then];refine bodyPost_ret (results_none rfl _ _ _) hA6.dfs ?_;rw[hR];refine⟨⟨_,rfl⟩,z6,fun t b hb=>s6.sub t b (s4.sub t b (s2.sub t b (hzs t b hb))),.inr ⟨pre++[(key,row)],⟨Dt ps LV q (j+1),?_⟩,Y.growx _ _ _ _ _ hJ5 s6⟩⟩;rw[hst] at hrem;rw[←hrem];simp
  ·refine wp_seq ?_
   refine Ud (AQ:=fun e m1=>e= .exit 2∧m1=mI t u ps root k l p x j) ?_ hA ?_
   ·intro E hG hE;subst hG
    have zj:((j:Int)<(p.keys.length:Int))=False:=eq_false (by omega);simp only[mI,mO];(repeat' (first |refine A0 ?_ |refine AB ?_ |((refine rR (fun K kp hK hkp=>?_));simp(implicitDefEqProofs:=false) (maxSteps:=2000000) (disch:=omega) only[go_sem,zj];(repeat' (refine hK _ ?_;clear hK hkp kp K))) |refine A4 rfl ?_));refine⟨_,⟨rfl,rfl⟩,?_⟩;(refine AE hE [] rfl ?_ ?_<;>simp[AU,AO,lk,ren,renL,A9,AL,mI,mO]<;>(try omega))
   rintro e m1 a2 w2 z2 ⟨rfl,rfl⟩ hA2 s2;dsimp only[TI,Exit.then,Exit.inBlock];simp only[if_true,↓reduceIte];refine Ud (AQ:=fun e m1=>e= .normal∧m1=mO t u ps root k l (DL LV (q+1)) 0) ?_ hA2 ?_
   ·intro E hG hE;subst hG
    simp only[mI,mO];(repeat' ((refine rR (fun K kp hK hkp=>?_));simp(implicitDefEqProofs:=false) (maxSteps:=2000000) (disch:=omega) only[go_sem];(repeat' (refine hK _ ?_;clear hK hkp kp K))));refine⟨_,⟨rfl,rfl⟩,?_⟩;(refine AE hE [] rfl ?_ ?_<;>simp[AU,AO,lk,ren,renL,A9,AL,mI,mO,hle2]<;>(try omega))
   rintro e m1 a3 w3 z3 ⟨rfl,rfl⟩ hA3 s3;dsimp only[TI,Exit.then,Exit.inBlock];refine⟨(q+1,0),by dsimp only;omega,pre,z3,fun t b hb=>s3.sub t b (s2.sub t b (hzs t b hb)),hA3,Y.grow _ _ _ _ _ (Y.grow _ _ _ _ _ hJ s2) s3,?_⟩;rw[←Qj (at_:=j) hx (by rw[hent,List.length_zip];omega)];exact hrem
 ·have hle:DL LV q= -1:=by rw[DL,List.getElem?_eq_none (by omega)]
  rw[hle] at hA;rw[S5 (by omega),List.append_nil] at hrem;refine wp_seq ?_;refine Ud (AQ:=fun e m1=>e= .exit 0∧m1=mO t u ps root k l (-1) at_) ?_ hA ?_
  ·intro E hG hE;subst hG
   simp only[mO];(repeat' (first |refine A0 ?_ |refine AB ?_ |((refine rR (fun K kp hK hkp=>?_));simp(implicitDefEqProofs:=false) (maxSteps:=2000000) (disch:=omega) only[go_sem];(repeat' (refine hK _ ?_;clear hK hkp kp K))) |refine A4 rfl ?_));refine⟨_,⟨rfl,rfl⟩,?_⟩;(refine AE hE [] rfl ?_ ?_<;>simp[AU,AO,lk,ren,renL,A9,AL,mO]<;>(try omega))
  rintro e m1 a2 w2 z2 ⟨rfl,rfl⟩ hA2 s2;dsimp only[TI,Exit.then,Exit.inBlock];simp only[if_true,↓reduceIte];refine bodyPost_end (results_none rfl _ _ _) hA2.dfs ?_;rw[hR];exact⟨⟨_,rfl⟩,z2,fun t b hb=>s2.sub t b (hzs t b hb),.inl (by rw[←hrem];exact Y.grow _ _ _ _ _ hJ s2)⟩
end Go.AM
namespace Go.AM
open Go Go.RowKit
attribute [local irreducible] AWP Aw
def EB (m:Ky)(e:Et):Bool:=decide (0<m.length)&&B4 m e.1
def VU (m:Ky)(l:List Et):Prop:= ∀e ∈ l,EB m e=false
def Xt (m:Ky)(l:List Et):Prop:= ∃l' e,l=l'++[e]∧VU m l'∧EB m e=true
theorem TW {m:Ky}{l:List Et}(h:VU m l):l.takeWhile (fun e=> !EB m e)=l:=by
 induction l with
 |nil=>rfl
 |cons x r ih=>rw[List.takeWhile_cons,h x (by simp),ih fun e he=>h e (by simp[he])];rfl
theorem Rj {m:Ky}{l all:List Et}(h:Xt m l)(hp:l <+: all):all.takeWhile (fun e=> !EB m e)=l.dropLast:=by
 obtain⟨l',e,rfl,hk,hs⟩:=h;obtain⟨r,rfl⟩:=hp;rw[List.dropLast_concat]
 induction l' with
 |nil=>simp[hs]
 |cons x q ih=>
  have h1:=hk x (by simp);have h2:=ih (fun e he=>hk e (by simp[he]));simp only[List.cons_append,List.takeWhile_cons,h1,Bool.not_false,if_true];rw[h2]
section
variable {ps:List PG} {r d:Nat}
theorem Tv (h:Trd ps r d)(k:Ky): ∃q,q<(CB ps d [r]).length∧DL (CB ps d [r]) q=BH ps k d r∧Dt ps (CB ps d [r]) q (AN (pg ps (BH ps k d r)) k)=(BC ps d r).filter (fun e=> !B4 e.1 k):=by
 obtain⟨A,B,e,hA,hB,lo,hi,hgl,_⟩:=Ex h.ok k d r [] [] h.good (.inl rfl)
 have hx:(CB ps d [r])[A.length]?=some (BH ps k d r):=by rw[e];simp
 refine⟨A.length,(List.getElem?_eq_some_iff.1 hx).1,by rw[DL,hx],?_⟩;have hl:=h.leaf k;have hok:=HB h.ok hl;have hlf:=hgl.1;rw[JP hx,BC,e];generalize BH ps k d r=x at *
 have hpl:AN (pg ps x) k=Ba k (pg ps x).keys:=if_neg fun h=>by rw[hlf] at h;cases h.1
 rw[hpl,List.flatMap_append,List.flatMap_cons,List.filter_append,List.filter_append]
 have e1:(A.flatMap (CS ps)).filter (fun e=> !B4 e.1 k)=[]:=by
  rw[List.filter_eq_nil_iff];intro e he;obtain⟨y,hy,he⟩:=List.mem_flatMap.1 he;rw[hA y hy e.1 (G1 he)];simp
 have e2:(B.flatMap (CS ps)).filter (fun e=> !B4 e.1 k)=B.flatMap (CS ps):=by
  rw[List.filter_eq_self];intro e he;obtain⟨y,hy,he⟩:=List.mem_flatMap.1 he;rw[EW (hB y hy e.1 (G1 he))];rfl
 have e3:(CS ps x).filter (fun e=> !B4 e.1 k)=(CS ps x).drop (Ba k (pg ps x).keys):=by
  have hs:=Bl hok;rw[CS];generalize (pg ps x).kids=is;generalize (pg ps x).keys=ks at hs;clear hx e hA hB hpl e1 e2 hlf hgl hok
  induction ks generalizing is with
  |nil=>simp
  |cons y ks ih=>
   have hs':LQ ks:=fun i j a b hij ha hb=>hs (i+1) (j+1) a b (by omega) (by simpa using ha) (by simpa using hb)
   cases is with
   |nil=>simp
   |cons n is=>
    rw[List.zip_cons_cons,List.filter_cons,Ba]
    by_cases hy:B4 y k=true
    ·rw[if_pos hy]
     simp only[hy,Bool.not_true,Bool.false_eq_true,if_false,List.drop_succ_cons];exact ih is hs'
    ·rw[if_neg hy]
     have hy:B4 y k=false:=by simpa using hy
     simp only[hy,Bool.not_false,if_true,List.drop_zero]
     congr 1
     rw[List.filter_eq_self];intro e he;have h1:=(List.of_mem_zip he).1;obtain⟨j,hj⟩:=List.mem_iff_getElem?.1 h1;have h2:=hs 0 (j+1) y e.1 (by omega) rfl (by simpa using hj);cases h3:B4 e.1 k
     ·rfl
     ·rw[BU h2 h3] at hy;cases hy
 rw[e1,e2,e3,show A++x::B=(A++[x])++B by simp,List.drop_left' (by simp)]
 rfl
end
set_option maxHeartbeats 8000000 in
theorem QY (G:List (Nat×List Value))(v:Bool){ps:List PG}{r d:Nat}(h:Trd ps r d)(ho:BG ps)(hc:ChkOK ps r)(k m:Ky)(hk:k.length≤100)(hm:m.length≤100):
  Con prog G 41 [.agg [.ro true 5 (ps.map eP),.r (.int .i64 r)],.ro true 1 (k.map AC),.ro v 1 (m.map AC)] [] 0 (Is (.tup [.ro true 2 ((((BC ps d r).filter (fun e=> !B4 e.1 k)).takeWhile (fun e=> !EB m e)).map E8),.r (.int .i64 0)]) [] 0) No:=by
 obtain⟨q0,hq0,hq1,hq2⟩:=Tv h k;have hL:=XG h
 have fc: ∀G,Con prog G 101 [.agg [.ro true 5 (ps.map eP),.r (.int .i64 r)],.ro true 1 (k.map AC)] [] 0 (Is (.tup [.r (.int .i64 (DL (CB ps d [r]) q0)),.r (.int .i64 (AN (pg ps (BH ps k d r)) k)),.r (.bool (Bu (pg ps (BH ps k d r)) k))]) [] 0) No:=fun G=>by
  rw[hq1];exact Fz G true true ps r d k h.ok h.kin h.good h.rl h.n h.dl
 have hlen:((BC ps d r).filter (fun e=> !B4 e.1 k)).length≤16000:=by
  have h1:=Dk h.ok (CB ps d [r]);have h2:=h.many;have h3:=List.length_filter_le (fun e:Et=> !B4 e.1 k) (BC ps d r);rw[BC] at h3 ⊢;omega
 rw[←hq2] at hlen ⊢;generalize hall:Dt ps (CB ps d [r]) q0 (AN (pg ps (BH ps k d r)) k)=all at *;refine⟨by kernel_rfl,fun w0 th z0 own vs hown hmem hr=>?_⟩;have hth:th=[]:=List.length_eq_zero_iff.1 hmem.len;subst hth;have hz0:=hmem.zlt;have hG0:=hmem.globs;have hA0:=OL (G:=G) (N:=(f41).ntmps) hz0 hG0 hr (of_decide_eq_true (by kernel_rfl));refine(callsIn_wide (n:=9)).1 (callsIn_of_wp_marks func41 rfl trivial ((wpIn_wide).2 ?_));generalize ({tmps:=_,defers:=[]}:Act)=a0 at hA0 ⊢;obtain⟨E,hEq⟩: ∃E:Env,E=⟨w0,fun _=>False,z0,G,[],[]⟩:=⟨_,rfl⟩
 have hE:E.th0.length=0:=by rw[hEq];rfl
 have hGE:E.G=G:=by rw[hEq]
 unfold At at hA0;rw[←hEq] at hA0;have cc:=F9 E.G ps r (Fs ho);rw[Ms hc] at cc;have ec:=Sq E.G true true ps r k;have g1:((k.length:Int)>100)=False:=eq_false (by omega);have g2:((m.length:Int)>100)=False:=eq_false (by omega);refine wp_seq ?_;refine Og (S1:=⟨[(5,.p 1 0 0),(3,.p 0 0 0),(1,.ro true 1 (k.map AC))],[(0,.box 33 [.ro true 5 (ps.map eP),.r (.int .i64 r)]),(1,.box 81 [.ro v 1 (m.map AC)])],2⟩) ?_ hA0 ?_
 ·simp only[B9]
  (repeat' ((refine rR (fun K kp hK hkp=>?_));simp(implicitDefEqProofs:=false) (maxSteps:=2000000) (disch:=omega) only[go_sem];(repeat' (refine hK _ ?_;clear hK hkp kp K))));show Emb E _ _ _;(refine AE hE [0,1] rfl ?_ ?_<;>simp[AU,AO,lk,ren,renL,A9,AL]<;>(try omega))
 intro th1 z1 a1 w1 hs1;refine wp_seq ?_;refine Og (S1:=⟨[(5,.p 1 0 0),(3,.p 0 0 0),(1,.ro true 1 (k.map AC))],[(0,.box 33 [.ro true 5 (ps.map eP),.r (.int .i64 r)]),(1,.box 81 [.ro v 1 (m.map AC)])],2⟩) ?_ hs1 ?_
 ·(repeat' (first |refine A0 ?_ |refine A6 ?_ |((first |refine rR (fun K kp hK hkp=>?_) |refine cR cc ?_);simp(implicitDefEqProofs:=false) (maxSteps:=2000000) (disch:=omega) only[go_sem,bne_self_eq_false];(repeat' (refine hK _ ?_;clear hK hkp kp K))) |refine A4 rfl ?_))
  show Emb E _ _ _;(refine AE hE [0,1] rfl ?_ ?_<;>simp[AU,AO,lk,ren,renL,A9,AL]<;>(try omega))
 intro th2 z2 a2 w2 hs2;refine wp_seq ?_;refine Og (S1:=⟨[(5,.p 1 0 0),(3,.p 0 0 0),(1,.ro true 1 (k.map AC))],[(0,.box 33 [.ro true 5 (ps.map eP),.r (.int .i64 r)]),(1,.box 81 [.ro v 1 (m.map AC)])],2⟩) ?_ hs2 ?_
 ·(repeat' (first |refine A0 ?_ |refine A6 ?_ |((refine rR (fun K kp hK hkp=>?_));simp(implicitDefEqProofs:=false) (maxSteps:=2000000) (disch:=omega) only[go_sem,g1,g2];(repeat' (refine hK _ ?_;clear hK hkp kp K))) |refine A4 rfl ?_))
  show Emb E _ _ _;(refine AE hE [0,1] rfl ?_ ?_<;>simp[AU,AO,lk,ren,renL,A9,AL]<;>(try omega))
 intro th3 z3 a3 w3 hs3;refine wp_seq ?_;refine Og (S1:=⟨[(9,.p 2 0 0),(5,.p 1 0 0),(3,.p 0 0 0),(1,.ro true 1 (k.map AC))],[(0,.box 33 [.ro true 5 (ps.map eP),.r (.int .i64 r)]),(1,.box 81 [.ro v 1 (m.map AC)]),(2,.box 78 [.s 3 0 0]),(3,.lst 83 2 [])],4⟩) ?_ hs3 ?_
 ·(repeat' ((refine rR (fun K kp hK hkp=>?_));simp(implicitDefEqProofs:=false) (maxSteps:=2000000) (disch:=omega) only[go_sem];(repeat' (refine hK _ ?_;clear hK hkp kp K))))
  show Emb E _ _ _;refine Emb.trans (BD 2 0 83 2 rfl rfl (by simp)) ?_;simp only[List.set_cons_zero,List.set_cons_succ,lk,↓reduceIte,Nat.reduceAdd];(refine AE hE [0,1,2,3] rfl ?_ ?_<;>simp[AU,AO,lk,ren,renL,A9,AL]<;>(try omega))
 intro th4 z4 a4 w4 hs4;refine wp_seq ?_;refine wp_seq ?_;refine Og (S1:=⟨[(26,Ko true true ps r k),(9,.p 2 0 0),(5,.p 1 0 0),(3,.p 0 0 0),(1,.ro true 1 (k.map AC))],[(0,.box 33 [.ro true 5 (ps.map eP),.r (.int .i64 r)]),(1,.box 81 [.ro v 1 (m.map AC)]),(2,.box 78 [.s 3 0 0]),(3,.lst 83 2 [])],4⟩) ?_ hs4 ?_
 ·simp only[Ko] at ec
  (repeat' ((first |refine rR (fun K kp hK hkp=>?_) |refine cR ec ?_);simp(implicitDefEqProofs:=false) (maxSteps:=2000000) (disch:=omega) only[go_sem];(repeat' (refine hK _ ?_;clear hK hkp kp K))));show Emb E _ _ _;(refine AE hE [0,1,2,3] rfl ?_ ?_<;>simp[AU,AO,lk,ren,renL,A9,AL,Ko]<;>(try omega))
 intro th5 z5 a5 w5 hs5;refine wp_block ?_;rw[hEq] at hs5;clear hs1 hs2 hs3 hs4 hA0 cc ec;obtain⟨y,hy,hry⟩:=hs5.slots 26 _ rfl;unfold Ko at hry
 cases hry with
 |fn _ _ _ ys hl hx=>
 have hr2:Reps w5 z5 th5 [.re true [.ro true 5 (ps.map eP),.r (.int .i64 r)] 0,.re true [.ro true 1 (k.map AC)] 0] ys:=⟨hl,hx⟩;obtain⟨pT,qT,rfl,r1,r2⟩:=hr2.head;obtain⟨pK,qK,rfl,r3,r4⟩:=r2.head;obtain rfl:=r4.of_nil;have r1:=Rep.unpure rfl r1;have r3:=Rep.unpure rfl r3;have hlen5:th5.length=4:=hs5.mem.len
 have hl3:(th5.take 3).length=3:=by rw[List.length_take];omega
 have hS05:Since w0 z0 w5 z5:=Ch hs5.mem;refine RY (G:=G) (N:=(f41).ntmps) (kk:=7) (w0:=w0) (z0:=z0) (zc:=z5) (th0:=th5.take 3) (th:=th5) (m:=[(9,.p 2 0 0),(5,.p 1 0 0)]) (eA:=fun x:Et=> .agg (E8 x)) (all:=all) (gf:=145) (lb:= #[pT,pK])
  (fun pre=>[(0,.box 33 [.ro true 5 (ps.map eP),.r (.int .i64 r)]),(1,.box 81 [.ro v 1 (m.map AC)]),(2,.box 78 [.s 3 0 pre.length]),(3,.lst 83 2 (pre.map E8))]) 4
  (fun pre x=>⟨[(10,.p 4 0 0),(9,.p 2 0 0),(5,.p 1 0 0)],[(0,.box 33 [.ro true 5 (ps.map eP),.r (.int .i64 r)]),(1,.box 81 [.ro v 1 (m.map AC)]),(2,.box 78 [.s 3 0 pre.length]),(3,.lst 83 2 (pre.map E8)),(4,.box 83 (E8 x))],5⟩)
  (fun _ pre=>[(0,.box 33 [.ro true 5 (ps.map eP),.r (.int .i64 r)]),(1,.box 81 [.ro v 1 (m.map AC)]),(2,.box 78 [.s 3 0 pre.dropLast.length]),(3,.lst 83 2 (pre.dropLast.map E8))]) 4
  (fun pre=>VU m pre) (fun e pre=>e= .exit 0∧Xt m pre) (fun _=>rfl) (fun _ _=>rfl) (fun _ _=>rfl) (fun v pre h=>(by cases h.1)) ?hok hs5.mem ?hsl ?hth hs5.size hs5.dfs ?hg (by kernel_rfl) (of_decide_eq_true (by kernel_rfl)) rfl ?hit ?hassign ?hbody ?hdone ?hstop
 case hok=>exact fun e he=>(by cases he)
 case hsl=>
  intro i x hi;simp only[lk] at hi;split at hi
  ·rename_i e;subst e;cases hi
   obtain⟨y,hy,hr⟩:=hs5.slots 9 _ rfl;refine⟨y,hy,?_⟩
   cases hr with
   |p _ _ _ _ L hL=>exact .p _ _ _ _ L (by rw[List.getElem?_take_of_lt (by omega)];exact hL)
  ·split at hi
   ·rename_i e;subst e;cases hi
    obtain⟨y,hy,hr⟩:=hs5.slots 5 _ rfl;refine⟨y,hy,?_⟩
    cases hr with
    |p _ _ _ _ L hL=>exact .p _ _ _ _ L (by rw[List.getElem?_take_of_lt (by omega)];exact hL)
   ·cases hi
 case hth=>
  intro i L hi;have h1:=(List.getElem?_eq_some_iff.1 hi).1;rw[List.getElem?_take_of_lt (by omega)] at hi;exact hi
 case hg=>simp only[Act.eval,Array.getD_eq_getD_getElem?,hy,Option.getD_some]
 case hit=>
  intro J Jx W z Y hzlt hS hJ;rw[←hall] at Y
  have he:=RE (G:=G) hL ho h.ok fc Y W z hzlt (fun g cs hg=>by
   obtain⟨h1,h2⟩:=hG0 g cs hg;have h3:=hS05.trans hS
   exact⟨h3.sub _ _ h1,fun j v hv=>(B7 (h3.ext.same g (hz0 _ _ h1)) j).trans (h2 j v hv)⟩) pT pK
   (.cons (r1.on' ⟨hS.sub,fun t b hb=>hS.ext.same b (hs5.mem.zlt t b hb)⟩) (.cons (r3.on' ⟨hS.sub,fun t b hb=>hS.ext.same b (hs5.mem.zlt t b hb)⟩) .nil)) hJ
  rw[hall] at he;simpa using he
 case hassign=>
  intro E pre x hpx hk hG hE;rw[hl3] at hE;refine FE (fun K kp hK hkp=>?_);(simp(implicitDefEqProofs:=false) (maxSteps:=2000000) (disch:=omega) only[go_sem,E8];(repeat' (first |(refine hK _ ?_;clear hK hkp kp K) |(with_reducible refine And.intro ?_ ?_))))
  ·rfl
  ·(refine AE hE [0,1,2,3,4] rfl ?_ ?_<;>simp[AU,AO,lk,ren,renL,A9,AL,E8]<;>(try omega))
 case hbody=>
  intro E pre x hpx hk hG hE;rw[hl3] at hE
  have hpl:pre.length+1≤16000:=by
   have:=hpx.length_le;simp only[List.length_append,List.length_cons,List.length_nil] at this;omega
  have hbc:=Ct E.G true v x.1 m;refine RP ?_;refine QK ?_;refine QK ?_;refine FE (fun K kp hK hkp=>?_)
  by_cases hm0:0<m.length
  ·have z0:((m.length:Int)>0)=True:=eq_true (by omega)
   cases hlt:B4 m x.1
   ·have hst:EB m x=false:=by simp[EB,hlt]
    (simp(implicitDefEqProofs:=false) (maxSteps:=2000000) (disch:=omega) only[go_sem,E8,z0];(repeat' (omega)));refine cR hbc ?_;(simp(implicitDefEqProofs:=false) (maxSteps:=2000000) (disch:=omega) only[go_sem,E8,z0,QB,hlt];(repeat' (refine hK _ ?_;clear hK hkp kp K)));refine Kz rfl ?_;refine OJ ?_;refine FE (fun K kp hK hkp=>?_);(simp(implicitDefEqProofs:=false) (maxSteps:=2000000) (disch:=omega) only[go_sem,E8];(repeat' (first |(refine hK _ ?_;clear hK hkp kp K) |(with_reducible refine And.intro ?_ ?_) |omega)));refine Or.inl ⟨rfl,?_,?_⟩
    ·intro e he
     rcases List.mem_append.1 he with he |he
     ·exact hk e he
     ·rw[List.mem_singleton.1 he];exact hst
    ·(refine AE hE [0,1,2,6] rfl ?_ ?_<;>simp[AU,AO,lk,ren,renL,A9,AL,E8]<;>(try omega))
   ·have hst:EB m x=true:=by simp[EB,hlt,hm0]
    (simp(implicitDefEqProofs:=false) (maxSteps:=2000000) (disch:=omega) only[go_sem,E8,z0];(repeat' (omega)));refine cR hbc ?_;(simp(implicitDefEqProofs:=false) (maxSteps:=2000000) (disch:=omega) only[go_sem,E8,z0,QB,hlt];(repeat' (refine hK _ ?_;clear hK hkp kp K)));refine Pd rfl ?_;refine T8 ?_;refine Or.inr ⟨by simp,⟨rfl,pre,x,rfl,hk,hst⟩,?_⟩;(refine AE hE [0,1,2,3] rfl ?_ ?_<;>simp[AU,AO,lk,ren,renL,A9,AL,E8]<;>(try omega))
  ·have z0:((m.length:Int)>0)=False:=eq_false (by omega)
   have hst:EB m x=false:=by simp[EB,hm0]
   (simp(implicitDefEqProofs:=false) (maxSteps:=2000000) (disch:=omega) only[go_sem,E8,z0];(repeat' (refine hK _ ?_;clear hK hkp kp K)));refine Kz rfl ?_;refine OJ ?_;refine FE (fun K kp hK hkp=>?_);(simp(implicitDefEqProofs:=false) (maxSteps:=2000000) (disch:=omega) only[go_sem,E8];(repeat' (first |(refine hK _ ?_;clear hK hkp kp K) |(with_reducible refine And.intro ?_ ?_) |omega)));refine Or.inl ⟨rfl,?_,?_⟩
   ·intro e he
    rcases List.mem_append.1 he with he |he
    ·exact hk e he
    ·rw[List.mem_singleton.1 he];exact hst
   ·(refine AE hE [0,1,2,6] rfl ?_ ?_<;>simp[AU,AO,lk,ren,renL,A9,AL,E8]<;>(try omega))
 case hdone=>
  intro W z' hk hJ hd;have hres:=TW hk;dsimp only[Exit.inBlock,Exit.then];rw[hres];obtain⟨th6,z6,hs6,hb6,hD6⟩:=hJ.sim hs5.size;have hE:(YS w5.heap.size w0 G (th5.take 3) W z6).th0.length=3:=hl3;refine wp_seq ?_;refine Og (S1:=⟨[(7,.r (.int .i64 0)),(6,.s 3 0 (all).length)],[(0,.box 33 [.ro true 5 (ps.map eP),.r (.int .i64 r)]),(1,.box 81 [.ro v 1 (m.map AC)]),(2,.box 78 [.s 3 0 (all).length]),(3,.lst 83 2 ((all).map E8))],4⟩) ?_ hs6 ?_
  ·(repeat' ((refine rR (fun K kp hK hkp=>?_));simp(implicitDefEqProofs:=false) (maxSteps:=2000000) (disch:=omega) only[go_sem];(repeat' (refine hK _ ?_;clear hK hkp kp K))))
   show Emb _ _ _ _;(refine AE hE [0,1,2,3] rfl ?_ ?_<;>simp[AU,AO,lk,ren,renL,A9,AL]<;>(try omega))
  intro th7 z7 a7 w7 hs7;refine wp_ret ?_;refine L_ hs7 rfl hb6 hS05.ext.size hD6 hd hG0 hz0 ?_;intro E hE;refine⟨_,rfl,?_⟩;refine Ar (by simp only[AG];simp(implicitDefEqProofs:=false) (maxSteps:=2000000) (disch:=omega) only[go_sem];rfl) ?_;refine(Al hE (by simp) ?_).s;simp[AG,ren,renL]
 case hstop=>
  intro e pre W z' hpre hX hJ hd;obtain⟨rfl,hcut⟩:=hX;have hres:=Rj hcut hpre;refine wp_exit ?_;dsimp only[Exit.inBlock,Exit.then];rw[if_pos rfl];rw[hres];obtain⟨th6,z6,hs6,hb6,hD6⟩:=hJ.sim hs5.size;have hE:(YS w5.heap.size w0 G (th5.take 3) W z6).th0.length=3:=hl3;refine wp_seq ?_;refine Og (S1:=⟨[(7,.r (.int .i64 0)),(6,.s 3 0 (pre.dropLast).length)],[(0,.box 33 [.ro true 5 (ps.map eP),.r (.int .i64 r)]),(1,.box 81 [.ro v 1 (m.map AC)]),(2,.box 78 [.s 3 0 (pre.dropLast).length]),(3,.lst 83 2 ((pre.dropLast).map E8))],4⟩) ?_ hs6 ?_
  ·(repeat' ((refine rR (fun K kp hK hkp=>?_));simp(implicitDefEqProofs:=false) (maxSteps:=2000000) (disch:=omega) only[go_sem];(repeat' (refine hK _ ?_;clear hK hkp kp K))))
   show Emb _ _ _ _;(refine AE hE [0,1,2,3] rfl ?_ ?_<;>simp[AU,AO,lk,ren,renL,A9,AL]<;>(try omega))
  intro th7 z7 a7 w7 hs7;refine wp_ret ?_;refine L_ hs7 rfl hb6 hS05.ext.size hD6 hd hG0 hz0 ?_;intro E hE;refine⟨_,rfl,?_⟩;refine Ar (by simp only[AG];simp(implicitDefEqProofs:=false) (maxSteps:=2000000) (disch:=omega) only[go_sem];rfl) ?_;refine(Al hE (by simp) ?_).s;simp[AG,ren,renL]
end Go.AM
namespace Go.AM
def TF (l:List Et):Prop:=l.Pairwise fun a b=>B4 a.1 b.1=true
theorem Ph: ∀(ks:List Ky)(is:List Int),LQ ks→TF (ks.zip is)
 | [],is,_=>List.Pairwise.nil
 |x::r,[],_=>List.Pairwise.nil
 |x::r,n::s,hs=>by
  have hs':LQ r:=fun i j a b hij ha hb=>hs (i+1) (j+1) a b (by omega) (by simpa using ha) (by simpa using hb);rw[List.zip_cons_cons];refine List.pairwise_cons.2 ⟨fun e he=>?_,Ph r s hs'⟩;obtain⟨j,hj⟩:=List.mem_iff_getElem?.1 (List.of_mem_zip he).1;exact hs 0 (j+1) x e.1 (by omega) rfl (by simpa using hj)
theorem Kh (ps:List PG)(d:Nat): ∀l:List Nat,(CB ps d l).flatMap (CS ps)=l.flatMap (BC ps d)
 | []=>by rw[Da];rfl
 |x::r=>by rw[show x::r=[x]++r from rfl,Bh,List.flatMap_append,Kh ps d r,List.flatMap_append];simp[BC]
theorem Nw {ps:List PG}{d i:Nat}{e:Et}(h:e ∈ BC ps d i): ∃x,x ∈ CB ps d [i]∧e.1 ∈ (pg ps x).keys:=by
 obtain⟨x,hx,he⟩:=List.mem_flatMap.1 h;exact⟨x,hx,G1 he⟩
theorem Kg {ps:List PG}(hp:Bt ps): ∀(d i:Nat)(low high:Ky),CU ps d i low high→TF (BC ps d i)
 |0,i,low,high,h=>by
  rw[BC,show CB ps 0 [i]=[i] from rfl];simp only[List.flatMap_cons,List.flatMap_nil,List.append_nil,CS]
  by_cases hi:i<ps.length
  ·exact Ph _ _ (Bl (HB hp hi))
  ·have:pg ps i=default:=by rw[pg,List.getD_eq_getElem?_getD,List.getElem?_eq_none (by omega)];rfl
   rw[this];exact List.Pairwise.nil
 |d+1,i,low,high,h=>by
  obtain⟨h1,h2,h3,h4⟩:=h;have hok:=Cl hp h1;have hs:=Bl hok;have hkl:=KO hp h1;rw[BC,D_,Kh];refine List.pairwise_flatMap.2 ⟨fun x hx=>?_,?_⟩
  ·obtain⟨m,hm⟩:=List.mem_iff_getElem?.1 hx
   exact Kg hp d x _ _ (h4 m x hm)
  ·rw[List.pairwise_iff_getElem]
   intro a b ha hb hab e he f hf;have ga:=h4 a _ (List.getElem?_eq_getElem ha);have gb:=h4 b _ (List.getElem?_eq_getElem hb);obtain⟨x,hx,he⟩:=Nw he;obtain⟨y,hy,hf⟩:=Nw hf;have b1:=(Cn hp d _ _ _ ga x hx e.1 he).2;have b2:=(Cn hp d _ _ _ gb y hy f.1 hf).1;unfold Db at b1;unfold Eg at b2;rw[if_pos (by omega)] at b1;rw[if_neg (by omega)] at b2;obtain⟨p,hp'⟩: ∃p,(pg ps i).keys[a]?=some p:=⟨_,List.getElem?_eq_getElem (by omega)⟩;obtain⟨q,hq'⟩: ∃q,(pg ps i).keys[b - 1]?=some q:=⟨_,List.getElem?_eq_getElem (by omega)⟩;rw[List.getD_eq_getElem?_getD,hp'] at b1;rw[List.getD_eq_getElem?_getD,hq'] at b2
   have b1:B4 e.1 p=true:=by
    rcases b1 with b1 |b1
    ·exact absurd b1 (E1 hok (List.mem_of_getElem? hp'))
    ·exact b1
   have b2:B4 f.1 q=false:=b2
   have b3:B4 e.1 q=true:=by
    by_cases he:a=b - 1
    ·rw[he,hq'] at hp';cases hp';exact b1
    ·exact BU b1 (hs a (b - 1) p q (by omega) hp' hq')
   exact Cm b3 b2
theorem Id {p:Et→Bool}: ∀ {l:List Et},TF l→(∀a b:Et,B4 a.1 b.1=true→p a=false→p b=false)→l.takeWhile p=l.filter p
 | [],_,_=>rfl
 |x::r,hs,hm=>by
  have hs':=List.pairwise_cons.1 hs;rw[List.takeWhile_cons,List.filter_cons];cases hx:p x
  ·simp only[Bool.false_eq_true,if_false]
   symm
   rw[List.filter_eq_nil_iff];intro e he;rw[hm x e (hs'.1 e he) hx];simp
  ·simp only[if_true]
   rw[Id hs'.2 hm]
end Go.AM
namespace Go.AM
open Go Go.RowKit
attribute [local irreducible] AWP Aw
noncomputable def OM (ps:List PG)(root:Int)(k m:Ky):Int:=if E9 ps root≠0 then E9 ps root else if k.length≤100∧m.length≤100 then 0 else 1
theorem TC {ps:List PG}{root:Int}{k m:Ky}(h:OM ps root k m=0):ChkOK ps root∧k.length≤100∧m.length≤100:=by
 rw[OM] at h
 by_cases hc:ChkOK ps root
 ·rw[Ms hc] at h
  refine⟨hc,?_⟩
  by_cases hl:k.length≤100∧m.length≤100
  ·exact hl
  ·rw[if_neg (by simp),if_neg hl] at h;cases h
 ·rw[Kt hc] at h;simp at h
def Ry (a:Int)(R:List Et):AV:= .tup [.ro true 2 ((if a=0 then R else []).map E8),.r (.int .i64 a)]
def NJ (l:List Et)(k m:Ky):List Et:=l.filter fun e=> !B4 e.1 k&&(decide (m.length=0)|| !B4 m e.1)
theorem QX {ps:List PG}{r d:Nat}(h:Trd ps r d)(k m:Ky):((BC ps d r).filter (fun e=> !B4 e.1 k)).takeWhile (fun e=> !EB m e)=NJ (BC ps d r) k m:=by
 rw[Id ((Kg h.ok d r [] [] h.good).filter _)]
 ·rw[List.filter_filter,NJ]
  refine List.filter_congr fun e _=>?_;rw[EB,Bool.and_comm]
  congr 1
  by_cases hm:m.length=0
  ·simp[hm]
  ·have h1:decide (0<m.length)=true:=decide_eq_true (by omega)
   simp[hm,h1]
 ·intro a b hab ha
  simp only[EB,Bool.not_eq_false',Bool.and_eq_true,decide_eq_true_eq] at ha ⊢;exact⟨ha.1,BU ha.2 hab⟩
set_option maxHeartbeats 4000000 in
theorem Rx (G:List (Nat×List Value))(v:Bool)(ps:List PG)(root:Int)(k m:Ky)(ho:BG ps)(R:List Et)(hR:OM ps root k m=0→ ∀r d:Nat,root=r→Trd ps r d→R=NJ (BC ps d r) k m):
  Con prog G 41 [.agg [.ro true 5 (ps.map eP),.r (.int .i64 root)],.ro true 1 (k.map AC),.ro v 1 (m.map AC)] [] 0 (Is (Ry (OM ps root k m) R) [] 0) No:=by
 rw[Ry]
 by_cases h0:OM ps root k m=0
 ·obtain⟨hc,hk,hm⟩:=TC h0
  obtain⟨r,d,rfl,h⟩:=GS hc;rw[h0,if_pos rfl,hR h0 r d rfl h,←QX h];exact QY G v h ho hc k m hk hm
 ·have cc:=F9 G ps root (Fs ho)
  rw[if_neg h0];rw[OM] at h0 ⊢;obtain⟨c,hc⟩: ∃c,E9 ps root=c:=⟨_,rfl⟩;rw[hc] at h0 cc ⊢;refine Con.res (y:= .tup [.r (.slice none 0 0),.r (.int .i64 (if c≠0 then c else if k.length≤100∧m.length≤100 then 0 else 1))]) ?_ (fun w z th v hr=>Oj hr);refine AA func41 rfl (by kernel_rfl) (of_decide_eq_true (by kernel_rfl)) ?_;intro E hG hE;subst hG;simp only[B9]
  by_cases h1:c=0
  ·subst h1
   rw[if_neg (by simp)] at h0 ⊢;have hl: ¬(k.length≤100∧m.length≤100):=fun hl=>h0 (if_pos hl);rw[if_neg hl]
   by_cases hk:k.length≤100
   ·have g1:((k.length:Int)>100)=False:=eq_false (by omega)
    have g2:((m.length:Int)>100)=True:=eq_true (by omega);(repeat' (first |refine A0 ?_ |refine A6 ?_ |((first |refine rR (fun K kp hK hkp=>?_) |refine cR cc ?_);simp(implicitDefEqProofs:=false) (maxSteps:=2000000) (disch:=omega) only[go_sem,bne_self_eq_false,g1,g2];(repeat' (refine hK _ ?_;clear hK hkp kp K))) |refine A3 rfl ?_ |refine A4 rfl ?_ |refine A8 ?_));(refine A7 (by(simp(implicitDefEqProofs:=false) (maxSteps:=2000000) (disch:=omega) only[go_sem,results41]);rfl) ?_;refine eN hE ?_;simp[AG,ren,renL])
   ·have g1:((k.length:Int)>100)=True:=eq_true (by omega)
    (repeat' (first |refine A0 ?_ |refine A6 ?_ |((first |refine rR (fun K kp hK hkp=>?_) |refine cR cc ?_);simp(implicitDefEqProofs:=false) (maxSteps:=2000000) (disch:=omega) only[go_sem,bne_self_eq_false,g1];(repeat' (refine hK _ ?_;clear hK hkp kp K))) |refine A3 rfl ?_ |refine A4 rfl ?_ |refine A8 ?_));(refine A7 (by(simp(implicitDefEqProofs:=false) (maxSteps:=2000000) (disch:=omega) only[go_sem,results41]);rfl) ?_;refine eN hE ?_;simp[AG,ren,renL])
  ·have z0:(c !=0)=true:=by simp[h1]
   rw[if_pos h1];(repeat' (first |refine A0 ?_ |((first |refine rR (fun K kp hK hkp=>?_) |refine cR cc ?_);simp(implicitDefEqProofs:=false) (maxSteps:=2000000) (disch:=omega) only[go_sem,z0];(repeat' (refine hK _ ?_;clear hK hkp kp K))) |refine A3 rfl ?_ |refine A8 ?_));(refine A7 (by(simp(implicitDefEqProofs:=false) (maxSteps:=2000000) (disch:=omega) only[go_sem,results41]);rfl) ?_;refine eN hE ?_;simp[AG,ren,renL])
end Go.AM
namespace Go.AM
open Go Go.RowKit
attribute [local irreducible] AWP Aw
@[simp high] theorem Y5 (l:List Et):PT (.ro true 2 (l.map E8))=True:=eq_true (.ro _ _ (Dv _ _))
end Go.AM
namespace Go.AM
def Un (n:Int):Prop:= -9223372036854775808≤n∧n≤9223372036854775807
end Go.AM
namespace Go.AM
open Go Go.RowKit
def gV (v:V):Prop:=v.s.size≤maxLen∧Un v.n
end Go.AM
namespace Go.AM
open Go Go.RowKit
open Go.Proofs.YtekljlenlbhmcaaGreatDoor (AZ)
def Je (u:Nat):List UInt8:=[56,48,40,32,24,16,8,0].map fun s=>UInt8.ofNat (u / 2 ^ s % 256)
def Ce (n:Int):Nat:=(n+9223372036854775808).toNat
def Ga (c:UInt8)(new:List UInt8):List UInt8→List UInt8
 | []=>[]
 |x::r=>if x=c then new++Ga c new r else x::Ga c new r
def H_ (l:List UInt8):List UInt8:=Ga 0 [0,255] l
def Dd (v:V):List UInt8:=UInt8.ofNat v.k.toNat::(if v.k=1 then [UInt8.ofNat v.n.toNat] else if v.k=2 then Je (Ce v.n) else if v.k=3 then H_ v.s.data.toList++[0,0] else [])
def Bz:List UInt8→List V→Except Int (List UInt8)
 |b,[]=> .ok b
 |b,v::r=>if AZ v.k v.n v.s≠0 then .error (AZ v.k v.n v.s) else Bz (b++Dd v) r
def De (l:List V):Except Int (List UInt8):=if 6<l.length then .error 1 else match Bz [] l with
 | .error e=> .error e
 | .ok b=>if 100<b.length then .error 5 else .ok b
theorem CW (u:Nat):(Je u).length=8:=rfl
theorem Pp (c:UInt8)(new:List UInt8)(hn:1≤new.length): ∀l:List UInt8,(Ga c new l).length≤new.length * l.length
 | []=>by simp[Ga]
 |x::r=>by
  have:=Pp c new hn r;rw[Ga,List.length_cons,Nat.mul_add];split
  ·rw[List.length_append];omega
  ·rw[List.length_cons];omega
theorem UG (l:List UInt8):(H_ l).length≤2 * l.length:=Pp 0 [0,255] (by simp) l
theorem Ki {v:V}(h:AZ v.k v.n v.s=0):(Dd v).length≤43:=by
 unfold AZ at h;have hs:=UG v.s.data.toList;unfold Dd;simp only[List.length_cons];split
 ·rw[List.length_singleton];omega
 split
 ·rw[CW];omega
 split
 ·rename_i h3
  have:v.s.size≤20:=by
   rw[h3,if_neg (by decide),if_neg (by decide),if_neg (by decide),if_pos rfl] at h;split at h
   ·cases h
   split at h
   ·cases h
   ·omega
  have e:v.s.data.toList.length=v.s.size:=by rw[Array.length_toList];rfl
  simp only[List.length_append,List.length_cons,List.length_nil];omega
 ·simp
theorem Ux (n:Nat)(hn:n<18446744073709551616):(BitVec.ofInt 64 (n:Int) ^^^ BitVec.ofInt 64 9223372036854775808).toNat=if n<9223372036854775808 then n+9223372036854775808 else n - 9223372036854775808:=by
 have e:(9223372036854775808:Int)=((9223372036854775808:Nat):Int):=rfl;rw[e,BitVec.ofInt_natCast,BitVec.ofInt_natCast,BitVec.toNat_xor,BitVec.toNat_ofNat,BitVec.toNat_ofNat,Nat.mod_eq_of_lt (by omega),Nat.mod_eq_of_lt (by omega)]
 have key: ∀m:Nat,m<9223372036854775808→m ^^^ 9223372036854775808=m+9223372036854775808:=by
  intro m hm;apply Nat.eq_of_testBit_eq;intro i;have e2:(9223372036854775808:Nat)=2 ^ 63:=rfl;rw[Nat.testBit_xor,e2,Nat.add_comm,Nat.testBit_two_pow]
  by_cases hi:i=63
  ·subst hi
   rw[Nat.testBit_two_pow_add_eq,Nat.testBit_lt_two_pow (by omega)];rfl
  ·by_cases hi2:i<63
   ·rw[Nat.testBit_two_pow_add_gt (by omega)];have: ¬63=i:=by omega
    simp[this]
   ·have h1:m.testBit i=false:=Nat.testBit_lt_two_pow (Nat.lt_of_lt_of_le hm (by rw[e2];exact Nat.pow_le_pow_right (by omega) (by omega)))
    have h2:(2 ^ 63+m).testBit i=false:=Nat.testBit_lt_two_pow (Nat.lt_of_lt_of_le (by omega:2 ^ 63+m<2 ^ 64) (Nat.pow_le_pow_right (by omega) (by omega)))
    have: ¬63=i:=by omega
    rw[h1,h2];simp[this]
 split
 ·rename_i h;exact key n h
 ·rename_i h
  have:=key (n - 9223372036854775808) (by omega);rw[Nat.sub_add_cancel (by omega)] at this;have h2:=congrArg (· ^^^ 9223372036854775808) this;simp only[Nat.xor_assoc,Nat.xor_self,Nat.xor_zero] at h2;exact h2.symm
theorem TU (n:Int)(h: -9223372036854775808≤n)(h':n<0):IntKind.u64.wrap n=n+18446744073709551616:=by
 have:IntKind.u64.wrap n=n % 18446744073709551616:=rfl;omega
theorem YT {n:Int}(h:Un n):W0 .u64 (IntKind.u64.wrap n) 9223372036854775808=((Ce n:Nat):Int):=by
 obtain⟨h1,h2⟩:=h
 have e: ∃m:Nat,m<18446744073709551616∧IntKind.u64.wrap n=(m:Int)∧(Ce n:Int)=if m<9223372036854775808 then (m:Int)+9223372036854775808 else (m:Int) - 9223372036854775808:=by
  by_cases hn:n<0
  ·rw[TU n h1 hn]
   refine⟨(n+18446744073709551616).toNat,by omega,by omega,?_⟩;unfold Ce;rw[if_neg (by omega)];omega
  ·rw[Go.IntWalk.u64_in n (by omega)]
   refine⟨n.toNat,by omega,by omega,?_⟩;unfold Ce;rw[if_pos (by omega)];omega
 obtain⟨m,hm,e1,e2⟩:=e;rw[e1];show IntKind.u64.wrap (((BitVec.ofInt 64 (m:Int) ^^^ BitVec.ofInt 64 9223372036854775808).toNat:Nat):Int)=_;rw[Ux m hm,e2];split
 ·rw[Go.IntWalk.u64_in _ (by omega)];omega
 ·rw[Go.IntWalk.u64_in _ (by omega)];omega
theorem Mw (u:Nat)(j:Nat)(hj:j<8):(Je u)[j]?=some (UInt8.ofNat (u / 2 ^ (56 - 8 * j) % 256)):=by
 match j,hj with
 |0,_=>rfl
 |1,_=>rfl
 |2,_=>rfl
 |3,_=>rfl
 |4,_=>rfl
 |5,_=>rfl
 |6,_=>rfl
 |7,_=>rfl
theorem Pj (m:Nat):((UInt8.ofNat (m % 256)).toNat:Int)=((m % 256:Nat):Int):=by
 simp
theorem CV (n:Int):IntKind.u8.wrap n=n % 256:=by
 simp only[IntKind.wrap,IntKind.signed,IntKind.bits];rfl
theorem Rv (u:Nat)(j:Nat)(hj:j<8):IntKind.u8.wrap (NI .u64 (u:Int) (56 - 8 * (j:Int)))=((UInt8.ofNat (u / 2 ^ (56 - 8 * j) % 256)).toNat:Int):=by
 rw[Pj,CV]
 have e:(56 - 8 * (j:Int)).toNat=56 - 8 * j:=by omega
 have hm:min (56 - 8 * j) 64=56 - 8 * j:=by omega
 have:NI .u64 (u:Int) (56 - 8 * (j:Int))=((u / 2 ^ (56 - 8 * j):Nat):Int):=by
  unfold NI;rw[e];show(u:Int).fdiv (2 ^ (min (56 - 8 * j) 64))=_;rw[hm,Int.natCast_ediv,Int.fdiv_eq_ediv_of_nonneg _ (by exact Int.le_of_lt (Int.pow_pos (by decide))),Int.natCast_pow]
  rfl
 rw[this];omega
theorem R3 (c x:UInt8)(l:List UInt8):Lib.index (x::l) [c]=if x=c then 0 else if Lib.index l [c]= -1 then -1 else Lib.index l [c]+1:=by
 rw[Lib.index]
 by_cases h:x=c
 ·simp[h]
 ·have h': ¬c=x:=fun e=>h e.symm
  simp[h,h']
theorem H6 (c:UInt8)(new:List UInt8): ∀l:List UInt8,Lib.replaceK [c] new (Lib.count l [c]) l=Ga c new l
 | []=>by rw[Lib.count_miss (by rfl)];rfl
 |x::l=>by
  have ih:=H6 c new l;have hi:=R3 c x l
  by_cases h:x=c
  ·rw[if_pos h] at hi
   rw[Lib.count_hit (i:=0) (by simp) hi,Nat.add_comm 1,Lib.replaceK_hit _ _ _ _ 0 hi,Ga,if_pos h];simpa using ih
  ·rw[if_neg h] at hi
   rw[Ga,if_neg h,←ih]
   by_cases h1:Lib.index l [c]= -1
   ·rw[if_pos h1] at hi
    rw[Lib.count_miss hi,Lib.count_miss h1];rfl
   ·rw[if_neg h1] at hi
    have hg:=Lib.index_ge l [c];obtain⟨i,e⟩: ∃i:Nat,Lib.index l [c]=i:=⟨(Lib.index l [c]).toNat,by omega⟩;rw[e] at hi
    have hi:Lib.index (x::l) [c]=((i+1:Nat):Int):=by omega
    rw[Lib.count_hit (by simp) hi,Lib.count_hit (by simp) e,Nat.add_comm 1,Nat.add_comm 1,Lib.replaceK_hit _ _ _ _ _ hi,Lib.replaceK_hit _ _ _ _ _ e];simp[Nat.add_right_comm i 1 1]
theorem K3 (c:UInt8)(new l:List UInt8)(h:([c]==new)=false):Lib.replaceAll l [c] new=Ga c new l:=by
 rw[Lib.replaceAll,Lib.replace,if_neg (by rw[h];simp)]
 have:Lib.replaceNum l [c] (-1)=Lib.count l [c]:=by rw[Lib.replaceNum,if_pos (.inl (by omega))]
 rw[this,H6]
end Go.AM
namespace Go.AM
open Go Go.RowKit
attribute [local irreducible] AWP Aw
def KH:Nat→Int→List UInt8
 |0,_=>[]
 |k+1,n=>UInt8.ofNat (n % 256).toNat::KH k (n / 256)
theorem KG: ∀(k:Nat)(n:Int),(KH k n).length=k
 |0,_=>rfl
 |k+1,n=>by rw[KH,List.length_cons,KG]
theorem WB {n:Int}(h:Un n):W2 .i64 n 255=n % 256:=by
 obtain⟨h1,h2⟩:=h;have e:(255:Int)=((255:Nat):Int):=rfl
 have k:(BitVec.ofInt 64 n &&& BitVec.ofInt 64 255).toNat=(n % 256).toNat:=by
  rw[e,BitVec.toNat_and,BitVec.ofInt_natCast,BitVec.toNat_ofNat,BitVec.toNat_ofInt];have:(255:Nat) % 2 ^ 64=2 ^ 8 - 1:=rfl;rw[this,Nat.and_two_pow_sub_one_eq_mod];have:((2 ^ 64:Nat):Int)=18446744073709551616:=rfl;rw[this];omega
 show IntKind.i64.wrap (((BitVec.ofInt 64 n &&& BitVec.ofInt 64 255).toNat:Nat):Int)=n % 256;rw[k,Go.IntWalk.i64_in _ (by omega)];omega
theorem Rf (n:Int):((UInt8.ofNat (n % 256).toNat).toNat:Int)=n % 256:=by
 rw[UInt8.toNat_ofNat'];have:(2:Nat) ^ 8=256:=rfl;omega
theorem VK (n:Int):(n - n % 256).tdiv 256=n / 256:=by
 rw[show n - n % 256=256 * (n / 256) by omega,Int.mul_tdiv_cancel_left _ (by decide)]
theorem Va {n:Int}(h:Un n): ∀j:Nat,0<j→j<8→(Je (Ce n))[j]?=(KH 8 n)[7 - j]?:=by
 obtain⟨h1,h2⟩:=h
 have hu:(Ce n:Int)=n+9223372036854775808:=by unfold Ce;omega
 intro j h0 h8;rw[Mw _ _ h8]
 match j,h0,h8 with
 |1,_,_=>exact congrArg (fun x=>some (UInt8.ofNat x)) (show Ce n / 281474976710656 % 256=(n / 256 / 256 / 256 / 256 / 256 / 256 % 256).toNat by omega)
 |2,_,_=>exact congrArg (fun x=>some (UInt8.ofNat x)) (show Ce n / 1099511627776 % 256=(n / 256 / 256 / 256 / 256 / 256 % 256).toNat by omega)
 |3,_,_=>exact congrArg (fun x=>some (UInt8.ofNat x)) (show Ce n / 4294967296 % 256=(n / 256 / 256 / 256 / 256 % 256).toNat by omega)
 |4,_,_=>exact congrArg (fun x=>some (UInt8.ofNat x)) (show Ce n / 16777216 % 256=(n / 256 / 256 / 256 % 256).toNat by omega)
 |5,_,_=>exact congrArg (fun x=>some (UInt8.ofNat x)) (show Ce n / 65536 % 256=(n / 256 / 256 % 256).toNat by omega)
 |6,_,_=>exact congrArg (fun x=>some (UInt8.ofNat x)) (show Ce n / 256 % 256=(n / 256 % 256).toNat by omega)
 |7,_,_=>exact congrArg (fun x=>some (UInt8.ofNat x)) (show Ce n / 1 % 256=(n % 256).toNat by omega)
theorem Tn {n:Int}(h:Un n): ∃x y:UInt8,(KH 8 n)[7]?=some x∧(Je (Ce n))[0]?=some y∧(y.toNat:Int)=((x.toNat:Int)+128) % 256:=by
 obtain⟨h1,h2⟩:=h
 have hu:(Ce n:Int)=n+9223372036854775808:=by unfold Ce;omega
 refine⟨_,_,rfl,rfl,?_⟩;rw[Rf,Pj];omega
end Go.AM
namespace Go.AM
open Go Go.RowKit
attribute [local irreducible] AWP Aw
theorem YU (x:UInt8):IntKind.u8.wrap (x.toNat:Int)=(x.toNat:Int):=by
 have:=x.toNat_lt;rw[CV];omega
theorem Jd (u:Nat):List.take 8 ((Je u).map AC)=(Je u).map AC:=rfl
set_option maxHeartbeats 4000000 in
theorem LO (G:List (Nat×List Value))(n:Int)(hn:Un n):Con prog G 157 [.r (.int .i64 n)] [] 0 (Is (.s 0 0 8) [(0,.lst 5 1 ((Je (Ce n)).map AC))] 1) No:=by
 refine AA func157 rfl (by kernel_rfl) (of_decide_eq_true (by kernel_rfl)) ?_;intro E hG hE;subst hG;simp only[B9];(repeat' (first |refine A0 ?_ |refine A5 ?_ |((refine rR (fun K kp hK hkp=>?_));simp(implicitDefEqProofs:=false) (maxSteps:=2000000) (disch:=omega) only[go_sem];(repeat' (refine hK _ ?_;clear hK hkp kp K)))));(refine AWP.emb (C0 3 5 1 ?_) ?_;(·rfl);dsimp only);refine AH (fun q:Nat×Int×List UInt8=>⟨[(4,.r (.int .i64 q.1)),(0,.r (.int .i64 q.2.1)),(3,.s 0 0 q.2.2.length)],[(0,.lst 5 1 (q.2.2.map AC))],1⟩) (fun q=>q.1≤8∧Un q.2.1∧q.2.2.length=q.1∧q.2.2++KH (8 - q.1) q.2.1=KH 8 n) (fun q=>8 - q.1) (0,n,[]) ?_ ?_ ?_
 ·exact⟨by simp,hn,rfl,rfl⟩
 ·(refine AE hE [0] rfl ?_ ?_<;>simp[AU,AO,lk,ren,renL,A9,AL]<;>(try omega))
 rintro⟨k,m,low⟩ ⟨hk,hm,hl,hno⟩;simp only at hk hm hl hno ⊢
 by_cases h8:k<8
 ·have hm':=hm
  obtain⟨m1,m2⟩:=hm';have ha:=WB hm;obtain⟨x,hx⟩: ∃x,x=UInt8.ofNat (m % 256).toNat:=⟨_,rfl⟩
  have hxm:(x.toNat:Int)=m % 256:=by rw[hx,Rf]
  have hq:=VK m;have hx8:=x.toNat_lt;rw[←hxm] at hq ha;(repeat' (first |refine A0 ?_ |refine A5 ?_ |refine A6 ?_ |((refine rR (fun K kp hK hkp=>?_));simp(implicitDefEqProofs:=false) (maxSteps:=2000000) (disch:=omega) only[go_sem,ha,hq];(repeat' (first |(refine hK _ ?_;clear hK hkp kp K) |(with_reducible refine And.intro ?_ ?_) |omega))) |((refine AD rfl (fun h=>?_) (fun h=>?_)<;>try simp only[BQ] at h)<;>(try (exfalso;omega)))))
  ((refine AJ ((k+1,m / 256,low++[x])) ?_ ?_ ?_);rotate_left;(·(try dsimp only);(omega));(·(refine AE hE [2] rfl ?_ ?_<;>simp[AU,AO,lk,ren,renL,A9,AL,AC,YU]<;>(try omega))))
  refine⟨by omega,⟨by simp only;omega,by simp only;omega⟩,by simp[hl],?_⟩;rw[←hno,show 8 - k=(8 - (k+1))+1 by omega,KH,←hx];simp
 obtain rfl:k=8:=by omega
 have hno:low=KH 8 n:=by rw[←hno];simp[KH]
 clear hk h8 hm;subst hno;(repeat' (first |refine A0 ?_ |refine A5 ?_ |refine AB ?_ |((refine rR (fun K kp hK hkp=>?_));simp(implicitDefEqProofs:=false) (maxSteps:=2000000) (disch:=omega) only[go_sem,KG];(repeat' (refine hK _ ?_;clear hK hkp kp K))) |refine A4 rfl ?_));(refine AWP.emb (C0 6 5 1 ?_) ?_;(·rfl);dsimp only);refine AH (fun j:Nat=>⟨[(7,.r (.int .i64 (7 - (j:Int)))),(3,.s 0 0 8),(6,.s 1 0 j)],[(0,.lst 5 1 ((KH 8 n).map AC)),(1,.lst 5 1 (((Je (Ce n)).take j).map AC))],2⟩) (fun j=>j≤8) (fun j=>8 - j) 0 ?_ ?_ ?_
 ·simp
 ·(refine AE hE [0,1] rfl ?_ ?_<;>simp[AU,AO,lk,ren,renL,A9,AL]<;>(try omega))
 intro j hj;have hll:=KG 8 n
 have hz:((Je (Ce n)).take j).length=j:=by rw[List.length_take,CW];omega
 by_cases h8:j<8
 ·by_cases h0:j=0
  ·subst h0
   obtain⟨x,y,hx,hy,hxy⟩:=Tn hn;have hx8:=x.toNat_lt;have hy8:=y.toNat_lt
   have hrem:((x.toNat:Int)+128).tmod 256=(y.toNat:Int):=by rw[Int.tmod_eq_emod_of_nonneg (by omega),hxy]
   have htk:(Je (Ce n)).take 1=[y]:=by rw[List.take_add_one,hy];rfl
   (repeat' (first |refine A0 ?_ |refine A5 ?_ |refine A6 ?_ |((refine rR (fun K kp hK hkp=>?_));simp(implicitDefEqProofs:=false) (maxSteps:=2000000) (disch:=omega) only[go_sem,hx,hrem,AC];(repeat' (refine hK _ ?_;clear hK hkp kp K))) |refine A3 rfl ?_))
   ((refine AJ (1) ?_ ?_ ?_);rotate_left;(·(try dsimp only);(omega));(·(refine AE hE [0,3] rfl ?_ ?_<;>simp[AU,AO,lk,ren,renL,A9,AL,AC,htk,YU,List.take_take,Nat.min_self]<;>(try omega))))
   omega
  ·have hg:=Va hn j (by omega) h8
   obtain⟨x,hx⟩: ∃x,(Je (Ce n))[j]?=some x:=⟨_,Mw _ _ h8⟩;rw[hx] at hg;have hx8:=x.toNat_lt
   have e1:(7 - (j:Int)).toNat=7 - j:=by omega
   have e2:(7 - (j:Int)==7)=false:=by simp;omega
   have c1:(0≤7 - (j:Int))=True:=eq_true (by omega);have c2:(7 - (j:Int)<((8:Nat):Int))=True:=eq_true (by omega);have c3:(7 - (j:Int)<8)=True:=eq_true (by omega)
   have htk:(Je (Ce n)).take (j+1)=(Je (Ce n)).take j++[x]:=by rw[List.take_add_one,hx];rfl
   (repeat' (first |refine A0 ?_ |refine A5 ?_ |refine A6 ?_ |((refine rR (fun K kp hK hkp=>?_));simp(implicitDefEqProofs:=false) (maxSteps:=2000000) (disch:=omega) only[go_sem,hg.symm,e1,e2,c1,c2,c3,AC];(repeat' (first |(refine hK _ ?_;clear hK hkp kp K) |(with_reducible refine And.intro ?_ ?_) |omega))) |refine A3 rfl ?_ |refine A4 rfl ?_))
   ((refine AJ (j+1) ?_ ?_ ?_);rotate_left;(·(try dsimp only);(omega));(·(refine AE hE [0,3] rfl ?_ ?_<;>simp[AU,AO,lk,ren,renL,A9,AL,AC,htk,YU,List.take_take,Nat.min_self]<;>(try omega))))
   omega
 ·obtain rfl:j=8:=by omega
  (repeat' (first |refine A0 ?_ |refine AB ?_ |((refine rR (fun K kp hK hkp=>?_));simp(implicitDefEqProofs:=false) (maxSteps:=2000000) (disch:=omega) only[go_sem];(repeat' (refine hK _ ?_;clear hK hkp kp K))) |refine A4 rfl ?_ |refine A8 ?_));(refine A7 (by(simp(implicitDefEqProofs:=false) (maxSteps:=2000000) (disch:=omega) only[go_sem,results157,Jd]);rfl) ?_;refine(Cx hE [1] rfl ?_ ?_).s<;>simp[AG,AO,lk,ren,renL,A9,AL,Jd])
end Go.AM
namespace Go.AM
open Go Go.RowKit
open Go.Proofs.YtekljlenlbhmcaaGreatDoor (AZ)
attribute [local irreducible] AWP Aw
theorem TE {w:World}{z:AT}{th:List NLoc}{us:List Value}{v:Value}(h:Rep w z th (.agg (us.map .r)) v):v= .agg us.toArray:=by
 obtain⟨ys,rfl,hc⟩:=h.agg_inv
 have:ys=us:=by
  apply List.ext_getElem?;intro i
  cases hi:us[i]? with
  |none=>rw[List.getElem?_eq_none_iff] at hi ⊢;rw[hc.1];simpa using hi
  |some u=>
   obtain⟨y,h1,h2⟩:=hc.get (show(us.map AV.r)[i]?=some (.r u) by rw[List.getElem?_map,hi];rfl);rw[h1,h2.r_inv]
 rw[this]
theorem Rb (G:List (Nat×List Value))(v:V)(hs:v.s.size≤maxLen):Con prog G 118 [.agg (eV v)] [] 0 (Is (.r (.int .i64 (AZ v.k v.n v.s))) [] 0) No:=
 BF (by kernel_rfl) (fun w z vs hz hr hG=>by
  obtain⟨u,r,rfl,h1,h2⟩:=hr.head;obtain rfl:=TE (us:=[.int .i64 v.k,.int .i64 v.n,.string v.s]) h1;obtain rfl:=h2.of_nil
  exact Go.Proofs.YtekljlenlbhmcaaGreatDoor.Pi v.k v.n v.s w hs)
theorem N4 (G:List (Nat×List Value))(v:V)(hs:v.s.size≤maxLen):Con prog G 134 [.agg (eV v)] [] 0 (Is (.r (.int .i64 (AZ v.k v.n v.s))) [] 0) No:=
 BF (by kernel_rfl) (fun w z vs hz hr hG=>by
  obtain⟨u,r,rfl,h1,h2⟩:=hr.head;obtain rfl:=TE (us:=[.int .i64 v.k,.int .i64 v.n,.string v.s]) h1;obtain rfl:=h2.of_nil
  exact Go.Proofs.YtekljlenlbhmcaaGreatDoor.Jj v.k v.n v.s w hs)
end Go.AM
namespace Go.Proofs.YtekljlenlbhmcaaGreatDoor
open Go.RowKit
theorem RH:Lib.compareBytes [] []=0:=rfl
theorem QP {k n:Int}{s:ByteArray}(h:AZ k n s=0):(k=0∧n=0∧s.toList=[])∨(k=1∧0≤n∧n≤1∧s.toList=[])∨(k=2∧s.toList=[])∨(k=3∧n=0∧s.size≤20):=by
 unfold AZ at h;split at h
 ·split at h<;>simp_all
 ·split at h
  ·split at h
   ·simp at h
   ·rename_i h';simp only[not_or,Classical.not_not] at h';right;left;refine⟨by assumption,by omega,by omega,h'.2.2⟩
  ·split at h
   ·split at h<;>simp_all
   ·split at h
    ·split at h
     ·simp at h
     ·split at h
      ·simp at h
      ·right;right;right;refine⟨by assumption,by simp_all,by omega⟩
    ·simp at h
end Go.Proofs.YtekljlenlbhmcaaGreatDoor
namespace Go.AM
open Go Go.RowKit
open Go.Proofs.YtekljlenlbhmcaaGreatDoor (AZ)
attribute [local irreducible] AWP Aw
theorem Vz (s:ByteArray)(i:Nat):s[i]?=s.data.toList[i]?:=by
 by_cases h:i<s.size
 ·rw[getElem?_def,dif_pos h,List.getElem?_eq_getElem (by simpa using h)];rfl
 ·rw[getElem?_def,dif_neg h,List.getElem?_eq_none (by simp only[Array.length_toList];exact Nat.le_of_not_lt h)]
theorem Pc (s:ByteArray):s.size=s.data.toList.length:=by rw[Array.length_toList];rfl
theorem Hb {l:List V}{i:Nat}{v:V}(b:List UInt8)(h:l[i]?=some v)(hv:AZ v.k v.n v.s=0):Bz b (l.drop i)=Bz (b++Dd v) (l.drop (i+1)):=by
 rw[BA h,Bz,if_neg (by simpa using hv)]
def JK:Except Int (List UInt8)→AV
 | .error e=> .tup [.r (.slice none 0 0),.r (.int .i64 e)]
 | .ok b=> .tup [.ro true 1 (b.map AC),.r (.int .i64 0)]
theorem GG {v:V}(h:AZ v.k v.n v.s=0):v.k=0∨(v.k=1∧(v.n=0∨v.n=1))∨v.k=2∨(v.k=3∧v.s.size≤20):=by
 rcases Go.Proofs.YtekljlenlbhmcaaGreatDoor.QP h with h |h |h |h
 ·exact .inl h.1
 ·exact .inr (.inl ⟨h.1,by omega⟩)
 ·exact .inr (.inr (.inl h.1))
 ·exact .inr (.inr (.inr ⟨h.1,h.2.2⟩))
end Go.AM
