/- Texts of the law NeedNeeds, part 6: lemmas; what is proved stands in the last text. -/
import Derived.Test.YtmohnlbeiaifhaaGreatDoorZz5
import Derived.Test.YtmohnlbeiaifhaaGreatDoorZz4
import Derived.Test.YtmohnlbeiaifhaaGreatDoorZz1
import Derived.Lib.ReplaceLaws
import Derived.WalkKit
abbrev cZ:=@List.set_cons_zero
abbrev dA:=@List.set_cons_succ
abbrev fY:=@Bool.not_eq_false'
abbrev fH:=@List.take_append_drop
abbrev gS:=@List.of_mem_zip
abbrev fS:=@List.length_zip
abbrev fZ:=@List.find?_eq_none
abbrev bY:=@bne_self_eq_false
abbrev gF:=@List.filter_eq_nil_iff
abbrev gK:=@List.length_filter_le
abbrev gT:=@BitVec.ofInt_natCast
abbrev gG:=@Nat.testBit_lt_two_pow
open Go.Proofs.Tryz
set_option maxHeartbeats 32000000
set_option linter.unusedSimpArgs false
set_option linter.unusedVariables false
set_option maxRecDepth 100000
namespace Go.AM
open Go Go.RowKit
attribute [local irreducible] AWP DU
def Ed (i:Nat):List AV:=[.r (.int .i64 (i:Int))]
@[simp] theorem X3 (a:Nat):(∀x,x ∈ Ed a->PT x)=True:=aK (by intro x hx;simp[Ed] at hx;subst hx;exact .r _)
instance:PTf Ed:=⟨fun a=>of_eq_true (X3 a)⟩
def Ec (r:List Nat):List AV:=[.u 3 1 (r.map Ed)]
@[simp] theorem CZ (a:List Nat):(∀x,x ∈ Ec a->PT x)=True:=aK (by intro x hx;simp[Ec] at hx;subst hx;exact .u _ _ _ (Da _ _))
theorem Uo (n:Nat):PT (.q n)=True:=aK (.q n)
def Bg (l:List Nat):List Int:=l.map Int.ofNat
theorem K3 (l:List Nat)(i:Nat):(Bg l).contains (i:Int)=decide (i ∈ l):=by
 rw[cQ,List.contains_iff_mem,decide_eq_true_iff,Bg,cI]
 constructor
 ·rintro⟨a,h1,h2⟩
  have:a=i:=Int.ofNat.inj h2;subst this;exact h1
 ·exact fun h=>⟨i,h,rfl⟩
theorem Ug {l:List Nat}{i:Nat}(h:i ∉ l):RK (Bg l) (i:Int)=Bg (l++[i]):=by
 unfold RK;rw[K3,aC h];simp[Bg]
section
variable {P:Program} {E:Env} {N:Nat} {st:AS} {AQ:AExit->AS->Prop}
theorem CA {p q:AS->Prop}(h: ∀s,p s->q s): ∀e s,DX p AQ e s->DX q AQ e s:=fun e s hh=>by
 cases e with
 |normal=>exact h s hh
 |_=>exact hh
theorem Xv {x y:Code}(fx:AS)(h:AWP P E N y fx AQ)(h2: ∀K:AS->Prop,(∀st',Emb E N st' fx->K st')->AWP P E N x st (DX K AQ)):AWP P E N (.seq x y) st AQ:=A0 (h2 _ fun st' he=>AWP.emb he h)
theorem Mx {x y v:Code}(fx:AS)(h:AWP P E N v fx AQ)(h2: ∀K:AS->Prop,(∀st',Emb E N st' fx->K st')->AWP P E N x st (DX (fun s=>AWP P E N y s (DX K AQ)) AQ)):AWP P E N (.seq x (.seq y v)) st AQ:=
 A0 ((h2 _ fun st' he=>AWP.emb he h).mono (CA fun _ hh=>A0 hh))
theorem WW {x y z u v:Code}(fx:AS)(h:AWP P E N v fx AQ)(h2: ∀K:AS->Prop,(∀st',Emb E N st' fx->K st')->AWP P E N x st (DX (fun s=>AWP P E N y s (DX (fun s=>AWP P E N z s (DX (fun s=>AWP P E N u s (DX K AQ)) AQ)) AQ)) AQ)):
  AWP P E N (.seq x (.seq y (.seq z (.seq u v)))) st AQ:=
 A0 ((h2 _ fun st' he=>AWP.emb he h).mono (CA fun _ hh=>A0 (hh.mono (CA fun _ hh=>A0 (hh.mono (CA fun _ hh=>A0 hh))))))
theorem WV {x y z u t v:Code}(fx:AS)(h:AWP P E N v fx AQ)(h2: ∀K:AS->Prop,(∀st',Emb E N st' fx->K st')->AWP P E N x st (DX (fun s=>AWP P E N y s (DX (fun s=>AWP P E N z s (DX (fun s=>AWP P E N u s (DX (fun s=>AWP P E N t s (DX K AQ)) AQ)) AQ)) AQ)) AQ)):
  AWP P E N (.seq x (.seq y (.seq z (.seq u (.seq t v))))) st AQ:=
 A0 ((h2 _ fun st' he=>AWP.emb he h).mono (CA fun _ hh=>A0 (hh.mono (CA fun _ hh=>A0 (hh.mono (CA fun _ hh=>A0 (hh.mono (CA fun _ hh=>A0 hh))))))))
end
theorem J7 {p:PG}{low:Ky}(h:p.keys.length=0):BV p low=true:=by
 have:p.keys=[]:=bV.1 h;unfold BV;rw[this]
theorem E4 {p:PG}{low k:Ky}(h:p.keys[0]?=some k):BV p low= !BI k low:=by
 unfold BV
 cases hk:p.keys with
 |nil=>rw[hk] at h;simp at h
 |cons x r=>rw[hk] at h;simp at h;subst h;rfl
def Ba (ps:List PG)(root:Int)(n:Nat)(rows:List (List Nat)):Nd:= .box 160 [.ro true 5 (ps.map eP),.r (.int .i64 root),.q 1,.s n 0 rows.length]
def EB (ps:List PG)(root:Int)(n:Nat)(st:WS):List (Nat×Nd):=[(0,Ba ps root n st.rows),(1,.mp (Bg st.met)),(n,.ul 119 1 (st.rows.map Ec) [])]
theorem PF (G:GL)(ps:List PG)(root:Int)(hn:ps.length≤4000)(hall: ∀p ∈ ps,PageOK p ps.length)(hin: ∀i x,x ∈ AF ps i->x<ps.length): ∀(f i level:Nat)(low high:Ky)(tl th:Bool)(st:WS),i<ps.length->WI ps.length st->level≤st.rows.length->ps.length<st.met.length+f->
  Con prog G 124 [.p 0 0 0,.r (.int .i64 i),.ro tl 1 (low.map AC),.ro th 1 (high.map AC),.r (.int .i64 level)] (EB ps root 2 st) 3 (Is (.r (.int .i64 (Cm ps f i low high level st).1)) (EB ps root 3 (Cm ps f i low high level st).2) 4) No
 |0,i,level,low,high,tl,th,st,hi,hw,hr,hf=>absurd hw.len (by omega)
 |f+1,i,level,low,high,tl,th,st,hi,hw,hr,hf=>by
  obtain⟨R,hR⟩: ∃R,Cm ps (f+1) i low high level st=R:=⟨_,rfl⟩;rw[hR];rw[Cm] at hR;have zi:((i:Int)<(ps.length:Int))=True:=aK (by omega);obtain⟨p,hp⟩: ∃p,ps[i]?=some p:=⟨ps[i],by simp[hi]⟩
  have hpg:pg ps i=p:=by rw[pg,aH,hp];rfl
  rw[hpg] at hR;have hpo:=hall p (aB hp);have hml:=hw.len;have hrl2:=hw.rl;refine cJ func124 fun E hG hE=>?_;subst hG;simp only[AX]
  by_cases hm:i ∈ st.met
  ·rw[if_pos hm] at hR
   subst hR
   have hc:(Bg st.met).contains (i:Int)=true:=by rw[K3];exact aE hm
   (repeat' (first |refine A0 ?_ |((refine sR (fun K kp=>?_));simp -implicitDefEqProofs (maxSteps:=2000000) (disch:=omega) only[go_sem,hc,EB,Ba];(repeat' (refine K _ ?_;clear K kp))) |refine A2 rfl ?_ |refine A5 ?_));(refine rJ results124 ?_;refine(W6 [0,1,2,2] ?_ ?_ ?_ ?_ ?_ ?_).s<;>simp[MF,A8,AY,lk,ren,renL,AA,AU,hE,EB,Ba,BH]<;>(try (intro i hi;first |(rcases i with _ |_ |i;rfl;rfl;(exfalso;omega)) |(rcases i with _ |_ |_ |i;rfl;rfl;rfl;(exfalso;omega)) |(rcases i with _ |_ |_ |_ |i;rfl;rfl;rfl;rfl;(exfalso;omega)) |(rcases i with _ |_ |_ |_ |_ |i;rfl;rfl;rfl;rfl;rfl;(exfalso;omega)) |(rcases i with _ |_ |_ |_ |_ |_ |i;rfl;rfl;rfl;rfl;rfl;rfl;(exfalso;omega)))))
  rw[if_neg hm] at hR
  have hc:(Bg st.met).contains (i:Int)=false:=by rw[K3];exact aC hm
  have hput:=Ug hm
  by_cases hx:p.high=high
  rotate_left
  ·rw[if_pos (.inl hx)] at hR
   subst hR
   have h1':(p.high==high)=false:=by simpa using hx
   (repeat' (first |refine A0 ?_ |refine A3 ?_ |((first |refine sR (fun K kp=>?_) |refine cR (Hl _ _ _ _ _) ?_);simp -implicitDefEqProofs (maxSteps:=2000000) (disch:=omega) only[go_sem,hc,hput,zi,hp,eP,EB,Ba,h1'];(repeat' (refine K _ ?_;clear K kp))) |refine A2 rfl ?_ |refine A1 rfl ?_ |refine A5 ?_));(refine rJ results124 ?_;refine(W6 [0,1,2,2] ?_ ?_ ?_ ?_ ?_ ?_).s<;>simp[MF,A8,AY,lk,ren,renL,AA,AU,hE,EB,Ba,BH]<;>(try (intro i hi;first |(rcases i with _ |_ |i;rfl;rfl;(exfalso;omega)) |(rcases i with _ |_ |_ |i;rfl;rfl;rfl;(exfalso;omega)) |(rcases i with _ |_ |_ |_ |i;rfl;rfl;rfl;rfl;(exfalso;omega)) |(rcases i with _ |_ |_ |_ |_ |i;rfl;rfl;rfl;rfl;rfl;(exfalso;omega)) |(rcases i with _ |_ |_ |_ |_ |_ |i;rfl;rfl;rfl;rfl;rfl;rfl;(exfalso;omega)))))
  have h1':(p.high==high)=true:=by rw[hx];exact beq_self_eq_true _
  cases hfl:BV p low
  ·rw[if_pos (.inr hfl)] at hR
   subst hR
   have hk0: ¬p.keys.length=0:=fun h=>by rw[J7 h] at hfl;cases hfl
   have hk1:((p.keys.length:Int)>0)=True:=aK (by omega);obtain⟨k,hk⟩: ∃k,p.keys[0]?=some k:=⟨p.keys[0]'(by omega),by simp⟩
   have h2:BI k low=true:=by rw[E4 hk] at hfl;simpa using hfl
   (repeat' (first |refine A0 ?_ |refine A3 ?_ |((first |refine sR (fun K kp=>?_) |refine cR (Hl _ _ _ _ _) ?_ |refine cR (DF _ _ _ _ _) ?_);simp -implicitDefEqProofs (maxSteps:=2000000) (disch:=omega) only[go_sem,hc,hput,zi,hp,eP,EB,Ba,h1',hk1,hk,DV,Ou,h2];(repeat' (refine K _ ?_;clear K kp))) |refine A2 rfl ?_ |refine A1 rfl ?_ |refine A5 ?_));(refine rJ results124 ?_;refine(W6 [0,1,2,2] ?_ ?_ ?_ ?_ ?_ ?_).s<;>simp[MF,A8,AY,lk,ren,renL,AA,AU,hE,EB,Ba,BH]<;>(try (intro i hi;first |(rcases i with _ |_ |i;rfl;rfl;(exfalso;omega)) |(rcases i with _ |_ |_ |i;rfl;rfl;rfl;(exfalso;omega)) |(rcases i with _ |_ |_ |_ |i;rfl;rfl;rfl;rfl;(exfalso;omega)) |(rcases i with _ |_ |_ |_ |_ |i;rfl;rfl;rfl;rfl;rfl;(exfalso;omega)) |(rcases i with _ |_ |_ |_ |_ |_ |i;rfl;rfl;rfl;rfl;rfl;rfl;(exfalso;omega)))))
  rw[if_neg (by rw[hx,hfl];simp)] at hR;refine WV (fx:=⟨[(13,.p 4 0 0),(4,.r (.int .i64 level)),(3,.ro th 1 (high.map AC)),(2,.ro tl 1 (low.map AC)),(1,.r (.int .i64 i)),(0,.p 0 0 0)],[(0,Ba ps root 3 st.rows),(1,.mp (Bg (st.met++[i]))),(3,.ul 119 1 (st.rows.map Ec) []),(4,.box 121 [.r (.bool p.leaf),.ro true 1 (p.keys.map DV),.ro true 1 (p.kids.map eI),.ro true 1 (p.high.map AC),.r (.int .i64 p.next)])],5⟩) ?_ fun K hcut=>?_;rotate_left
  ·by_cases hk0:p.keys.length=0
   ·have hk1:((p.keys.length:Int)>0)=False:=bH (by omega)
    (repeat' (first |refine A0 ?_ |refine A3 ?_ |((first |refine sR (fun K kp=>?_) |refine cR (Hl _ _ _ _ _) ?_);simp -implicitDefEqProofs (maxSteps:=2000000) (disch:=omega) only[go_sem,hc,hput,zi,hp,eP,EB,Ba,h1',hk1];(repeat' (refine K _ ?_;clear K kp))) |refine A1 rfl ?_));refine hcut _ ?_;(refine ZK [0,1,2,2,4] ?_ ?_ rfl ?_ ?_ ?_ ?_<;>simp[MF,Ai,AY,lk,ren,renL,AA,AU,hE,Ba,BH]<;>(try omega)<;>(try (intro i hi;first |(rcases i with _ |_ |i;rfl;rfl;(exfalso;omega)) |(rcases i with _ |_ |_ |i;rfl;rfl;rfl;(exfalso;omega)) |(rcases i with _ |_ |_ |_ |i;rfl;rfl;rfl;rfl;(exfalso;omega)) |(rcases i with _ |_ |_ |_ |_ |i;rfl;rfl;rfl;rfl;rfl;(exfalso;omega)) |(rcases i with _ |_ |_ |_ |_ |_ |i;rfl;rfl;rfl;rfl;rfl;rfl;(exfalso;omega)))))
   ·have hk1:((p.keys.length:Int)>0)=True:=aK (by omega)
    obtain⟨k,hk⟩: ∃k,p.keys[0]?=some k:=⟨p.keys[0]'(by omega),by simp⟩
    have h2:BI k low=false:=by rw[E4 hk] at hfl;simpa using hfl
    (repeat' (first |refine A0 ?_ |refine A3 ?_ |((first |refine sR (fun K kp=>?_) |refine cR (Hl _ _ _ _ _) ?_ |refine cR (DF _ _ _ _ _) ?_);simp -implicitDefEqProofs (maxSteps:=2000000) (disch:=omega) only[go_sem,hc,hput,zi,hp,eP,EB,Ba,h1',hk1,hk,DV,Ou,h2];(repeat' (refine K _ ?_;clear K kp))) |refine A1 rfl ?_));refine hcut _ ?_;(refine ZK [0,1,2,2,4] ?_ ?_ rfl ?_ ?_ ?_ ?_<;>simp[MF,Ai,AY,lk,ren,renL,AA,AU,hE,Ba,BH]<;>(try omega)<;>(try (intro i hi;first |(rcases i with _ |_ |i;rfl;rfl;(exfalso;omega)) |(rcases i with _ |_ |_ |i;rfl;rfl;rfl;(exfalso;omega)) |(rcases i with _ |_ |_ |_ |i;rfl;rfl;rfl;rfl;(exfalso;omega)) |(rcases i with _ |_ |_ |_ |_ |i;rfl;rfl;rfl;rfl;rfl;(exfalso;omega)) |(rcases i with _ |_ |_ |_ |_ |_ |i;rfl;rfl;rfl;rfl;rfl;rfl;(exfalso;omega)))))
  refine Mx (fx:=⟨[(13,.p 4 0 0),(4,.r (.int .i64 level)),(3,.ro th 1 (high.map AC)),(2,.ro tl 1 (low.map AC)),(1,.r (.int .i64 i)),(0,.p 0 0 0)],[(0,Ba ps root 3 (BP st.rows level i)),(1,.mp (Bg (st.met++[i]))),(3,.ul 119 1 ((BP st.rows level i).map Ec) []),(4,.box 121 [.r (.bool p.leaf),.ro true 1 (p.keys.map DV),.ro true 1 (p.kids.map eI),.ro true 1 (p.high.map AC),.r (.int .i64 p.next)])],5⟩) ?_ fun K hcut=>?_;rotate_left
  ·refine A4 ?_
   refine AB (fun k:Nat=>⟨[(13,.p 4 0 0),(4,.r (.int .i64 level)),(3,.ro th 1 (high.map AC)),(2,.ro tl 1 (low.map AC)),(1,.r (.int .i64 i)),(0,.p 0 0 0)],[(0,.box 160 [.ro true 5 (ps.map eP),.r (.int .i64 root),.q 1,.s 3 0 (st.rows.length+k)]),(1,.mp (Bg (st.met++[i]))),(3,.ul 119 1 (st.rows.map Ec++List.replicate k [.r (.slice none 0 0)]) []),(4,.box 121 [.r (.bool p.leaf),.ro true 1 (p.keys.map DV),.ro true 1 (p.kids.map eI),.ro true 1 (p.high.map AC),.r (.int .i64 p.next)])],5⟩) (fun k=>k≤level+1 - st.rows.length) (fun k=>level+1 - st.rows.length - k) 0 ?_ ?_ ?_
   ·exact aU _
   ·(refine AJ hE [0,1,2,3,4] rfl ?_ ?_<;>simp[Ai,AY,lk,ren,renL,AA,AU,Ba,BH]<;>(try omega))
   intro k hk
   by_cases hlv:level<st.rows.length
   ·obtain rfl:k=0:=by omega
    have hg:((st.rows.length:Int)≤(level:Int))=False:=bH (by omega);have zl:((level:Int)<(st.rows.length:Int))=True:=aK (by omega);obtain⟨r,hr0⟩: ∃r,st.rows[level]?=some r:=⟨st.rows[level],by simp[hlv]⟩;have hrl:=hw.rs r (aB hr0)
    have hrow:(st.rows.map Ec)[level]?=some [.u 3 1 (r.map Ed)]:=by rw[List.getElem?_map,hr0];rfl
    simp only[Nat.add_zero,List.replicate_zero,List.append_nil];(refine AWP.emb (W5 (T:=?z1T) (k:=?z1k) (els:=?z1e) (T':=?z1T1) (k':=?z1k1) (els':=?z1e1) (op:=?z1op) (e:=?z1ee) 3 level 0 ?z1h ?z1he ?z1hj ?z1ho) ?z1g;(case z1h=>rfl);(case z1he=>exact hrow);(case z1hj=>rfl);(case z1ho=>simp[F0]);simp only[List.length_map]);(repeat' (first |refine A0 ?_ |refine A7 ?_ |((first |refine sR (fun K kp=>?_) |refine rX (id:=10) mixed [5] 15 [0,1,2,3,4,5,6,7,8,9,10,11,12,13,14] (fun _ _ K kp=>?_));simp -implicitDefEqProofs (maxSteps:=2000000) (disch:=omega) only[go_sem,hg,zl,hrow,List.length_map,ne_eq,reduceCtorEq,not_false_eq_true,Value.oneCell'];(repeat' (first |(refine K _ ?_;clear K kp) |(with_reducible refine And.intro ?_ ?_) |omega))) |refine A1 rfl ?_))
    have hset:(st.rows.map Ec).set level [.u 3 1 (r.map Ed++[[.r (.int .i64 (i:Int))]])]=(BP st.rows level i).map Ec:=by
     rw[BP,if_pos hlv,List.map_set,aH,hr0];simp[Ec,Ed]
    refine hcut _ ?_
    have hany:((st.rows.map Ec).set level [AV.any])[level]?=some [AV.any]:=by simp[hlv]
    have htk:(r.map Ed++[[AV.r (.int .i64 (i:Int))]]).take (r.length+1)=r.map Ed++[[AV.r (.int .i64 (i:Int))]]:=aN (by simp);(refine Emb.trans (O6 (T:=?z2T) (k:=?z2k) (els:=?z2e) (T':=?z2T1) (k':=?z2k1) (els':=?z2e1) (op:=?z2op) (e:=?z2ee) (m:=?z2m) (lo:=?z2lo) (len:=?z2len) 3 level 0 ?z2h ?z2ho ?z2hm ?z2hn ?z2hl ?z2he ?z2hj) ?z2g;(case z2h=>rfl);(case z2he=>exact hany);(case z2ho=>(simp only[F0,and_self,if_true,↓reduceIte,List.length_map,htk,hset];rfl));(case z2hm=>rfl);(case z2hn=>simp);(case z2hl=>simp[List.length_map,htk,hset]);(case z2hj=>simp[List.length_map,htk,hset]);simp only[rm,Sf,and_self,Nat.le_refl,Nat.zero_add,Nat.lt_add_one,Nat.reduceLT,Nat.reduceEqDiff,↓reduceIte,if_true,List.drop_zero,cZ,dA,List.length_map,htk,hset]);(refine AJ hE [0,1,2,3,4] rfl ?_ ?_<;>simp[Ai,AY,lk,ren,renL,AA,AU,Ba,BH,DT,hlv]<;>(try omega))
   ·obtain rfl:level=st.rows.length:=by omega
    by_cases hk0:k=0
    ·subst hk0
     have hg:((st.rows.length:Int)≤(st.rows.length:Int))=True:=aK (Int.le_refl _);simp only[Nat.add_zero,List.replicate_zero,List.append_nil];(repeat' (first |refine A0 ?_ |refine A4 ?_ |refine A3 ?_ |((refine sR (fun K kp=>?_));simp -implicitDefEqProofs (maxSteps:=2000000) (disch:=omega) only[go_sem,hg,ne_eq,reduceCtorEq,not_false_eq_true];(repeat' (first |(refine K _ ?_;clear K kp) |(with_reducible refine And.intro ?_ ?_) |omega))) |refine A2 rfl ?_));(refine XB (1) ?_ ?_;rotate_left;(·(refine AJ hE [0,1,2,6,4] rfl ?_ ?_<;>simp[Ai,AY,lk,ren,renL,AA,AU,BH,List.replicate]<;>(try omega))));omega
    ·obtain rfl:k=1:=by omega
     have hg:((st.rows.length:Int)+1≤(st.rows.length:Int))=False:=bH (by omega)
     have hrow:(st.rows.map Ec++List.replicate 1 [AV.r (.slice none 0 0)])[st.rows.length]?=some [AV.r (.slice none 0 0)]:=by simp
     have zl:((st.rows.length:Int)<(st.rows.length:Int)+1)=True:=aK (by omega)
     have zc:((st.rows.length+1:Nat):Int)=(st.rows.length:Int)+1:=by omega
     (repeat' (first |refine A0 ?_ |refine A7 ?_ |((first |refine sR (fun K kp=>?_) |refine rX (id:=10) mixed [] 15 [0,1,2,3,4,5,6,7,8,9,10,11,12,13,14] (fun _ _ K kp=>?_));simp -implicitDefEqProofs (maxSteps:=2000000) (disch:=omega) only[go_sem,hg,hrow,zl,zc,ne_eq,reduceCtorEq,not_false_eq_true,Value.oneCell'];(repeat' (refine K _ ?_;clear K kp))) |refine A1 rfl ?_))
     have hset:(st.rows.map Ec++List.replicate 1 [AV.r (.slice none 0 0)]).set st.rows.length [.u 3 1 [[.r (.int .i64 (i:Int))]]]=(BP st.rows st.rows.length i).map Ec:=by
      rw[BP,if_neg hlv];simp[Ec,Ed]
     have hset':st.rows.map Ec++[[.u 3 1 [[.r (.int .i64 (i:Int))]]]]=(BP st.rows st.rows.length i).map Ec:=by
      rw[BP,if_neg hlv];simp[Ec,Ed]
     have hany:((st.rows.map Ec++List.replicate 1 [AV.r (.slice none 0 0)]).set st.rows.length [AV.any])[st.rows.length]?=some [AV.any]:=by simp
     refine hcut _ ?_;refine Emb.trans (T3 (T:=3) (k:=1) (els:=[[.r (.int .i64 (i:Int))]]) 6 rfl) ?_;simp only[C4];(refine Emb.trans (O6 (T:=?z3T) (k:=?z3k) (els:=?z3e) (T':=?z3T1) (k':=?z3k1) (els':=?z3e1) (op:=?z3op) (e:=?z3ee) (m:=?z3m) (lo:=?z3lo) (len:=?z3len) 3 st.rows.length 0 ?z3h ?z3ho ?z3hm ?z3hn ?z3hl ?z3he ?z3hj) ?z3g;(case z3h=>rfl);(case z3he=>exact hany);(case z3ho=>(simp only[F0,and_self,if_true,↓reduceIte,hset,hset',cC,List.take_succ_cons,List.take_zero];rfl));(case z3hm=>rfl);(case z3hn=>simp);(case z3hl=>simp[hset,hset',cC,List.take_succ_cons,List.take_zero]);(case z3hj=>simp[hset,hset',cC,List.take_succ_cons,List.take_zero]);simp only[rm,Sf,and_self,Nat.le_refl,Nat.zero_add,Nat.lt_add_one,Nat.reduceLT,Nat.reduceEqDiff,↓reduceIte,if_true,List.drop_zero,cZ,dA,hset,hset',cC,List.take_succ_cons,List.take_zero]);(refine AJ hE [0,1,2,3,4] rfl ?_ ?_<;>simp[Ai,AY,lk,ren,renL,AA,AU,Ba,BH,DT,hlv]<;>(try omega))
  have hwi:=hw.row1 (level:=level) hi hm
  by_cases hl:p.leaf=true
  ·rw[if_pos hl] at hR
   subst hR;(repeat' (first |refine A0 ?_ |((refine sR (fun K kp=>?_));simp -implicitDefEqProofs (maxSteps:=2000000) (disch:=omega) only[go_sem,hl,Ba];(repeat' (refine K _ ?_;clear K kp))) |refine A2 rfl ?_ |refine A5 ?_));(refine rJ results124 ?_;refine(BS hE [0,1,2,3] rfl ?_ ?_).s<;>simp[A8,AY,lk,ren,renL,AA,AU,EB,Ba,BH])
  rw[if_neg hl] at hR
  replace hl:p.leaf=false:=by simpa using hl
  obtain⟨ks,hks⟩: ∃ks,AF ps i=ks:=⟨_,rfl⟩;rw[hks] at hR
  have hpk:p.kids=Bg ks:=by
   rw[<-hks,AF,hpg,hl];simp only[bU,if_false,Bg,fV];refine(List.map_id _).symm.trans (fN fun x hx=>?_);obtain⟨j,hj⟩:=aO.1 hx;have:=(hpo.kd j (aA.1 hj).1).1;rw[aH,hj] at this;show x=((x.toNat:Nat):Int);have h0:0≤x:=this;omega
  have hkl:ks.length=p.keys.length+1:=by
   have:=hpo.ki hl;rw[hpk] at this;simpa[Bg] using this
  have hkn: ∀x ∈ ks,x<ps.length:=fun x hx=>by
   obtain⟨j,hj⟩:=aO.1 hx
   have hj2:p.kids[j]?=some (x:Int):=by rw[hpk,Bg,List.getElem?_map,hj];rfl
   have:=(hpo.kd j (aA.1 hj2).1).2 hl;rw[aH,hj2] at this;have h0:(x:Int)<ps.length:=this;omega
  have hk4:=hpo.nk;have hne0:=hpo.ne hl
  have hcl:p.kids.length=ks.length:=by rw[hpk,Bg,List.length_map]
  have har:=DT st.rows level i;(repeat' (first |refine A0 ?_ |refine A4 ?_ |refine A3 ?_ |((refine sR (fun K kp=>?_));simp -implicitDefEqProofs (maxSteps:=2000000) (disch:=omega) only[go_sem,hl,Ba];(repeat' (refine K _ ?_;clear K kp))) |refine A1 rfl ?_));refine AB (fun d:Nat×Int×WS=>⟨[(102,.r (.int .i64 d.1)),(101,.r (.int .i64 p.kids.length)),(100,.ro true 1 (p.kids.map eI)),(14,.r (.int .i64 d.2.1)),(13,.p 4 0 0),(4,.r (.int .i64 level)),(3,.ro th 1 (high.map AC)),(2,.ro tl 1 (low.map AC)),(0,.p 0 0 0)],[(0,Ba ps root 3 d.2.2.rows),(1,.mp (Bg d.2.2.met)),(3,.ul 119 1 (d.2.2.rows.map Ec) []),(4,.box 121 [.r (.bool p.leaf),.ro true 1 (p.keys.map DV),.ro true 1 (p.kids.map eI),.ro true 1 (p.high.map AC),.r (.int .i64 p.next)])],5⟩)
   (fun d=>d.1≤ks.length/\WI ps.length d.2.2/\level+1≤d.2.2.rows.length/\st.met.length+1≤d.2.2.met.length/\EE (Cm ps f) p low high (level+1) d.1 d.2.1 d.2.2 (ks.drop d.1)=R) (fun d=>ks.length - d.1) (0,-2,⟨st.met++[i],BP st.rows level i⟩) ?_ ?_ ?_
  ·refine⟨aU _,hwi,?_,by simp,hR⟩
   show level+1≤(BP st.rows level i).length
   rw[har];split<;>omega
  ·(refine AJ hE [0,1,2,3,4] rfl ?_ ?_<;>simp[Ai,AY,lk,ren,renL,AA,AU,hl,Ba,BH]<;>(try omega))
  rintro⟨k,deep,s⟩ ⟨hk,hws,hrs,hms,hRk⟩;have hmls:=hws.len;have hrls:=hws.rl
  by_cases hlt:k<ks.length
  ·have zk:((k:Int)<(p.kids.length:Int))=True:=aK (by rw[hcl];omega)
   dsimp only at hk hws hrs hms hRk hmls hrls ⊢;obtain⟨kid,hkid⟩: ∃x,ks[k]?=some x:=⟨ks[k],by simp[hlt]⟩
   have hkd:p.kids[k]?=some (kid:Int):=by rw[hpk,Bg,List.getElem?_map,hkid];rfl
   have hkidn:=hkn kid (aB hkid)
   have hdrop:ks.drop k=kid::ks.drop (k+1):=by
    obtain⟨h1,rfl⟩:=aA.1 hkid;exact dL h1
   rw[hdrop,EE] at hRk;have IH:=PF E.G ps root hn hall hin f kid (level+1) (HZ p k low) (Fl p k high) (if k=0 then tl else true) (if k<p.keys.length then true else th) s hkidn hws hrs (by omega);obtain⟨hwi2,hwl2⟩:=LL (n:=ps.length) hin f kid (HZ p k low) (Fl p k high) (level+1) s hkidn hws hrs;obtain⟨X,hX⟩: ∃X,Cm ps f kid (HZ p k low) (Fl p k high) (level+1) s=X:=⟨_,rfl⟩;rw[hX] at IH hRk hwi2 hwl2;obtain⟨lo,hlo⟩: ∃x,HZ p k low=x:=⟨_,rfl⟩;obtain⟨hi2,hhi⟩: ∃x,Fl p k high=x:=⟨_,rfl⟩;obtain⟨fl,hfl2⟩: ∃x,(if k=0 then tl else true)=x:=⟨_,rfl⟩;obtain⟨fh,hfh⟩: ∃x,(if k<p.keys.length then true else th)=x:=⟨_,rfl⟩;rw[hlo,hhi,hfl2,hfh] at IH;refine A0 ?_;(refine sR (fun K kp=>?_);simp -implicitDefEqProofs (maxSteps:=2000000) (disch:=omega) only[go_sem,zk];(repeat' (refine K _ ?_;clear K kp)));refine A0 ?_;refine A2 rfl ?_;refine A3 ?_;refine A0 ?_;refine A4 ?_;refine WW (fx:=⟨[(102,.r (.int .i64 k)),(101,.r (.int .i64 p.kids.length)),(100,.ro true 1 (p.kids.map eI)),(18,.ro fh 1 (hi2.map AC)),(17,.ro fl 1 (lo.map AC)),(16,.r (.int .i64 kid)),(14,.r (.int .i64 deep)),(13,.p 4 0 0),(4,.r (.int .i64 level)),(3,.ro th 1 (high.map AC)),(2,.ro tl 1 (low.map AC)),(0,.p 0 0 0)],[(0,Ba ps root 3 s.rows),(1,.mp (Bg s.met)),(3,.ul 119 1 (s.rows.map Ec) []),(4,.box 121 [.r (.bool p.leaf),.ro true 1 (p.keys.map DV),.ro true 1 (p.kids.map eI),.ro true 1 (p.high.map AC),.r (.int .i64 p.next)])],5⟩) ?_ fun K hcut=>?_;rotate_left
   ·cases k with
    |zero=>
     obtain⟨y,hy⟩: ∃y,p.keys[0]?=some y:=⟨p.keys[0]'(by omega),by simp⟩
     have hyD:hi2=y:=by rw[<-hhi,Fl,if_pos (by omega),aH,hy];rfl
     have e1:lo=low:=by rw[<-hlo];rfl
     have e2:fl=tl:=by rw[<-hfl2];rfl
     have e3:fh=true:=by rw[<-hfh,if_pos (by omega)]
     subst hyD e1 e2 e3;have hg:((0:Int)<(p.keys.length:Int))=True:=aK (by omega);have hg2:((0:Int)<(p.kids.length:Int))=True:=aK (by omega);(repeat' (first |refine A0 ?_ |refine A3 ?_ |((refine sR (fun K kp=>?_));simp -implicitDefEqProofs (maxSteps:=2000000) (disch:=omega) only[go_sem,zk,hkd,hy,hg,hg2,eI,DV,Ba];(repeat' (refine K _ ?_;clear K kp))) |refine A2 rfl ?_ |refine A1 rfl ?_));refine hcut _ ?_;(refine AJ hE [0,1,2,3,4] rfl ?_ ?_<;>simp[Ai,AY,lk,ren,renL,AA,AU,Ba,BH]<;>(try omega))
    |succ j=>
     obtain⟨y,hy⟩: ∃y,p.keys[j]?=some y:=⟨p.keys[j]'(by omega),by simp⟩
     have hyD:lo=y:=by rw[<-hlo,HZ,if_neg (by omega),aH,dF,hy];rfl
     have e2:fl=true:=by rw[<-hfl2];rfl
     subst hyD e2
     have hj1:((j+1:Nat):Int) - 1=(j:Int):=by omega
     by_cases hjl:j+1<p.keys.length
     ·obtain⟨z,hz⟩: ∃z,p.keys[j+1]?=some z:=⟨p.keys[j+1]'(by omega),by simp⟩
      have hzD:hi2=z:=by rw[<-hhi,Fl,if_pos hjl,aH,hz];rfl
      have e3:fh=true:=by rw[<-hfh,if_pos hjl]
      subst hzD e3;have hg:(((j+1:Nat):Int)<(p.keys.length:Int))=True:=aK (by omega);(repeat' (first |refine A0 ?_ |((refine sR (fun K kp=>?_));simp -implicitDefEqProofs (maxSteps:=2000000) (disch:=omega) only[go_sem,zk,hkd,hy,hz,hg,hj1,eI,DV,Ba];(repeat' (refine K _ ?_;clear K kp))) |refine A2 rfl ?_ |((refine A6 rfl (fun h=>?_) (fun h=>?_)<;>try simp only[Af] at h)<;>(try (exfalso;omega)))));refine hcut _ ?_;(refine AJ hE [0,1,2,3,4] rfl ?_ ?_<;>simp[Ai,AY,lk,ren,renL,AA,AU,Ba,BH]<;>(try omega))
     ·have e3:fh=th:=by rw[<-hfh,if_neg hjl]
      have e4:hi2=high:=by rw[<-hhi,Fl,if_neg hjl]
      subst e3 e4;have hg:(((j+1:Nat):Int)<(p.keys.length:Int))=False:=bH (by omega);(repeat' (first |refine A0 ?_ |refine A3 ?_ |((refine sR (fun K kp=>?_));simp -implicitDefEqProofs (maxSteps:=2000000) (disch:=omega) only[go_sem,zk,hkd,hy,hg,hj1,eI,DV,Ba];(repeat' (refine K _ ?_;clear K kp))) |refine A1 rfl ?_ |((refine A6 rfl (fun h=>?_) (fun h=>?_)<;>try simp only[Af] at h)<;>(try (exfalso;omega)))));refine hcut _ ?_;(refine AJ hE [0,1,2,3,4] rfl ?_ ?_<;>simp[Ai,AY,lk,ren,renL,AA,AU,Ba,BH]<;>(try omega))
   ·(repeat' (first |refine A0 ?_ |((refine sR (fun K kp=>?_));simp -implicitDefEqProofs (maxSteps:=2000000) (disch:=omega) only[go_sem,Ba];(repeat' (omega)))))
    (refine Ek [0,1,3] (IH) ?_ ?_ ?_ ?_ ?_ ?_ ?_ ?_ rfl rfl ?_;(·simp[Gl,L3,Qq,FE,C0,Kq,lk,EB,Ba,BH,Uo,CZ]);(·simp[AY,lk,AA,renL,ren,AU,EB,Ba,BH,Uo,CZ]);(·(intro i hi;simp only[List.length_cons,List.length_nil] at hi;repeat' (first |omega |exact⟨_,rfl⟩ |(rcases i with _ |i))));(·simp);(·simp);(·simp);(·simp[EB,Ba,BH,Uo,CZ]);(·simp[EB,Ba,BH,Uo,CZ]);simp only[DA,fw,N_,rm,List.map_cons,List.map_nil,List.foldl_cons,List.foldl_nil,List.getElem?_cons_zero,List.getElem?_cons_succ,gE,List.length_cons,List.length_nil,Nat.zero_add,eF,Nat.add_zero,↓reduceIte,Nat.reduceEqDiff,reduceCtorEq,Nat.reduceAdd,Nat.reduceSub,List.cons_append,List.nil_append,ren,renL,AA,EB,Ba,BH,Uo,CZ];simp -implicitDefEqProofs (maxSteps:=2000000) (disch:=omega) only[go_sem,EB,Ba,BH,Uo,CZ];(repeat' (refine K _ ?_;clear K kp)))
    by_cases c1:X.1<0
    ·rw[if_pos (.inl c1)] at hRk
     subst hRk;have g1:(X.1<0)=True:=aK c1;(repeat' (first |refine A0 ?_ |((refine sR (fun K kp=>?_));simp -implicitDefEqProofs (maxSteps:=2000000) (disch:=omega) only[go_sem,g1,Ba];(repeat' (refine K _ ?_;clear K kp))) |refine A2 rfl ?_ |refine A5 ?_));(refine rJ results124 ?_;refine(BS hE [0,1,2,5] rfl ?_ ?_).s<;>simp[A8,AY,lk,ren,renL,AA,AU,EB,Ba,BH])
    have g1:(X.1<0)=False:=bH c1
    by_cases c2:deep= -2
    ·rw[if_neg (by intro h;rcases h with h |⟨h,_⟩;(·exact c1 h);(·exact h c2))] at hRk
     have g2:(deep != -2)=false:=by rw[c2];rfl
     (repeat' (first |refine A0 ?_ |refine A3 ?_ |((refine sR (fun K kp=>?_));simp -implicitDefEqProofs (maxSteps:=2000000) (disch:=omega) only[go_sem,g1,g2,Ba];(repeat' (refine K _ ?_;clear K kp))) |refine A1 rfl ?_));(refine BF ((k+1,X.1,X.2)) ?_ ?_;rotate_left;(·(refine AJ hE [0,1,2,5,4] rfl ?_ ?_<;>simp[Ai,AY,lk,ren,renL,AA,AU,Ba,BH]<;>(try omega))));exact⟨by omega,hwi2,bL hrs hwl2.r,bL hms hwl2.m,hRk⟩
    have g2:(deep != -2)=true:=by simpa using c2
    by_cases c3:X.1=deep
    ·rw[if_neg (by intro h;rcases h with h |⟨_,h⟩;(·exact c1 h);(·exact h c3))] at hRk
     have g3:(X.1 !=deep)=false:=by rw[c3];simp
     (repeat' (first |refine A0 ?_ |refine A3 ?_ |((refine sR (fun K kp=>?_));simp -implicitDefEqProofs (maxSteps:=2000000) (disch:=omega) only[go_sem,g1,g2,g3,Ba];(repeat' (refine K _ ?_;clear K kp))) |refine A1 rfl ?_));(refine BF ((k+1,X.1,X.2)) ?_ ?_;rotate_left;(·(refine AJ hE [0,1,2,5,4] rfl ?_ ?_<;>simp[Ai,AY,lk,ren,renL,AA,AU,Ba,BH]<;>(try omega))));exact⟨by omega,hwi2,bL hrs hwl2.r,bL hms hwl2.m,hRk⟩
    ·rw[if_pos (.inr ⟨c2,c3⟩)] at hRk
     subst hRk
     have g3:(X.1 !=deep)=true:=by simpa using c3
     (repeat' (first |refine A0 ?_ |((refine sR (fun K kp=>?_));simp -implicitDefEqProofs (maxSteps:=2000000) (disch:=omega) only[go_sem,g1,g2,g3,Ba];(repeat' (refine K _ ?_;clear K kp))) |refine A2 rfl ?_ |refine A5 ?_));(refine rJ results124 ?_;refine(BS hE [0,1,2,5] rfl ?_ ?_).s<;>simp[A8,AY,lk,ren,renL,AA,AU,EB,Ba,BH])
  ·obtain rfl:k=ks.length:=by simp only at hk;omega
   rw[cS,EE] at hRk;subst hRk;(repeat' (first |refine A0 ?_ |refine A7 ?_ |((refine sR (fun K kp=>?_));simp -implicitDefEqProofs (maxSteps:=2000000) (disch:=omega) only[go_sem,hcl,Ba];(repeat' (refine K _ ?_;clear K kp))) |((refine A6 rfl (fun h=>?_) (fun h=>?_)<;>try simp only[Af] at h)<;>(try (exfalso;omega))) |refine A5 ?_));(refine rJ results124 ?_;refine(BS hE [0,1,2,3] rfl ?_ ?_).s<;>simp[A8,AY,lk,ren,renL,AA,AU,EB,Ba,BH])
structure ChkOK (ps:List PG)(root:Int):Prop where
 n1:1≤ps.length
 n2:ps.length≤4000
 r0:0≤root
 r1:root<ps.length
 pg: ∀(i:Nat)(p:PG),ps[i]?=some p->PageOK p ps.length
 wk:0≤(Cm ps (ps.length+1) root.toNat [] [] 0 ⟨[],[]⟩).1
 mt:(Cm ps (ps.length+1) root.toNat [] [] 0 ⟨[],[]⟩).2.met.length=ps.length
 ch: ∀l ∈ (Cm ps (ps.length+1) root.toNat [] [] 0 ⟨[],[]⟩).2.rows,JN ps l
noncomputable def Dj (ps:List PG)(root:Int):Int:= @ite Int (ChkOK ps root) (Classical.propDecidable _) 0 11
theorem K1 {ps:List PG}{root:Int}(h:ChkOK ps root):Dj ps root=0:=if_pos h
theorem IS {ps:List PG}{root:Int}(h: ¬ChkOK ps root):Dj ps root=11:=if_neg h
def Yw (ps:List PG):Prop:= ∀p ∈ ps,p.keys.length≤1048576/\p.kids.length≤1048576
theorem Pn (G:GL)(p:PG)(many:Nat)(hb:p.keys.length≤1048576)(hb2:p.kids.length≤1048576):Con prog G 123 [.agg (eP p),.r (.int .i64 many)] [] 0 (Is (.r (.bool (Wi p many))) [] 0) No:=by
 by_cases H:HeadOK p many
 ·exact Tx G p many H hb2
 ·exact Tw G p many H hb
theorem J3 {ps:List PG}(h: ∀(i:Nat)(p:PG),ps[i]?=some p->PageOK p ps.length): ∀i x,x ∈ AF ps i->x<ps.length:=by
 intro i x hx
 cases hp:ps[i]? with
 |none=>
  have:pg ps i=default:=by rw[pg,aH,hp];rfl
  rw[AF,this] at hx;cases hx
 |some p=>
  have hpg:pg ps i=p:=by rw[pg,aH,hp];rfl
  rw[AF,hpg] at hx;split at hx
  ·cases hx
  ·rename_i hl
   obtain⟨y,hy,rfl⟩:=cI.1 hx;obtain⟨j,hj⟩:=aO.1 hy;have:=(h i p hp).kd j (aA.1 hj).1;rw[aH,hj] at this;have h1:0≤y:=this.1;have h2:y<ps.length:=this.2 (by simpa using hl);omega
theorem DH {ps:List PG}(h: ∀(i:Nat)(p:PG),ps[i]?=some p->PageOK p ps.length): ∀i,(pg ps i).leaf=false->AF ps i≠[]:=by
 intro i hl he
 cases hp:ps[i]? with
 |none=>
  have:pg ps i=default:=by rw[pg,aH,hp];rfl
  rw[this] at hl;cases hl
 |some p=>
  have hpg:pg ps i=p:=by rw[pg,aH,hp];rfl
  rw[hpg] at hl;rw[AF,hpg,hl] at he
  have h1:p.kids=[]:=by simpa using he
  have:=(h i p hp).ki hl;rw[h1] at this;simp at this
theorem Rb {ps:List PG}{n:Nat}(hin: ∀i x,x ∈ AF ps i->x<n): ∀(j:Nat)(l:List Nat),(∀x ∈ l,x<n)-> ∀x ∈ Cj ps j l,x<n
 |0,l,h,x,hx=>h x hx
 |j+1,l,h,x,hx=>Rb hin j _ (fun y hy=>by obtain⟨z,_,hz⟩:=dN.1 hy;exact hin z y hz) x hx
def eNs (l:List Nat):List AV:=[.ro true 1 (l.map Ed)]
theorem W8 (rows:List (List Nat)):F9 true (rows.map Ec)=rows.map eNs:=
 Mf true Ec eNs (fun a=>by
  simp only[Ec,eNs,JJ,ZL]
  rw[Mf true Ed Ed (fun b=>by simp[Ed,JJ,ZL])]) rows
theorem Dx (G:GL)(ps:List PG)(root:Int)(ho:Yw ps):Con prog G 73 [.agg [.ro true 5 (ps.map eP),.r (.int .i64 root)]] [] 0 (Is (.r (.int .i64 (Dj ps root))) [] 0) No:=by
 obtain⟨R,hR⟩: ∃R,Dj ps root=R:=⟨_,rfl⟩
 have hbad: ¬ChkOK ps root->R=11:=fun h=>by rw[<-hR];exact IS h
 have hgood:ChkOK ps root->R=0:=fun h=>by rw[<-hR];exact K1 h
 rw[hR];refine cJ func73 fun E hG hE=>?_;subst hG;simp only[AX]
 by_cases hb0:1≤ps.length/\ps.length≤4000/\0≤root/\root<ps.length
 rotate_left
 ·obtain rfl:=hbad fun X=>hb0 ⟨X.n1,X.n2,X.r0,X.r1⟩
  clear hbad hgood hR;(repeat' (first |refine A0 ?_ |refine A4 ?_ |refine A3 ?_ |((first |refine sR (fun K kp=>?_) |refine iG ?_);simp(disch:=omega) only[go_sem,eP];(repeat' (refine K _ ?_;clear K kp))) |((refine aG (fun h=>?_) (fun h=>?_))<;>simp only[h]) |refine A2 rfl ?_ |((refine A6 rfl (fun h=>?_) (fun h=>?_)<;>try simp only[Af] at h)<;>(try (exfalso;omega))) |refine A5 ?_))
  all_goals first
   |(refine rJ results73 ?_;refine eN hE ?_;simp[A8,ren,renL])
   |(exfalso;simp only[decide_eq_false_iff_not] at *;omega)
 obtain⟨b1,b2,b3,b4⟩:=hb0;obtain⟨rt,hrt⟩: ∃rt:Nat,root=rt:=⟨root.toNat,by omega⟩;subst hrt;have g1:((ps.length:Int)<1)=False:=bH (by omega);have g2:((ps.length:Int)>4000)=False:=bH (by omega);have g3:((rt:Int)<0)=False:=bH (by omega);have g4:((rt:Int)≥(ps.length:Int))=False:=bH (by omega);refine A0 ?_;(refine sR (fun K kp=>?_);simp(disch:=omega) only[go_sem];(repeat' (refine K _ ?_;clear K kp)));refine A0 ?_;refine A0 ?_;(refine sR (fun K kp=>?_);simp(disch:=omega) only[go_sem,g1,g2,g3,g4];(repeat' (refine K _ ?_;clear K kp)));refine A1 rfl ?_;refine A3 ?_
 by_cases hall: ∀(i:Nat)(p:PG),ps[i]?=some p->PageOK p ps.length
 rotate_left
 ·obtain rfl:=hbad fun X=>hall X.pg
  clear hbad hgood hR;(repeat' (first |refine A0 ?_ |refine A4 ?_ |((refine sR (fun K kp=>?_));simp(disch:=omega) only[go_sem,eP];(repeat' (refine K _ ?_;clear K kp)))));refine AB (fun i:Nat=>⟨[(37,.r (.int .i64 i)),(36,.r (.int .i64 ps.length)),(35,.ro true 5 (ps.map eP)),(1,.p 0 0 0)],[(0,.box 43 [.ro true 5 (ps.map eP),.r (.int .i64 rt)])],1⟩) (fun i=>i≤ps.length/\ ∀(j:Nat)(p:PG),j<i->ps[j]?=some p->PageOK p ps.length) (fun i=>ps.length - i) 0 ?_ ?_ ?_
  ·exact⟨aU _,fun j p hj=>by omega⟩
  ·(exact iK hE [0])
  intro i hi;obtain⟨hi,hdone⟩:=hi
  by_cases hlt:i<ps.length
  ·have zi:((i:Int)<(ps.length:Int))=True:=aK (by omega)
   obtain⟨p,hp⟩: ∃p,ps[i]?=some p:=⟨ps[i],by simp[hlt]⟩;have pc:=Pn E.G p ps.length (ho p (aB hp)).1 (ho p (aB hp)).2
   by_cases hpo:PageOK p ps.length
   ·rw[Ng hpo] at pc
    (repeat' (first |refine A0 ?_ |refine A4 ?_ |refine A3 ?_ |((first |refine sR (fun K kp=>?_) |refine cR pc ?_);simp(disch:=omega) only[go_sem,zi,hp,eP];(repeat' (refine K _ ?_;clear K kp))) |refine A2 rfl ?_ |refine A1 rfl ?_));(refine BF (i+1) ?_ (iK hE [0]));refine⟨by omega,fun j q hj hq=>?_⟩
    by_cases he:j=i
    ·subst he;rw[hp] at hq;cases hq;exact hpo
    ·exact hdone j q (by omega) hq
   ·rw[Hy hpo] at pc
    (repeat' (first |refine A0 ?_ |refine A4 ?_ |refine A3 ?_ |((first |refine sR (fun K kp=>?_) |refine cR pc ?_);simp(disch:=omega) only[go_sem,zi,hp,eP];(repeat' (refine K _ ?_;clear K kp))) |refine A2 rfl ?_ |refine A5 ?_));(refine rJ results73 ?_;exact eQ hE)
  ·exfalso
   exact hall fun j p hp=>hdone j p (by have:=(aA.1 hp).1;omega) hp
 refine Xv (fx:=⟨[(1,.p 0 0 0)],[(0,.box 43 [.ro true 5 (ps.map eP),.r (.int .i64 rt)])],1⟩) ?_ fun K hcut=>?_;rotate_left
 ·(repeat' (first |refine A0 ?_ |refine A4 ?_ |((refine sR (fun K kp=>?_));simp(disch:=omega) only[go_sem,eP];(repeat' (refine K _ ?_;clear K kp)))))
  refine AB (fun i:Nat=>⟨[(37,.r (.int .i64 i)),(36,.r (.int .i64 ps.length)),(35,.ro true 5 (ps.map eP)),(1,.p 0 0 0)],[(0,.box 43 [.ro true 5 (ps.map eP),.r (.int .i64 rt)])],1⟩) (fun i=>i≤ps.length) (fun i=>ps.length - i) 0 ?_ ?_ ?_
  ·exact aU _
  ·(exact iK hE [0])
  intro i hi
  by_cases hlt:i<ps.length
  ·have zi:((i:Int)<(ps.length:Int))=True:=aK (by omega)
   obtain⟨p,hp⟩: ∃p,ps[i]?=some p:=⟨ps[i],by simp[hlt]⟩;have pc:=Pn E.G p ps.length (ho p (aB hp)).1 (ho p (aB hp)).2;rw[Ng (hall i p hp)] at pc;(repeat' (first |refine A0 ?_ |refine A4 ?_ |refine A3 ?_ |((first |refine sR (fun K kp=>?_) |refine cR pc ?_);simp(disch:=omega) only[go_sem,zi,hp,eP];(repeat' (refine K _ ?_;clear K kp))) |refine A2 rfl ?_ |refine A1 rfl ?_));(refine BF (i+1) ?_ (iK hE [0]));omega
  ·obtain rfl:i=ps.length:=by omega
   (repeat' (first |refine A0 ?_ |refine A7 ?_ |((refine sR (fun K kp=>?_));simp(disch:=omega) only[go_sem];(repeat' (refine K _ ?_;clear K kp))) |((refine A6 rfl (fun h=>?_) (fun h=>?_)<;>try simp only[Af] at h)<;>(try (exfalso;omega)))));refine hcut _ ?_;(exact iK hE [0])
 have hin:=J3 hall;have wi0:WI ps.length ⟨[],[]⟩:=⟨fG,by simp,Nat.le_refl _,by simp⟩;have wc:=PF E.G ps rt b2 (fun p hp=>by obtain⟨i,hi⟩:=aO.1 hp;exact hall i p hi) hin (ps.length+1) rt 0 [] [] true true ⟨[],[]⟩ (by omega) wi0 (Nat.le_refl _) (by simp);obtain⟨X,hX⟩: ∃X,Cm ps (ps.length+1) rt [] [] 0 ⟨[],[]⟩=X:=⟨_,rfl⟩;obtain⟨wi,wl⟩:=LL (n:=ps.length) hin (ps.length+1) rt [] [] 0 ⟨[],[]⟩ (by omega) wi0 (Nat.le_refl _);rw[hX] at wc wi wl;have hgood:0≤X.1->X.2.met.length=ps.length->(∀l ∈ X.2.rows,JN ps l)->R=0:=fun h1 h2 h3=>hgood ⟨b1,b2,b3,b4,hall,by rw[Int.toNat_natCast,hX];exact h1,by rw[Int.toNat_natCast,hX];exact h2,by rw[Int.toNat_natCast,hX];exact h3⟩;have hbad1: ¬0≤X.1->R=11:=fun h=>hbad fun Y=>h (by have:=Y.wk;rwa [Int.toNat_natCast,hX] at this);have hbad2:X.2.met.length≠ps.length->R=11:=fun h=>hbad fun Y=>h (by have:=Y.mt;rwa [Int.toNat_natCast,hX] at this);have hbad3: ¬(∀l ∈ X.2.rows,JN ps l)->R=11:=fun h=>hbad fun Y=>h (by have:=Y.ch;rwa [Int.toNat_natCast,hX] at this);clear hbad;refine A0 ?_;(refine sR (fun K kp=>?_);simp(disch:=omega) only[go_sem,eP];(repeat' (refine K _ ?_;clear K kp)));(refine AWP.emb (EG 2 3 119 1 rfl rfl (by simp)) ?_;simp only[cZ,dA,lk,↓reduceIte,Nat.reduceAdd]);(refine AWP.emb (T3 (T:=?z1T) (k:=?z1k) (els:=?z1e) 3 ?z1h) ?z1g;(case z1h=>rfl);simp only[C4])
 replace wc:=wc.weak (xs:=[.p 0 0 0,.r (.int .i64 rt),.r (.slice none 0 0),.r (.slice none 0 0),.r (.int .i64 0)]) (by simp[Gb,wk])
 (repeat' (first |refine A0 ?_ |((refine rP (id:=10) mixed 3 4 [0,1,2] [4,5,6,7,8,9,10,11,12,13,14,15] (fun _ _ K kp=>?_));simp(disch:=omega) only[go_sem,eP];(repeat' (omega)))));(refine Ek [2,1,3] (wc) ?_ ?_ ?_ ?_ ?_ ?_ ?_ ?_ rfl rfl ?_;(·simp[Gl,L3,Qq,FE,C0,Kq,lk,EB,Ba,BH,Uo,CZ,List.map_nil,Bg,List.length_nil]);(·simp[AY,lk,AA,renL,ren,AU,EB,Ba,BH,Uo,CZ,List.map_nil,Bg,List.length_nil]);(·(intro i hi;simp only[List.length_cons,List.length_nil] at hi;repeat' (first |omega |exact⟨_,rfl⟩ |(rcases i with _ |i))));(·simp);(·simp);(·simp);(·simp[EB,Ba,BH,Uo,CZ,List.map_nil,Bg,List.length_nil]);(·simp[EB,Ba,BH,Uo,CZ,List.map_nil,Bg,List.length_nil]);simp only[DA,fw,N_,rm,List.map_cons,List.map_nil,List.foldl_cons,List.foldl_nil,List.getElem?_cons_zero,List.getElem?_cons_succ,gE,List.length_cons,List.length_nil,Nat.zero_add,eF,Nat.add_zero,↓reduceIte,Nat.reduceEqDiff,reduceCtorEq,Nat.reduceAdd,Nat.reduceSub,List.cons_append,List.nil_append,ren,renL,AA,EB,Ba,BH,Uo,CZ,List.map_nil,Bg,List.length_nil];simp(disch:=omega) only[go_sem,EB,Ba,BH,Uo,CZ,List.map_nil,Bg,List.length_nil];(repeat' (refine K _ ?_;clear K kp)))
 by_cases c1:0≤X.1
 rotate_left
 ·obtain rfl:=hbad1 c1
  have q1:(X.1<0)=True:=aK (by omega);(repeat' (first |refine A0 ?_ |((first |refine sR (fun K kp=>?_) |refine phA (fun _ _ K kp=>?_));simp(disch:=omega) only[go_sem,eP,q1];(repeat' (refine K _ ?_;clear K kp))) |refine A2 rfl ?_ |refine A5 ?_));(refine rJ results73 ?_;exact eQ hE)
 have q1:(X.1<0)=False:=bH (by omega)
 by_cases c2:X.2.met.length=ps.length
 rotate_left
 ·obtain rfl:=hbad2 c2
  have q2:((X.2.met.length:Int) !=(ps.length:Int))=true:=by simp;omega
  (repeat' (first |refine A0 ?_ |((first |refine sR (fun K kp=>?_) |refine phA (fun _ _ K kp=>?_));simp(disch:=omega) only[go_sem,eP,q1,q2,List.length_map];(repeat' (refine K _ ?_;clear K kp))) |refine A2 rfl ?_ |refine A5 ?_));(refine rJ results73 ?_;exact eQ hE)
 have q2:((X.2.met.length:Int) !=(ps.length:Int))=false:=by rw[c2];simp
 obtain⟨dd,W⟩:=Em (DH hall) (ps.length+1) rt [] [] 0 ⟨[],[]⟩ (Nat.le_refl _) fG (by rw[hX];exact c1);rw[hX] at W
 have hrow: ∀(m:Nat)(l:List Nat),X.2.rows[m]?=some l-> ∀x ∈ l,x<ps.length:=by
  intro m l hl x hx;have h1:=W.rows m;rw[aH,hl] at h1;simp only[dH,aU,if_true,Nat.sub_zero] at h1
  have h2:l=Cj ps m [rt]:=by simpa using h1
  rw[h2] at hx;exact Rb hin m [rt] (by simp;omega) x hx
 have wil:=wi.len;have wirl:=wi.rl;(repeat' (first |refine A0 ?_ |refine A4 ?_ |refine A3 ?_ |((first |refine sR (fun K kp=>?_) |refine phA (fun _ _ K kp=>?_));simp(disch:=omega) only[go_sem,eP,q1,q2,List.length_map];(repeat' (refine K _ ?_;clear K kp))) |refine A1 rfl ?_));(refine AWP.emb (Xg (T:=?z2T) (k:=?z2k) (els:=?z2e) 4 ?z2h) ?z2g;(case z2h=>rfl);simp only[C4,W8]);refine AB (fun k:Nat=>⟨[(73,.r (.int .i64 k)),(72,.r (.int .i64 X.2.rows.length)),(71,.s 1 0 X.2.rows.length),(1,.p 0 0 0)],[(0,.box 43 [.ro true 5 (ps.map eP),.r (.int .i64 rt)]),(1,.lst 119 1 (X.2.rows.map eNs))],2⟩) (fun k=>k≤X.2.rows.length/\ ∀(j:Nat) l,j<k->X.2.rows[j]?=some l->JN ps l) (fun k=>X.2.rows.length - k) 0 ?_ ?_ ?_
 ·exact⟨aU _,fun j l hj=>by omega⟩
 ·(exact iK hE [0,4])
 intro k hk;obtain⟨hk,hdone⟩:=hk
 by_cases hlt:k<X.2.rows.length
 ·have zk:((k:Int)<(X.2.rows.length:Int))=True:=aK (by omega)
  obtain⟨l,hl⟩: ∃l,X.2.rows[k]?=some l:=⟨X.2.rows[k],by simp[hlt]⟩;have hll:=wi.rs l (aB hl);(repeat' (first |refine A0 ?_ |refine A4 ?_ |refine A3 ?_ |((refine sR (fun K kp=>?_));simp(disch:=omega) only[go_sem,zk,hl,eNs];(repeat' (refine K _ ?_;clear K kp))) |refine A2 rfl ?_));refine AB (fun i:Nat=>⟨[(79,.r (.int .i64 i)),(78,.r (.int .i64 l.length)),(77,.ro true 1 (l.map Ed)),(7,.ro true 1 (l.map Ed)),(73,.r (.int .i64 k)),(72,.r (.int .i64 X.2.rows.length)),(71,.s 1 0 X.2.rows.length),(1,.p 0 0 0)],[(0,.box 43 [.ro true 5 (ps.map eP),.r (.int .i64 rt)]),(1,.lst 119 1 (X.2.rows.map eNs))],2⟩) (fun i=>i≤l.length/\ ∀(j y:Nat),j<i->l[j]?=some y->(pg ps y).next=E2 l j) (fun i=>l.length - i) 0 ?_ ?_ ?_
  ·exact⟨aU _,fun j l hj=>by omega⟩
  ·(exact iK hE [0,1])
  intro i hi;obtain⟨hi,hd2⟩:=hi
  by_cases hil:i<l.length
  ·have zi:((i:Int)<(l.length:Int))=True:=aK (by omega)
   obtain⟨x,hx⟩: ∃x,l[i]?=some x:=⟨l[i],by simp[hil]⟩;have hxn:=hrow k l hl x (aB hx);obtain⟨p,hp⟩: ∃p,ps[x]?=some p:=⟨ps[x],by simp[hxn]⟩
   have hpg:pg ps x=p:=by rw[pg,aH,hp];rfl
   have zx:((x:Int)<(ps.length:Int))=True:=aK (by omega)
   have i1:(i:Int)+1=((i+1:Nat):Int):=by omega
   by_cases hi1:i+1<l.length
   ·have q3:(((i+1:Nat):Int)<(l.length:Int))=True:=aK (by omega)
    obtain⟨y,hy⟩: ∃y,l[i+1]?=some y:=⟨l[i+1],by simp[hi1]⟩
    have hrt2:E2 l i=(y:Int):=by rw[E2,hy]
    by_cases hc:p.next=(y:Int)
    ·have q4:(p.next !=(y:Int))=false:=by rw[hc];simp
     (repeat' (first |refine A0 ?_ |refine A4 ?_ |refine A3 ?_ |((refine sR (fun K kp=>?_));simp(disch:=omega) only[go_sem,zi,hx,hp,Ed,eP,q3,i1,hy,zx,q4];(repeat' (refine K _ ?_;clear K kp))) |refine A2 rfl ?_ |refine A1 rfl ?_));(refine BF (i+1) ?_ (iK hE [0,1]))
     exact⟨by omega,fun j y' hj hy'=>(by
      by_cases he:j=i
      ·subst he;rw[hx] at hy';cases hy';rw[hpg,hrt2];exact hc
      ·exact hd2 j y' (by omega) hy')⟩
    ·skip
     obtain rfl:=hbad3 fun Y=>(by
      have h1:=Y l (aB hl) i x hx;rw[hpg,hrt2] at h1
      exact hc h1)
     have q4:(p.next !=(y:Int))=true:=by simpa using hc
     (repeat' (first |refine A0 ?_ |refine A4 ?_ |refine A3 ?_ |((refine sR (fun K kp=>?_));simp(disch:=omega) only[go_sem,zi,hx,hp,Ed,eP,q3,i1,hy,zx,q4];(repeat' (refine K _ ?_;clear K kp))) |refine A2 rfl ?_ |refine A5 ?_));(refine rJ results73 ?_;exact eQ hE)
   ·have q3:(((i+1:Nat):Int)<(l.length:Int))=False:=bH (by omega)
    have hrt2:E2 l i= -1:=by rw[E2,bO (by omega)]
    by_cases hc:p.next= -1
    ·have q4:(p.next != -1)=false:=by rw[hc];rfl
     (repeat' (first |refine A0 ?_ |refine A4 ?_ |refine A3 ?_ |((refine sR (fun K kp=>?_));simp(disch:=omega) only[go_sem,zi,hx,hp,Ed,eP,q3,i1,zx,q4];(repeat' (refine K _ ?_;clear K kp))) |refine A2 rfl ?_ |refine A1 rfl ?_));(refine BF (i+1) ?_ (iK hE [0,1]))
     exact⟨by omega,fun j y' hj hy'=>(by
      by_cases he:j=i
      ·subst he;rw[hx] at hy';cases hy';rw[hpg,hrt2];exact hc
      ·exact hd2 j y' (by omega) hy')⟩
    ·skip
     obtain rfl:=hbad3 fun Y=>(by
      have h1:=Y l (aB hl) i x hx;rw[hpg,hrt2] at h1
      exact hc h1)
     have q4:(p.next != -1)=true:=by simpa using hc
     (repeat' (first |refine A0 ?_ |refine A4 ?_ |refine A3 ?_ |((refine sR (fun K kp=>?_));simp(disch:=omega) only[go_sem,zi,hx,hp,Ed,eP,q3,i1,zx,q4];(repeat' (refine K _ ?_;clear K kp))) |refine A2 rfl ?_ |refine A1 rfl ?_ |refine A5 ?_));(refine rJ results73 ?_;exact eQ hE)
  ·obtain rfl:i=l.length:=by omega
   (repeat' (first |refine A0 ?_ |refine A7 ?_ |((refine sR (fun K kp=>?_));simp(disch:=omega) only[go_sem];(repeat' (refine K _ ?_;clear K kp))) |((refine A6 rfl (fun h=>?_) (fun h=>?_)<;>try simp only[Af] at h)<;>(try (exfalso;omega)))));(refine BF (k+1) ?_ (iK hE [0,1]));refine⟨by omega,fun j m hj hm=>?_⟩
   by_cases he:j=k
   ·subst he;rw[hl] at hm;cases hm
    exact fun a b hb=>hd2 a b (aA.1 hb).1 hb
   ·exact hdone j m (by omega) hm
 ·obtain rfl:k=X.2.rows.length:=by omega
  obtain rfl:=hgood c1 c2 fun l hl=>by
   obtain⟨j,hj⟩:=aO.1 hl;exact hdone j l (aA.1 hj).1 hj
  (repeat' (first |refine A0 ?_ |refine A7 ?_ |((refine sR (fun K kp=>?_));simp(disch:=omega) only[go_sem];(repeat' (refine K _ ?_;clear K kp))) |((refine A6 rfl (fun h=>?_) (fun h=>?_)<;>try simp only[Af] at h)<;>(try (exfalso;omega))) |refine A5 ?_));(refine rJ results73 ?_;exact eQ hE)
theorem Va (n:Int)(l:Nat):((n== -1)=true↔n= -1)/\(((l:Int)==0)=true↔l=0):=⟨cY,by rw[cY];omega⟩
theorem V_ {n:Int}{l:Nat}(h0: -1≤n)(h:((n== -1)==((l:Int)==0))=true):n<0↔l=0:=by
 obtain⟨a,b⟩:=Va n l;rw[cY] at h;rw[<-b,<-h,a];omega
theorem Z0 {n:Int}{l:Nat}(h0: -1≤n)(h:n<0↔l=0):(!((n== -1)==((l:Int)==0)))=false:=by
 obtain⟨a,b⟩:=Va n l;have:(n== -1)=((l:Int)==0):=cQ.2 (by rw[a,b,<-h];omega);rw[this];simp
theorem Ru (G:GL)(p:PG)(many:Nat)(H: ¬HeadOK p many)(hb:p.keys.length≤1048576)(hm:many≤1048576):Con prog G 147 [.agg (eP p),.r (.int .i64 many)] [] 0 (Is (.r (.bool (!Wi p many))) [] 0) No:=by
 rw[Hy fun x=>H x.1];have ic:=J5 G p.next (-1) ((many:Int) - 1);refine cJ func147 fun E hG hE=>?_;subst hG;simp only[AX];cases hl:p.leaf
 ·(repeat' (first |refine A0 ?_ |refine A4 ?_ |refine A3 ?_ |((first |refine sR (fun K kp=>?_) |refine cR ic ?_ |refine iG ?_);simp -implicitDefEqProofs (disch:=omega) only[go_sem,eP,hl];(repeat' (refine K _ ?_;clear K kp))) |((refine aG (fun h=>?_) (fun h=>?_))<;>simp only[h]) |refine A2 rfl ?_ |((refine A6 rfl (fun h=>?_) (fun h=>?_)<;>try simp only[Af] at h)<;>(try (exfalso;omega))) |refine A5 ?_))
  all_goals first
   |(refine rJ results147 ?_;refine eN hE ?_;simp[A8,ren,renL])
   |skip
  all_goals (exfalso;apply H;simp only[decide_eq_false_iff_not,aP,bne_eq_false_iff_eq,fY,aJ] at *)
  rename_i h2 h3 h4 h5 h6;exact⟨by omega,by omega,by omega,by omega,V_ (by omega) h6,fun h=>(by rw[hl] at h;cases h),fun _=>by omega,fun _=>by omega⟩
 ·(repeat' (first |refine A0 ?_ |refine A4 ?_ |refine A3 ?_ |((first |refine sR (fun K kp=>?_) |refine cR ic ?_ |refine iG ?_);simp -implicitDefEqProofs (disch:=omega) only[go_sem,eP,hl];(repeat' (refine K _ ?_;clear K kp))) |((refine aG (fun h=>?_) (fun h=>?_))<;>simp only[h]) |refine A2 rfl ?_ |refine A1 rfl ?_ |((refine A6 rfl (fun h=>?_) (fun h=>?_)<;>try simp only[Af] at h)<;>(try (exfalso;omega))) |refine A5 ?_))
  all_goals first
   |(refine rJ results147 ?_;refine eN hE ?_;simp[A8,ren,renL])
   |skip
  all_goals (exfalso;apply H;simp only[decide_eq_false_iff_not,aP,bne_eq_false_iff_eq,fY,aJ] at *)
  rename_i h2 h3 h4 h6;exact⟨by omega,by omega,by omega,by omega,V_ (by omega) h6,fun _=>by omega,fun h=>(by rw[hl] at h;cases h),fun h=>(by rw[hl] at h;cases h)⟩
theorem Rv (G:GL)(p:PG)(many:Nat)(H:HeadOK p many)(hb:p.kids.length≤1048576)(hm:many≤1048576):Con prog G 147 [.agg (eP p),.r (.int .i64 many)] [] 0 (Is (.r (.bool (!Wi p many))) [] 0) No:=by
 have f1:((p.keys.length:Int)>4)=False:=bH (by have:=H.nk;omega);have f2:((p.high.length:Int)>100)=False:=bH (by have:=H.nh;omega);have f3:(-1≤p.next)=True:=aK H.n0;have f4:(p.next≤(many:Int) - 1)=True:=aK (by have:=H.n1;omega);have f5:=Z0 H.n0 H.nb;have hk4:=H.nk;have ic:=J5 G p.next (-1) ((many:Int) - 1);simp only[f3,f4,decide_true,Bool.and_self] at ic;refine cJ func147 fun E hG hE=>?_;subst hG;simp only[AX];cases hl:p.leaf
 case' false=>
  have f6:=H.ki hl
  have f7:((p.keys.length:Int)==0)=false:=by have:=H.ne hl;simp;exact List.ne_nil_of_length_pos (by omega)
  have f8:((p.kids.length:Int) !=(p.keys.length:Int)+1)=false:=by rw[f6];simp
  (repeat' (first |refine A0 ?_ |refine A4 ?_ |refine A3 ?_ |((first |refine sR (fun K kp=>?_) |refine cR ic ?_);simp -implicitDefEqProofs (disch:=omega) only[go_sem,eP,hl,f1,f2,f5,f7,f8];(repeat' (refine K _ ?_;clear K kp))) |refine A2 rfl ?_ |refine A1 rfl ?_))
 case' true=>
  have f6:=H.kl hl
  have f8:((p.kids.length:Int) !=(p.keys.length:Int))=false:=by rw[f6];simp
  (repeat' (first |refine A0 ?_ |refine A4 ?_ |refine A3 ?_ |((first |refine sR (fun K kp=>?_) |refine cR ic ?_);simp -implicitDefEqProofs (disch:=omega) only[go_sem,eP,hl,f1,f2,f5,f8];(repeat' (refine K _ ?_;clear K kp))) |refine A1 rfl ?_))
 all_goals
  refine AB (fun i:Nat=>⟨[(6,.r (.int .i64 i)),(2,.p 0 0 0),(1,.r (.int .i64 many))],[(0,.box 121 [.r (.bool p.leaf),.ro true 1 (p.keys.map DV),.ro true 1 (p.kids.map eI),.ro true 1 (p.high.map AC),.r (.int .i64 p.next)])],1⟩) (fun i=>i≤p.keys.length/\ ∀j,j<i->Gn p j) (fun i=>p.keys.length - i) 0 ?_ ?_ ?_
  ·exact⟨aU _,fun j hj=>by omega⟩
  ·(refine AJ hE [0] rfl ?_ ?_<;>simp[Ai,AY,lk,ren,renL,AA,AU,hl]<;>(try omega))
  intro i hi;obtain⟨hi,hdone⟩:=hi
  by_cases hlt:i<p.keys.length
  ·have zi:((i:Int)<(p.keys.length:Int))=True:=aK (by omega)
   obtain⟨x,hx⟩: ∃x,p.keys[i]?=some x:=⟨p.keys[i],by simp[hlt]⟩
   have hxD:p.keys.getD i []=x:=by rw[aH,hx];rfl
   cases i with
   |zero=>
    have hok:Gn p 0↔GB x=true/\(0<p.high.length->Op.bytesLess x p.high=true):=by unfold Gn BI;rw[hxD];simp
    (repeat' (first |refine A0 ?_ |refine A4 ?_ |refine A3 ?_ |((first |refine sR (fun K kp=>?_) |refine sI (id:=11) mixed 43 (fun K kp=>?_) |refine cD (ME _ _ _) ?_ |refine cD (Ar _ _ _ _ _) ?_ |refine iD ?_);simp -implicitDefEqProofs (disch:=omega) only[go_sem,zi,hx,DV];(repeat' (refine K _ ?_;clear K kp))) |((refine aD (fun h=>?_) (fun h=>?_))<;>simp only[h]) |refine A2 rfl ?_ |refine A1 rfl ?_ |((refine A6 rfl (fun h=>?_) (fun h=>?_)<;>try simp only[Af] at h)<;>(try (exfalso;omega))) |refine A5 ?_))
    all_goals first
     |(rw[Hy (fun X=>absurd (hok.1 (X.ks _ hlt)) (by clear hE hdone;simp_all))];(refine rJ results147 ?_;refine eN hE ?_;simp[A8,ren,renL]))
     |(have hok':=hok.2 (by clear hE hdone;simp_all);(refine BF (0+1) ?_ (iK hE [0]));exact⟨by omega,fun j' hj'=>(by by_cases he:j'=0;(·rw[he];exact hok');(·exact hdone j' (by omega)))⟩)
   |succ j=>
    obtain⟨y,hy⟩: ∃y,p.keys[j]?=some y:=⟨p.keys[j],by simp[show j<p.keys.length by omega]⟩
    have hyD:p.keys.getD j []=y:=by rw[aH,hy];rfl
    have hj1:((j+1:Nat):Int) - 1=(j:Int):=by omega
    have hok:Gn p (j+1)↔GB x=true/\Op.bytesLess y x=true/\(0<p.high.length->Op.bytesLess x p.high=true):=by unfold Gn BI;rw[hxD,dF,hyD];simp
    (repeat' (first |refine A0 ?_ |refine A4 ?_ |refine A3 ?_ |((first |refine sR (fun K kp=>?_) |refine sI (id:=11) mixed 43 (fun K kp=>?_) |refine cD (ME _ _ _) ?_ |refine cD (Ar _ _ _ _ _) ?_ |refine iD ?_);simp -implicitDefEqProofs (disch:=omega) only[go_sem,zi,hx,hy,hj1,DV];(repeat' (refine K _ ?_;clear K kp))) |((refine aD (fun h=>?_) (fun h=>?_))<;>simp only[h]) |refine A2 rfl ?_ |refine A1 rfl ?_ |((refine A6 rfl (fun h=>?_) (fun h=>?_)<;>try simp only[Af] at h)<;>(try (exfalso;omega))) |refine A5 ?_))
    all_goals first
     |(rw[Hy (fun X=>absurd (hok.1 (X.ks _ hlt)) (by clear hE hdone;simp_all))];(refine rJ results147 ?_;refine eN hE ?_;simp[A8,ren,renL]))
     |(have hok':=hok.2 (by clear hE hdone;simp_all);(refine BF (j+1+1) ?_ (iK hE [0]));exact⟨by omega,fun j' hj'=>(by by_cases he:j'=j+1;(·rw[he];exact hok');(·exact hdone j' (by omega)))⟩)
  ·obtain rfl:i=p.keys.length:=by omega
   (repeat' (first |refine A0 ?_ |refine A4 ?_ |refine A7 ?_ |((refine sR (fun K kp=>?_));simp -implicitDefEqProofs (disch:=omega) only[go_sem];(repeat' (refine K _ ?_;clear K kp))) |((refine A6 rfl (fun h=>?_) (fun h=>?_)<;>try simp only[Af] at h)<;>(try (exfalso;omega)))));refine AB (fun i:Nat=>⟨[(7,.r (.int .i64 i)),(2,.p 0 0 0),(1,.r (.int .i64 many))],[(0,.box 121 [.r (.bool p.leaf),.ro true 1 (p.keys.map DV),.ro true 1 (p.kids.map eI),.ro true 1 (p.high.map AC),.r (.int .i64 p.next)])],1⟩) (fun i=>i≤p.kids.length/\ ∀j,j<i->Pq p many (p.kids.getD j 0)) (fun i=>p.kids.length - i) 0 ?_ ?_ ?_
   ·exact⟨aU _,fun j hj=>by omega⟩
   ·(refine AJ hE [0] rfl ?_ ?_<;>simp[Ai,AY,lk,ren,renL,AA,AU,hl]<;>(try omega))
   intro i hi;obtain⟨hi,hd2⟩:=hi
   by_cases hlt:i<p.kids.length
   ·have zi:((i:Int)<(p.kids.length:Int))=True:=aK (by omega)
    obtain⟨x,hx⟩: ∃x,p.kids[i]?=some x:=⟨p.kids[i],by simp[hlt]⟩
    have hok:Pq p many (p.kids.getD i 0)↔0≤x/\(p.leaf=false->x<many):=by rw[aH,hx];rfl
    rw[hl] at hok;(repeat' (first |refine A0 ?_ |refine A4 ?_ |refine A3 ?_ |((first |refine sR (fun K kp=>?_) |refine iG ?_);simp -implicitDefEqProofs (disch:=omega) only[go_sem,zi,hx,eI,hl];(repeat' (refine K _ ?_;clear K kp))) |((refine aG (fun h=>?_) (fun h=>?_))<;>simp only[h]) |refine A2 rfl ?_ |refine A1 rfl ?_ |((refine A6 rfl (fun h=>?_) (fun h=>?_)<;>try simp only[Af] at h)<;>(try (exfalso;omega))) |refine A5 ?_))
    all_goals first
     |(rw[Hy (fun X=>by have Y:=hok.1 (X.kd _ hlt);clear hE hdone hd2;simp_all;try omega)];(refine rJ results147 ?_;refine eN hE ?_;simp[A8,ren,renL]))
     |(have hok':=hok.2 (by clear hE hdone hd2;constructor<;>simp_all<;>omega);(refine BF (i+1) ?_ (iK hE [0]));exact⟨by omega,fun j' hj'=>(by by_cases he:j'=i;(·rw[he];exact hok');(·exact hd2 j' (by omega)))⟩)
   ·obtain rfl:i=p.kids.length:=by omega
    rw[Ng ⟨H,hdone,hd2⟩];(repeat' (first |refine A0 ?_ |refine A7 ?_ |((refine sR (fun K kp=>?_));simp -implicitDefEqProofs (disch:=omega) only[go_sem];(repeat' (refine K _ ?_;clear K kp))) |((refine A6 rfl (fun h=>?_) (fun h=>?_)<;>try simp only[Af] at h)<;>(try (exfalso;omega))) |refine A5 ?_));(refine rJ results147 ?_;exact eQ hE)
structure FltOK (ps:List PG)(root:Int):Prop where
 n1:1≤ps.length
 n2:ps.length≤4000
 r0:0≤root
 r1:root<ps.length
 pg: ∀(i:Nat)(p:PG),ps[i]?=some p->PageOK p ps.length
 bf:JP ps ps.length (ps.length+2) [(root.toNat,[],[])] 0=true
 on:(root.toNat::Kk ps ps.length).Nodup
noncomputable def Vw (ps:List PG)(root:Int):Int:= @ite Int (FltOK ps root) (Classical.propDecidable _) 0 11
theorem Vu {ps:List PG}{root:Int}(h:FltOK ps root):Vw ps root=0:=if_pos h
theorem Vv {ps:List PG}{root:Int}(h: ¬FltOK ps root):Vw ps root=11:=if_neg h
theorem MR (G:GL)(p:PG)(many:Nat)(hb:p.keys.length≤1048576)(hb2:p.kids.length≤1048576)(hm:many≤1048576):Con prog G 147 [.agg (eP p),.r (.int .i64 many)] [] 0 (Is (.r (.bool (!Wi p many))) [] 0) No:=by
 by_cases H:HeadOK p many
 ·exact Rv G p many H hb2 hm
 ·exact Ru G p many H hb hm
def G6 (x:SS):List AV:=DV x.2.1
def DO (x:SS):List AV:=DV x.2.2
theorem WX {P:Program}{E:Env}{N:Nat}{st:AS}{AQ:AExit->AS->Prop}{x y z v:Code}(fx:AS)(h:AWP P E N v fx AQ)(h2: ∀K:AS->Prop,(∀st',Emb E N st' fx->K st')->AWP P E N x st (DX (fun s=>AWP P E N y s (DX (fun s=>AWP P E N z s (DX K AQ)) AQ)) AQ)):
  AWP P E N (.seq x (.seq y (.seq z v))) st AQ:=
 A0 ((h2 _ fun st' he=>AWP.emb he h).mono (CA fun _ hh=>A0 (hh.mono (CA fun _ hh=>A0 hh))))
theorem MD {ps:List PG}(h: ∀(i:Nat)(p:PG),ps[i]?=some p->PageOK p ps.length)(i:Nat):(AF ps i).length≤5:=by
 cases hp:ps[i]? with
 |none=>
  have:pg ps i=default:=by rw[pg,aH,hp];rfl
  rw[AF,this];exact aU _
 |some p=>
  have hpg:pg ps i=p:=by rw[pg,aH,hp];rfl
  rw[AF,hpg];split
  ·exact aU _
  ·rename_i hl
   have h1:=(h i p hp).ki (by simpa using hl);have h2:=(h i p hp).nk;rw[List.length_map];omega
theorem O0 {ps:List PG}(h: ∀i,(AF ps i).length≤5): ∀(L:List SS),(L.flatMap (BC ps)).length≤5 * L.length
 | []=>by simp
 |x::r=>by
  have h1:=O0 h r;have h2:=h x.1;rw[cF,List.length_append,List.length_cons,BC,List.length_mapIdx];omega
def sB (n:Nat)(D:List Nat):List (List AV):=(List.range n).map fun c=>[.r (.bool (decide (c ∈ D)))]
theorem IE (n:Nat)(D:List Nat):(sB n D).length=n:=by simp[sB]
theorem Jc {n c:Nat}(D:List Nat)(h:c<n):(sB n D)[c]?=some [.r (.bool (decide (c ∈ D)))]:=by simp[sB,h]
theorem VH {n x:Nat}(D:List Nat):(sB n D).set x [.r (.bool true)]=sB n (D++[x]):=by
 apply eB;intro i;rw[dQ]
 by_cases h:i<n
 ·rw[Jc _ h]
  by_cases hb:x=i
  ·subst hb;rw[if_pos rfl,IE,if_pos h,Jc _ h];simp
  ·rw[if_neg hb,Jc _ h];simp[cL hb]
 ·rw[bO (by rw[IE];omega:(sB n (D++[x])).length≤i)]
  split
  ·rw[IE,if_neg (by omega)]
  ·exact bO (by rw[IE];omega)
theorem Yh (n:Nat):sB n []=List.replicate n [AV.r (.bool false)]:=by
 apply eB;intro c
 by_cases hc:c<n
 ·rw[Jc _ hc];simp[hc]
 ·rw[bO (by rw[IE];omega),bO (by simp;omega)]
def N5 (ps:List PG)(rt i k:Nat):List Nat:=rt::((List.range i).flatMap (AF ps)++(AF ps i).take k)
theorem QX (ps:List PG)(rt i:Nat){k:Nat}(hk:(AF ps i).length≤k):N5 ps rt i k=N5 ps rt (i+1) 0:=by
 simp[N5,List.range_succ,cX,aN hk]
theorem QW {ps:List PG}{rt i k x:Nat}(hx:(AF ps i)[k]?=some x):N5 ps rt i (k+1)=N5 ps rt i k++[x]:=by
 rw[N5,N5,aV,hx];simp
theorem Xh {ps:List PG}{rt i k x n:Nat}(hi:i<n)(hx:(AF ps i)[k]?=some x): ∃r,rt::Kk ps n=N5 ps rt i k++x::r:=by
 obtain⟨m,hm⟩: ∃m,n=i+(1+m):=⟨n - i - 1,by omega⟩;obtain⟨h1,h2⟩:=aA.1 hx
 have hd:AF ps i=(AF ps i).take k++x::(AF ps i).drop (k+1):=by
  rw[<-h2,<-dL h1,fH]
 refine⟨(AF ps i).drop (k+1)++((List.range m).map (i+1+ ·)).flatMap (AF ps),?_⟩
 have hr:List.range n=List.range i++i::(List.range m).map (i+1+ ·):=by
  rw[hm,List.range_add,eS 1 m,List.range_succ_eq_map,List.map_cons,fV];simp[Function.comp_def,dO,eS 1]
 rw[Kk,hr,cX,cF,N5]
 conv=>lhs;rw[hd]
 simp
theorem Xj {ps:List PG}{rt i k x n:Nat}(hi:i<n)(hx:(AF ps i)[k]?=some x)(hm:x ∈ N5 ps rt i k): ¬(rt::Kk ps n).Nodup:=by
 obtain⟨r,hr⟩:=Xh (rt:=rt) hi hx;rw[hr];intro h;exact(dR.1 h).2.2 x hm x (by simp) rfl
theorem Xi (ps:List PG)(rt n:Nat):N5 ps rt n 0=rt::Kk ps n:=by simp[N5,Kk]
theorem N7 (G:GL)(t:Bool)(ps:List PG)(root:Int)(ho:Yw ps)(hn0:ps.length≤1048576):Con prog G 102 [.agg [.ro t 5 (ps.map eP),.r (.int .i64 root)]] [] 0 (Is (.r (.int .i64 (Vw ps root))) [] 0) No:=by
 obtain⟨R,hR⟩: ∃R,Vw ps root=R:=⟨_,rfl⟩
 have hbad: ¬FltOK ps root->R=11:=fun h=>by rw[<-hR];exact Vv h
 have hgood:FltOK ps root->R=0:=fun h=>by rw[<-hR];exact Vu h
 rw[hR];have ic1:=J5 G ps.length 1 4000;have ic2:=J5 G root 0 ((ps.length:Int) - 1);refine cJ func102 fun E hG hE=>?_;subst hG;simp only[AX]
 by_cases hb0:1≤ps.length/\ps.length≤4000/\0≤root/\root<ps.length
 rotate_left
 ·obtain rfl:=hbad fun X=>hb0 ⟨X.n1,X.n2,X.r0,X.r1⟩
  clear hbad hgood hR;(repeat' (first |refine A0 ?_ |refine A4 ?_ |refine A3 ?_ |((first |refine sR (fun K kp=>?_) |refine cR ic1 ?_ |refine cR ic2 ?_ |refine iG ?_);simp -implicitDefEqProofs (disch:=omega) only[go_sem,eP];(repeat' (refine K _ ?_;clear K kp))) |((refine aG (fun h=>?_) (fun h=>?_))<;>simp only[h]) |refine A2 rfl ?_ |((refine A6 rfl (fun h=>?_) (fun h=>?_)<;>try simp only[Af] at h)<;>(try (exfalso;omega))) |refine A5 ?_))
  all_goals first
   |(refine rJ results102 ?_;refine eN hE ?_;simp[A8,ren,renL])
   |(exfalso;simp only[fY,aJ,aP] at *;omega)
 obtain⟨b1,b2,b3,b4⟩:=hb0;obtain⟨rt,hrt⟩: ∃rt:Nat,root=rt:=⟨root.toNat,by omega⟩;subst hrt;have g1:(1≤(ps.length:Int))=True:=aK (by omega);have g2:((ps.length:Int)≤4000)=True:=aK (by omega);have g3:(0≤(rt:Int))=True:=aK (by omega);have g4:((rt:Int)≤(ps.length:Int) - 1)=True:=aK (by omega);simp only[g1,g2,decide_true,Bool.and_self] at ic1;simp only[g3,g4,decide_true,Bool.and_self] at ic2;refine A0 ?_;(refine sR (fun K kp=>?_);simp -implicitDefEqProofs (disch:=omega) only[go_sem];(repeat' (refine K _ ?_;clear K kp)))
 by_cases hall: ∀(i:Nat)(p:PG),ps[i]?=some p->PageOK p ps.length
 rotate_left
 ·obtain rfl:=hbad fun X=>hall X.pg
  clear hbad hgood hR;(repeat' (first |refine A0 ?_ |refine A4 ?_ |refine A3 ?_ |((first |refine sR (fun K kp=>?_) |refine cR ic1 ?_ |refine cR ic2 ?_);simp -implicitDefEqProofs (disch:=omega) only[go_sem,eP];(repeat' (refine K _ ?_;clear K kp))) |refine A1 rfl ?_));refine AB (fun i:Nat=>⟨[(3,.r (.int .i64 i)),(1,.p 0 0 0)],[(0,.box 43 [.ro t 5 (ps.map eP),.r (.int .i64 rt)])],1⟩) (fun i=>i≤ps.length/\ ∀(j:Nat)(p:PG),j<i->ps[j]?=some p->PageOK p ps.length) (fun i=>ps.length - i) 0 ?_ ?_ ?_
  ·exact⟨aU _,fun j p hj=>by omega⟩
  ·(exact iK hE [0])
  intro i hi;obtain⟨hi,hdone⟩:=hi
  by_cases hlt:i<ps.length
  ·have zi:((i:Int)<(ps.length:Int))=True:=aK (by omega)
   obtain⟨p,hp⟩: ∃p,ps[i]?=some p:=⟨ps[i],by simp[hlt]⟩;have pc:=MR E.G p ps.length (ho p (aB hp)).1 (ho p (aB hp)).2 hn0
   by_cases hpo:PageOK p ps.length
   ·rw[Ng hpo] at pc
    (repeat' (first |refine A0 ?_ |refine A4 ?_ |refine A3 ?_ |((first |refine sR (fun K kp=>?_) |refine sI (id:=6) mixed 9 (fun K kp=>?_) |refine cD pc ?_);simp -implicitDefEqProofs (disch:=omega) only[go_sem,zi,hp,eP];(repeat' (refine K _ ?_;clear K kp))) |refine A2 rfl ?_ |refine A1 rfl ?_));(refine BF (i+1) ?_ (iK hE [0]));refine⟨by omega,fun j q hj hq=>?_⟩
    by_cases he:j=i
    ·subst he;rw[hp] at hq;cases hq;exact hpo
    ·exact hdone j q (by omega) hq
   ·rw[Hy hpo] at pc
    (repeat' (first |refine A0 ?_ |refine A4 ?_ |refine A3 ?_ |((first |refine sR (fun K kp=>?_) |refine sI (id:=6) mixed 9 (fun K kp=>?_) |refine cD pc ?_);simp -implicitDefEqProofs (disch:=omega) only[go_sem,zi,hp,eP];(repeat' (refine K _ ?_;clear K kp))) |refine A2 rfl ?_ |refine A5 ?_));(refine rJ results102 ?_;exact eQ hE)
  ·exfalso
   exact hall fun j p hp=>hdone j p (by have:=(aA.1 hp).1;omega) hp
 refine Mx (fx:=⟨[(1,.p 0 0 0)],[(0,.box 43 [.ro t 5 (ps.map eP),.r (.int .i64 rt)])],1⟩) ?_ fun K hcut=>?_;rotate_left
 ·(repeat' (first |refine A0 ?_ |refine A4 ?_ |refine A3 ?_ |((first |refine sR (fun K kp=>?_) |refine cR ic1 ?_ |refine cR ic2 ?_);simp -implicitDefEqProofs (disch:=omega) only[go_sem,eP];(repeat' (refine K _ ?_;clear K kp))) |refine A1 rfl ?_))
  refine AB (fun i:Nat=>⟨[(3,.r (.int .i64 i)),(1,.p 0 0 0)],[(0,.box 43 [.ro t 5 (ps.map eP),.r (.int .i64 rt)])],1⟩) (fun i=>i≤ps.length) (fun i=>ps.length - i) 0 ?_ ?_ ?_
  ·exact aU _
  ·(exact iK hE [0])
  intro i hi
  by_cases hlt:i<ps.length
  ·have zi:((i:Int)<(ps.length:Int))=True:=aK (by omega)
   obtain⟨p,hp⟩: ∃p,ps[i]?=some p:=⟨ps[i],by simp[hlt]⟩;have pc:=MR E.G p ps.length (ho p (aB hp)).1 (ho p (aB hp)).2 hn0;rw[Ng (hall i p hp)] at pc;(repeat' (first |refine A0 ?_ |refine A4 ?_ |refine A3 ?_ |((first |refine sR (fun K kp=>?_) |refine sI (id:=6) mixed 9 (fun K kp=>?_) |refine cD pc ?_);simp -implicitDefEqProofs (disch:=omega) only[go_sem,zi,hp,eP];(repeat' (refine K _ ?_;clear K kp))) |refine A2 rfl ?_ |refine A1 rfl ?_));(refine BF (i+1) ?_ (iK hE [0]));omega
  ·obtain rfl:i=ps.length:=by omega
   (repeat' (first |refine A0 ?_ |refine A7 ?_ |((refine sR (fun K kp=>?_));simp -implicitDefEqProofs (disch:=omega) only[go_sem];(repeat' (refine K _ ?_;clear K kp))) |((refine A6 rfl (fun h=>?_) (fun h=>?_)<;>try simp only[Af] at h)<;>(try (exfalso;omega)))));refine hcut _ ?_;(exact iK hE [0])
 clear ic1 ic2;obtain⟨B,hB⟩: ∃B,JP ps ps.length (ps.length+2) [(rt,[],[])] 0=B:=⟨_,rfl⟩;have hgood:B=true->(rt::Kk ps ps.length).Nodup->R=0:=fun h1 h2=>hgood ⟨b1,b2,b3,b4,hall,by rw[Int.toNat_natCast,hB];exact h1,by rw[Int.toNat_natCast];exact h2⟩
 have hbad1:B=false->R=11:=fun h=>hbad fun Y=>by
  have:=Y.bf;rw[Int.toNat_natCast,hB,h] at this;cases this
 have hbad2: ¬(rt::Kk ps ps.length).Nodup->R=11:=fun h=>hbad fun Y=>h (by have:=Y.on;rwa [Int.toNat_natCast] at this);clear hbad;have hin:=J3 hall;refine A0 ?_;(refine sR (fun K kp=>?_);simp -implicitDefEqProofs (disch:=omega) only[go_sem,Value.oneCell'];(repeat' (refine K _ ?_;clear K kp)));refine A0 ?_;(refine sR (fun K kp=>?_);simp -implicitDefEqProofs (disch:=omega) only[go_sem,Value.oneCell'];(repeat' (refine K _ ?_;clear K kp)));refine A0 ?_;(refine sR (fun K kp=>?_);simp -implicitDefEqProofs (disch:=omega) only[go_sem,Value.oneCell'];(repeat' (refine K _ ?_;clear K kp)));refine A0 ?_;(refine sR (fun K kp=>?_);simp -implicitDefEqProofs (disch:=omega) only[go_sem];(repeat' (refine K _ ?_;clear K kp)));refine AWP.emb (QR (T:=58) 2 rfl) ?_;refine AWP.emb (QR (T:=58) 3 rfl) ?_;simp only[C4];refine A0 ?_;refine A4 ?_;refine AB (fun d:List SS×Nat×Nat=>⟨[(7,.r (.int .i64 d.2.1)),(6,.s 3 0 d.1.length),(5,.s 2 0 d.1.length),(4,.s 1 0 d.1.length),(1,.p 0 0 0)],[(0,.box 43 [.ro t 5 (ps.map eP),.r (.int .i64 rt)]),(1,.lst 3 1 ((Bs d.1).map Ed)),(2,.lst 58 1 (d.1.map G6)),(3,.lst 58 1 (d.1.map DO))],4⟩)
  (fun d=>(∀x ∈ d.1,x.1<ps.length)/\d.2.1≤ps.length/\d.1.length≤20000/\ps.length<d.2.1+d.2.2/\JP ps ps.length d.2.2 d.1 d.2.1=B) (fun d=>d.2.2) ([(rt,[],[])],0,ps.length+2) ?_ ?_ ?_
 ·exact⟨by simp;omega,by simp,by simp,by simp,hB⟩
 ·(refine AJ hE [0,1,2,3] rfl ?_ ?_<;>simp[Ai,AY,lk,ren,renL,AA,AU,Bs,Ed,G6,DO,DV]<;>(try omega))
 rintro⟨L,met,f⟩ ⟨hL,hmt,hLl,hf,hBf⟩;dsimp only at hL hmt hLl hf hBf ⊢
 by_cases hL0:L=[]
 ·subst hL0
  obtain⟨f,rfl⟩: ∃g,f=g+1:=⟨f - 1,by omega⟩;rw[JP,if_pos rfl] at hBf
  by_cases hmn:met=ps.length
  rotate_left
  ·obtain rfl:=hbad1 (by rw[<-hBf];exact aC hmn)
   have q1:((met:Int) !=(ps.length:Int))=true:=by simp;omega
   (repeat' (first |refine A0 ?_ |refine A7 ?_ |((refine sR (fun K kp=>?_));simp -implicitDefEqProofs (disch:=omega) only[go_sem,q1,List.length_nil];(repeat' (refine K _ ?_;clear K kp))) |refine A2 rfl ?_ |refine A1 rfl ?_ |refine A5 ?_));(refine rJ results102 ?_;exact eQ hE)
  have hBt:B=true:=by rw[<-hBf];exact aE hmn
  have q1:((met:Int) !=(ps.length:Int))=false:=by rw[hmn];simp
  have q2:=Yh ps.length;have q3:=Jc [] (show rt<ps.length by omega);have zr:((rt:Int)<(ps.length:Int))=True:=aK (by omega);have q4:(sB ps.length []).set rt [.r (.bool true)]=sB ps.length (N5 ps rt 0 0):=VH [];(repeat' (first |refine A0 ?_ |refine A4 ?_ |refine A3 ?_ |refine A7 ?_ |((refine sR (fun K kp=>?_));simp -implicitDefEqProofs (disch:=omega) only[go_sem,q1,List.length_nil,Value.oneCell',<-q2,q3,zr];(repeat' (first |(refine K _ ?_;clear K kp) |(with_reducible refine And.intro ?_ ?_) |omega))) |refine A1 rfl ?_));rw[q4];refine AB (fun i:Nat=>⟨[(18,.r (.int .i64 i)),(17,.s 1 0 ps.length),(1,.p 0 0 0)],[(0,.box 43 [.ro t 5 (ps.map eP),.r (.int .i64 rt)]),(1,.lst 4 1 (sB ps.length (N5 ps rt i 0)))],2⟩) (fun i=>i≤ps.length/\(N5 ps rt i 0).Nodup) (fun i=>ps.length - i) 0 ?_ ?_ ?_
  ·exact⟨aU _,by simp[N5]⟩
  ·(exact iK hE [0,4])
  intro i hi;obtain⟨hi,hnd0⟩:=hi
  by_cases hlt:i<ps.length
  ·have zi:((i:Int)<(ps.length:Int))=True:=aK (by omega)
   obtain⟨p,hp⟩: ∃p,ps[i]?=some p:=⟨ps[i],by simp[hlt]⟩
   have hpg:pg ps i=p:=by rw[pg,aH,hp];rfl
   have hpo:=hall i p hp;(repeat' (first |refine A0 ?_ |refine A4 ?_ |refine A3 ?_ |((refine sR (fun K kp=>?_));simp -implicitDefEqProofs (disch:=omega) only[go_sem,zi];(repeat' (refine K _ ?_;clear K kp))) |refine A2 rfl ?_));refine AB (fun k:Nat=>⟨[(19,.r (.int .i64 k)),(18,.r (.int .i64 i)),(17,.s 1 0 ps.length),(1,.p 0 0 0)],[(0,.box 43 [.ro t 5 (ps.map eP),.r (.int .i64 rt)]),(1,.lst 4 1 (sB ps.length (N5 ps rt i k)))],2⟩) (fun k=>k≤(AF ps i).length/\(N5 ps rt i k).Nodup) (fun k=>(AF ps i).length - k) 0 ?_ ?_ ?_
   ·exact⟨aU _,hnd0⟩
   ·(exact iK hE [0,1])
   intro k hk;obtain⟨hk,hndk⟩:=hk
   by_cases hl:p.leaf=true
   ·have hk0:AF ps i=[]:=Ei (by rw[hpg];exact hl)
    have hnx:=QX ps rt i (k:=k) (by rw[hk0];exact aU _);(repeat' (first |refine A0 ?_ |refine A7 ?_ |((first |refine sR (fun K kp=>?_) |refine iG ?_);simp -implicitDefEqProofs (disch:=omega) only[go_sem,zi,hp,eP,hl];(repeat' (refine K _ ?_;clear K kp))) |((refine aG (fun h=>?_) (fun h=>?_))<;>simp only[h]) |refine A1 rfl ?_))
    all_goals rw[hnx]
    all_goals (refine BF (i+1) ?_ (iK hE [0,1]))
    all_goals exact⟨by omega,by rw[<-hnx];exact hndk⟩
   replace hl:p.leaf=false:=by simpa using hl
   have hk5:=hpo.ki hl;have hk4:=hpo.nk
   have hpk:p.kids=Bg (AF ps i):=by
    rw[AF,hpg,hl];simp only[bU,if_false,Bg,fV];refine(List.map_id _).symm.trans (fN fun x hx=>?_);obtain⟨j,hj⟩:=aO.1 hx;have:=(hpo.kd j (aA.1 hj).1).1;rw[aH,hj] at this;show x=((x.toNat:Nat):Int);have h0:0≤x:=this;omega
   have hcl:p.kids.length=(AF ps i).length:=by rw[hpk,Bg,List.length_map]
   by_cases hkl:k<(AF ps i).length
   ·have zk:((k:Int)<(p.kids.length:Int))=True:=aK (by omega)
    obtain⟨x,hx⟩: ∃x,(AF ps i)[k]?=some x:=⟨(AF ps i)[k],by simp[hkl]⟩
    have hkd:p.kids[k]?=some (x:Int):=by rw[hpk,Bg,List.getElem?_map,hx];rfl
    have hxn:=hin i x (aB hx);have zx:((x:Int)<(ps.length:Int))=True:=aK (by omega);have hg:=Jc (N5 ps rt i k) hxn
    by_cases hm:x ∈ N5 ps rt i k
    ·obtain rfl:=hbad2 (Xj hlt hx hm)
     rw[aE hm] at hg;(repeat' (first |refine A0 ?_ |refine A4 ?_ |refine A3 ?_ |((refine sR (fun K kp=>?_));simp -implicitDefEqProofs (disch:=omega) only[go_sem,zi,hp,eP,hl,zk,hkd,eI,zx,hg,IE];(repeat' (refine K _ ?_;clear K kp))) |refine A2 rfl ?_ |refine A5 ?_));(refine rJ results102 ?_;exact eQ hE)
    ·rw[aC hm] at hg
     have hst:(sB ps.length (N5 ps rt i k)).set x [.r (.bool true)]=sB ps.length (N5 ps rt i (k+1)):=by rw[VH,QW hx]
     (repeat' (first |refine A0 ?_ |refine A4 ?_ |refine A3 ?_ |((refine sR (fun K kp=>?_));simp -implicitDefEqProofs (disch:=omega) only[go_sem,zi,hp,eP,hl,zk,hkd,eI,zx,hg,IE];(repeat' (refine K _ ?_;clear K kp))) |refine A2 rfl ?_ |refine A1 rfl ?_));rw[hst];(refine BF (k+1) ?_ (iK hE [0,1]));refine⟨by omega,?_⟩;rw[QW hx];exact dR.2 ⟨hndk,by simp,fun a ha b hb=>by simp at hb;subst hb;rintro rfl;exact hm ha⟩
   ·have zk:((k:Int)<(p.kids.length:Int))=False:=bH (by omega)
    have hnx:=QX ps rt i (k:=k) (by omega);(repeat' (first |refine A0 ?_ |refine A7 ?_ |((refine sR (fun K kp=>?_));simp -implicitDefEqProofs (disch:=omega) only[go_sem,zi,hp,eP,hl,zk];(repeat' (refine K _ ?_;clear K kp))) |refine A1 rfl ?_));rw[hnx];(refine BF (i+1) ?_ (iK hE [0,1]));exact⟨by omega,by rw[<-hnx];exact hndk⟩
  ·obtain rfl:i=ps.length:=by omega
   rw[Xi] at hnd0 ⊢;obtain rfl:=hgood hBt hnd0;(repeat' (first |refine A0 ?_ |refine A7 ?_ |((refine sR (fun K kp=>?_));simp -implicitDefEqProofs (disch:=omega) only[go_sem];(repeat' (refine K _ ?_;clear K kp))) |((refine A6 rfl (fun h=>?_) (fun h=>?_)<;>try simp only[Af] at h)<;>(try (exfalso;omega))) |refine A5 ?_));(refine rJ results102 ?_;exact eQ hE)
 obtain⟨f,rfl⟩: ∃g,f=g+1:=⟨f - 1,by omega⟩;rw[JP,if_neg hL0] at hBf;have hLp:0<L.length:=cV.2 hL0;have q1:((L.length:Int)>0)=True:=aK (by omega)
 have q0:(met:Int)+(L.length:Int)=((met+L.length:Nat):Int):=by omega
 by_cases c1:met+L.length>ps.length
 ·rw[if_pos c1] at hBf
  obtain rfl:=hbad1 hBf.symm;have q2:(((met+L.length:Nat):Int)>(ps.length:Int))=True:=aK (by omega);(repeat' (first |refine A0 ?_ |refine A4 ?_ |refine A3 ?_ |((refine sR (fun K kp=>?_));simp -implicitDefEqProofs (disch:=omega) only[go_sem,q1,q0,q2];(repeat' (refine K _ ?_;clear K kp))) |refine A2 rfl ?_ |refine A5 ?_));(refine rJ results102 ?_;exact eQ hE)
 rw[if_neg c1] at hBf;have q2:(((met+L.length:Nat):Int)>(ps.length:Int))=False:=bH (by omega);(repeat' (first |refine A0 ?_ |refine A4 ?_ |refine A3 ?_ |((refine sR (fun K kp=>?_));simp -implicitDefEqProofs (disch:=omega) only[go_sem,q1,q0,q2];(repeat' (refine K _ ?_;clear K kp))) |refine A2 rfl ?_ |refine A1 rfl ?_));(refine AWP.emb (BY 8 3 1 ?_) ?_;(·rfl);dsimp only);(refine AWP.emb (BY 9 58 1 ?_) ?_;(·rfl);dsimp only);(refine AWP.emb (BY 10 58 1 ?_) ?_;(·rfl);dsimp only);refine AB (fun i:Nat=>⟨[(11,.r (.int .i64 i)),(10,.s 6 0 ((L.take i).flatMap (BC ps)).length),(9,.s 5 0 ((L.take i).flatMap (BC ps)).length),(8,.s 4 0 ((L.take i).flatMap (BC ps)).length),(7,.r (.int .i64 ((met+L.length:Nat):Int))),(6,.s 3 0 L.length),(5,.s 2 0 L.length),(4,.s 1 0 L.length),(1,.p 0 0 0)],[(0,.box 43 [.ro t 5 (ps.map eP),.r (.int .i64 rt)]),(1,.lst 3 1 ((Bs L).map Ed)),(2,.lst 58 1 (L.map G6)),(3,.lst 58 1 (L.map DO)),(4,.lst 3 1 ((Bs ((L.take i).flatMap (BC ps))).map Ed)),(5,.lst 58 1 (((L.take i).flatMap (BC ps)).map G6)),(6,.lst 58 1 (((L.take i).flatMap (BC ps)).map DO))],7⟩) (fun i=>i≤L.length/\ ∀(j:Nat) x,j<i->L[j]?=some x->Pl ps L j x) (fun i=>L.length - i) 0 ?_ ?_ ?_
 ·exact⟨aU _,fun j x hj=>by omega⟩
 ·(refine AJ hE [0,1,2,3,4,5,6] rfl ?_ ?_<;>simp[Ai,AY,lk,ren,renL,AA,AU,Bs]<;>(try omega))
 intro i hi;obtain⟨hi,hdone⟩:=hi
 have hNl: ∀j,((L.take j).flatMap (BC ps)).length≤5 * j:=fun j=>by
  have h1:=O0 (MD hall) (L.take j);have h2:=List.length_take_le j L;omega
 by_cases hlt:i<L.length
 ·obtain⟨x,hx⟩: ∃x,L[i]?=some x:=⟨L[i],by simp[hlt]⟩
  have hxn:=hL x (aB hx)
  have hxm:(Bs L)[i]?=some x.1:=by rw[Bs,List.getElem?_map,hx];rfl
  have zi:((i:Int)<(L.length:Int))=True:=aK (by omega);have zx:((x.1:Int)<(ps.length:Int))=True:=aK (by omega);obtain⟨p,hp⟩: ∃p,ps[x.1]?=some p:=⟨ps[x.1],by simp[hxn]⟩
  have hpg:pg ps x.1=p:=by rw[pg,aH,hp];rfl
  have hpo:=hall x.1 p hp
  have nl:(Bs L).length=L.length:=by simp[Bs]
  obtain⟨N,hN⟩: ∃N,(L.take i).flatMap (BC ps)=N:=⟨_,rfl⟩;have hNi:=hNl i
  have i1:(i:Int)+1=((i+1:Nat):Int):=by omega
  rw[hN] at hNi ⊢;obtain⟨rv,hrv⟩: ∃rv,E2 (Bs L) i=rv:=⟨_,rfl⟩;refine A0 ?_;refine A0 ?_;(refine sR (fun K kp=>?_);simp -implicitDefEqProofs (disch:=omega) only[go_sem,zi,nl];(repeat' (refine K _ ?_;clear K kp)));refine A2 rfl ?_;refine A3 ?_;refine A0 ?_;refine A4 ?_;refine WX (fx:=⟨[(13,.r (.int .i64 rv)),(12,.p 7 0 0),(11,.r (.int .i64 i)),(10,.s 6 0 (N).length),(9,.s 5 0 (N).length),(8,.s 4 0 (N).length),(7,.r (.int .i64 ((met+L.length:Nat):Int))),(6,.s 3 0 L.length),(5,.s 2 0 L.length),(4,.s 1 0 L.length),(1,.p 0 0 0)],[(0,.box 43 [.ro t 5 (ps.map eP),.r (.int .i64 rt)]),(1,.lst 3 1 ((Bs L).map Ed)),(2,.lst 58 1 (L.map G6)),(3,.lst 58 1 (L.map DO)),(4,.lst 3 1 ((Bs (N)).map Ed)),(5,.lst 58 1 ((N).map G6)),(6,.lst 58 1 ((N).map DO)),(7,.box 121 [.r (.bool p.leaf),.ro true 1 (p.keys.map DV),.ro true 1 (p.kids.map eI),.ro true 1 (p.high.map AC),.r (.int .i64 p.next)])],8⟩) ?_ fun K hcut=>?_;rotate_left
  ·by_cases hi1:i+1<L.length
   ·obtain⟨y,hy⟩: ∃y,L[i+1]?=some y:=⟨L[i+1],by simp[hi1]⟩
    have hym:(Bs L)[i+1]?=some y.1:=by rw[Bs,List.getElem?_map,hy];rfl
    obtain rfl:rv=(y.1:Int):=by rw[<-hrv,E2,hym]
    have q3:(((i+1:Nat):Int)<(L.length:Int))=True:=aK (by omega);(repeat' (first |refine A0 ?_ |((first |refine sR (fun K kp=>?_) |refine sI (id:=22) mixed 9 (fun K kp=>?_));simp -implicitDefEqProofs (disch:=omega) only[go_sem,zi,nl,hxm,zx,hp,eP,Ed,i1,q3,hym];(repeat' (refine K _ ?_;clear K kp))) |refine A2 rfl ?_));refine hcut _ ?_;(exact iK hE [0,1,2,3,4,5,6,7])
   ·have hym:(Bs L)[i+1]?=none:=bO (by omega)
    obtain rfl:rv= -1:=by rw[<-hrv,E2,hym]
    have q3:(((i+1:Nat):Int)<(L.length:Int))=False:=bH (by omega);(repeat' (first |refine A0 ?_ |refine A3 ?_ |((first |refine sR (fun K kp=>?_) |refine sI (id:=22) mixed 9 (fun K kp=>?_));simp -implicitDefEqProofs (disch:=omega) only[go_sem,zi,nl,hxm,zx,hp,eP,Ed,i1,q3];(repeat' (refine K _ ?_;clear K kp))) |refine A1 rfl ?_));refine hcut _ ?_;(exact iK hE [0,1,2,3,4,5,6,7])
  have hno: ¬Pl ps L i x->R=11:=fun h=>hbad1 (by rw[<-hBf,if_neg (fun ha=>h (ha i x hx))]);obtain⟨w,hw⟩: ∃w,L[0]?=some w:=⟨L[0],by simp[hLp]⟩
  have hwm:(Bs L)[0]?=some w.1:=by rw[Bs,List.getElem?_map,hw];rfl
  have hwD:(Bs L).getD 0 0=w.1:=by rw[aH,hwm];rfl
  have hwn:=hL w (aB hw);obtain⟨p0,hp0⟩: ∃p0,ps[w.1]?=some p0:=⟨ps[w.1],by simp[hwn]⟩
  have hpg0:pg ps w.1=p0:=by rw[pg,aH,hp0];rfl
  have zl0:((0:Int)<(L.length:Int))=True:=aK (by omega);have zw:((w.1:Int)<(ps.length:Int))=True:=aK (by omega)
  by_cases e1:p.next=rv
  rotate_left
  ·obtain rfl:=hno fun h=>e1 (by have:=h.1;rw[hpg,hrv] at this;exact this)
   have d1:(p.next !=rv)=true:=by simpa using e1
   (repeat' (first |refine A0 ?_ |((first |refine sR (fun K kp=>?_) |refine sI (id:=26) mixed 27 (fun K kp=>?_));simp -implicitDefEqProofs (disch:=omega) only[go_sem,zi,nl,hx,zx,hp,eP,Ed,DO,G6,DV,d1];(repeat' (refine K _ ?_;clear K kp))) |refine A2 rfl ?_ |refine A5 ?_));(refine rJ results102 ?_;exact eQ hE)
  have d1:(p.next !=rv)=false:=by rw[e1];simp
  by_cases e2:p.high=x.2.2
  rotate_left
  ·obtain rfl:=hno fun h=>e2 (by have:=h.2.1;rw[hpg] at this;exact this)
   have d2:(p.high==x.2.2)=false:=by simpa using e2
   (repeat' (first |refine A0 ?_ |((first |refine sR (fun K kp=>?_) |refine sI (id:=26) mixed 27 (fun K kp=>?_) |refine cD (HP _ _ _ _ _) ?_);simp -implicitDefEqProofs (disch:=omega) only[go_sem,zi,nl,hx,zx,hp,eP,Ed,DO,G6,DV,d1,d2];(repeat' (refine K _ ?_;clear K kp))) |refine A2 rfl ?_ |refine A5 ?_));(refine rJ results102 ?_;exact eQ hE)
  have d2:(p.high==x.2.2)=true:=by rw[e2];exact beq_self_eq_true _
  by_cases e3:p.leaf=p0.leaf
  rotate_left
  ·obtain rfl:=hno fun h=>e3 (by have:=h.2.2.1;rw[hpg,hwD,hpg0] at this;exact this)
   have d3:(p.leaf==p0.leaf)=false:=by simpa using e3
   (repeat' (first |refine A0 ?_ |((first |refine sR (fun K kp=>?_) |refine sI (id:=26) mixed 27 (fun K kp=>?_) |refine cD (HP _ _ _ _ _) ?_);simp -implicitDefEqProofs (disch:=omega) only[go_sem,zi,nl,hx,zx,hp,eP,Ed,DO,G6,DV,d1,d2,d3,hwm,hp0,zl0,zw];(repeat' (refine K _ ?_;clear K kp))) |refine A2 rfl ?_ |refine A5 ?_));(refine rJ results102 ?_;exact eQ hE)
  have d3:(p.leaf==p0.leaf)=true:=by rw[e3];exact beq_self_eq_true _
  cases e4:BV p x.2.1
  ·obtain rfl:=hno fun h=>by
    have:=h.2.2.2;rw[hpg,e4] at this;cases this
   have hk0: ¬p.keys.length=0:=fun h=>by rw[J7 h] at e4;cases e4
   have hk1:((p.keys.length:Int)>0)=True:=aK (by omega);obtain⟨k,hk⟩: ∃k,p.keys[0]?=some k:=⟨p.keys[0]'(by omega),by simp⟩
   have d4:Op.bytesLess k x.2.1=true:=by
    have e5:BI k x.2.1=true:=by rw[E4 hk] at e4;simpa using e4
    exact e5
   (repeat' (first |refine A0 ?_ |refine A3 ?_ |((first |refine sR (fun K kp=>?_) |refine sI (id:=26) mixed 27 (fun K kp=>?_) |refine sI (id:=28) mixed 15 (fun K kp=>?_) |refine cD (HP _ _ _ _ _) ?_ |refine cD (Ar _ _ _ _ _) ?_);simp -implicitDefEqProofs (disch:=omega) only[go_sem,zi,nl,hx,zx,hp,eP,Ed,DO,G6,DV,d1,d2,d3,hwm,hp0,zl0,zw,hk1,hk,d4];(repeat' (refine K _ ?_;clear K kp))) |refine A2 rfl ?_ |refine A1 rfl ?_ |refine A5 ?_));(refine rJ results102 ?_;exact eQ hE)
  have hrow:Pl ps L i x:=⟨by rw[hpg,hrv];exact e1,by rw[hpg];exact e2,by rw[hpg,hwD,hpg0];exact e3,by rw[hpg];exact e4⟩
  have hkT:(BC ps x).length=(AF ps x.1).length:=by rw[BC,List.length_mapIdx]
  have hk5:=MD hall x.1
  have hNx:(L.take (i+1)).flatMap (BC ps)=N++BC ps x:=by
   rw[aV,hx];simp[<-hN]
  refine Mx (fx:=⟨[(12,.p 7 0 0),(11,.r (.int .i64 i)),(10,.s 6 0 (N).length),(9,.s 5 0 (N).length),(8,.s 4 0 (N).length),(7,.r (.int .i64 ((met+L.length:Nat):Int))),(6,.s 3 0 L.length),(5,.s 2 0 L.length),(4,.s 1 0 L.length),(1,.p 0 0 0)],[(0,.box 43 [.ro t 5 (ps.map eP),.r (.int .i64 rt)]),(1,.lst 3 1 ((Bs L).map Ed)),(2,.lst 58 1 (L.map G6)),(3,.lst 58 1 (L.map DO)),(4,.lst 3 1 ((Bs (N)).map Ed)),(5,.lst 58 1 ((N).map G6)),(6,.lst 58 1 ((N).map DO)),(7,.box 121 [.r (.bool p.leaf),.ro true 1 (p.keys.map DV),.ro true 1 (p.kids.map eI),.ro true 1 (p.high.map AC),.r (.int .i64 p.next)])],8⟩) ?_ fun K hcut=>?_;rotate_left
  ·by_cases hk0:p.keys.length=0
   ·have hk1:((p.keys.length:Int)>0)=False:=bH (by omega)
    (repeat' (first |refine A0 ?_ |refine A3 ?_ |((first |refine sI (id:=26) mixed 27 (fun K kp=>?_) |refine sI (id:=28) mixed 15 (fun K kp=>?_) |refine cD (HP _ _ _ _ _) ?_);simp -implicitDefEqProofs (disch:=omega) only[go_sem,zi,nl,hx,zx,hp,eP,Ed,DO,G6,DV,d1,d2,d3,hwm,hp0,zl0,zw,hk1];(repeat' (refine K _ ?_;clear K kp))) |refine A1 rfl ?_));refine hcut _ ?_;(exact iK hE [0,1,2,3,4,5,6,7])
   ·have hk1:((p.keys.length:Int)>0)=True:=aK (by omega)
    obtain⟨k,hk⟩: ∃k,p.keys[0]?=some k:=⟨p.keys[0]'(by omega),by simp⟩
    have d4:Op.bytesLess k x.2.1=false:=by
     have e5:BI k x.2.1=false:=by rw[E4 hk] at e4;simpa using e4
     exact e5
    (repeat' (first |refine A0 ?_ |refine A3 ?_ |((first |refine sI (id:=26) mixed 27 (fun K kp=>?_) |refine sI (id:=28) mixed 15 (fun K kp=>?_) |refine cD (HP _ _ _ _ _) ?_ |refine cD (Ar _ _ _ _ _) ?_);simp -implicitDefEqProofs (disch:=omega) only[go_sem,zi,nl,hx,zx,hp,eP,Ed,DO,G6,DV,d1,d2,d3,hwm,hp0,zl0,zw,hk1,hk,d4];(repeat' (refine K _ ?_;clear K kp))) |refine A1 rfl ?_));refine hcut _ ?_;(exact iK hE [0,1,2,3,4,5,6,7])
  (repeat' (first |refine A0 ?_ |refine A4 ?_ |((refine sR (fun K kp=>?_));simp -implicitDefEqProofs (disch:=omega) only[go_sem,zi,nl,hx,G6,DV];(repeat' (refine K _ ?_;clear K kp)))));refine AB (fun k:Nat=>⟨[(15,.r (.int .i64 k)),(14,.ro true 1 ((if k≤p.keys.length then HZ p k x.2.1 else x.2.2).map AC)),(12,.p 7 0 0),(11,.r (.int .i64 i)),(10,.s 6 0 (N++(BC ps x).take k).length),(9,.s 5 0 (N++(BC ps x).take k).length),(8,.s 4 0 (N++(BC ps x).take k).length),(7,.r (.int .i64 ((met+L.length:Nat):Int))),(6,.s 3 0 L.length),(5,.s 2 0 L.length),(4,.s 1 0 L.length),(1,.p 0 0 0)],[(0,.box 43 [.ro t 5 (ps.map eP),.r (.int .i64 rt)]),(1,.lst 3 1 ((Bs L).map Ed)),(2,.lst 58 1 (L.map G6)),(3,.lst 58 1 (L.map DO)),(4,.lst 3 1 ((Bs (N++(BC ps x).take k)).map Ed)),(5,.lst 58 1 ((N++(BC ps x).take k).map G6)),(6,.lst 58 1 ((N++(BC ps x).take k).map DO)),(7,.box 121 [.r (.bool p.leaf),.ro true 1 (p.keys.map DV),.ro true 1 (p.kids.map eI),.ro true 1 (p.high.map AC),.r (.int .i64 p.next)])],8⟩) (fun k=>k≤(AF ps x.1).length) (fun k=>(AF ps x.1).length - k) 0 ?_ ?_ ?_
  ·exact aU _
  ·(refine AJ hE [0,1,2,3,4,5,6,7] rfl ?_ ?_<;>simp[Ai,AY,lk,ren,renL,AA,AU,HZ]<;>(try omega))
  intro k hk
  have hdn1: ∀(j:Nat) y,j<i+1->L[j]?=some y->Pl ps L j y:=fun j y hj hy=>by
   by_cases he:j=i
   ·subst he;rw[hx] at hy;cases hy;exact hrow
   ·exact hdone j y (by omega) hy
  by_cases hl:p.leaf=true
  ·have hk0:AF ps x.1=[]:=Ei (by rw[hpg];exact hl)
   have hall3:N++(BC ps x).take k=N++BC ps x:=by rw[aN (by rw[hkT,hk0];exact aU _)]
   rw[hall3];(repeat' (first |refine A0 ?_ |refine A7 ?_ |((first |refine sR (fun K kp=>?_) |refine iG ?_);simp -implicitDefEqProofs (disch:=omega) only[go_sem,hl,eP];(repeat' (refine K _ ?_;clear K kp))) |((refine aG (fun h=>?_) (fun h=>?_))<;>simp only[h]) |refine A1 rfl ?_))
   all_goals (refine BF (i+1) ?_ ?_;rotate_left;(·(refine AJ hE [0,1,2,3,4,5,6] rfl ?_ ?_<;>simp[Ai,AY,lk,ren,renL,AA,AU,hNx]<;>(try omega))))
   all_goals exact⟨by omega,hdn1⟩
  replace hl:p.leaf=false:=by simpa using hl
  have hpk:p.kids=Bg (AF ps x.1):=by
   rw[AF,hpg,hl];simp only[bU,if_false,Bg,fV];refine(List.map_id _).symm.trans (fN fun y hy=>?_);obtain⟨j,hj⟩:=aO.1 hy;have:=(hpo.kd j (aA.1 hj).1).1;rw[aH,hj] at this;show y=((y.toNat:Nat):Int);have h0:0≤y:=this;omega
  have hcl:p.kids.length=(AF ps x.1).length:=by rw[hpk,Bg,List.length_map]
  have hki:=hpo.ki hl
  by_cases hkl:k<(AF ps x.1).length
  ·have zk:((k:Int)<(p.kids.length:Int))=True:=aK (by omega)
   obtain⟨kid,hkid⟩: ∃y,(AF ps x.1)[k]?=some y:=⟨(AF ps x.1)[k],by simp[hkl]⟩
   have hkd:p.kids[k]?=some (kid:Int):=by rw[hpk,Bg,List.getElem?_map,hkid];rfl
   have hkle:k≤p.keys.length:=by omega
   have hTk:(BC ps x)[k]?=some (kid,HZ p k x.2.1,Fl p k x.2.2):=by rw[BC,eK,hkid,hpg];rfl
   have hNk:N++(BC ps x).take (k+1)=(N++(BC ps x).take k)++[(kid,HZ p k x.2.1,Fl p k x.2.2)]:=by rw[aV,hTk];simp
   obtain⟨M,hM⟩: ∃M,N++(BC ps x).take k=M:=⟨_,rfl⟩
   have hMl:M.length≤5 * 20000+5:=by rw[<-hM,List.length_append,aS];omega
   have hMn:(Bs M).length=M.length:=by simp[Bs]
   rw[hM] at hNk ⊢;rw[if_pos hkle]
   by_cases hkk:k<p.keys.length
   ·have zkk:((k:Int)<(p.keys.length:Int))=True:=aK (by omega)
    obtain⟨y,hy⟩: ∃y,p.keys[k]?=some y:=⟨p.keys[k],by simp[hkk]⟩
    have hhi:Fl p k x.2.2=y:=by rw[Fl,if_pos hkk,aH,hy];rfl
    have hlo:(if k+1≤p.keys.length then HZ p (k+1) x.2.1 else x.2.2)=y:=by
     rw[if_pos (by omega),HZ,if_neg (by omega),dF,aH,hy];rfl
    rw[hhi] at hNk;(repeat' (first |refine A0 ?_ |refine A4 ?_ |refine A3 ?_ |((refine sR (fun K kp=>?_));simp -implicitDefEqProofs (disch:=omega) only[go_sem,zk,hl,eP,hkd,zkk,hy,hx,DO,DV,eI,zi,hMn,Value.oneCell'];(repeat' (first |(refine K _ ?_;clear K kp) |(with_reducible refine And.intro ?_ ?_) |omega))) |refine A2 rfl ?_));(refine BF (k+1) ?_ ?_;rotate_left;(·(refine AJ hE [0,1,2,3,9,11,13,7] rfl ?_ ?_<;>simp[Ai,AY,lk,ren,renL,AA,AU,hNk,hlo,hl,Bs,Ed,G6,DO,DV,List.map_append,aN]<;>(try omega))));omega
   ·have zkk:((k:Int)<(p.keys.length:Int))=False:=bH (by omega)
    have hhi:Fl p k x.2.2=x.2.2:=by rw[Fl,if_neg hkk]
    have hlo:(if k+1≤p.keys.length then HZ p (k+1) x.2.1 else x.2.2)=x.2.2:=by rw[if_neg (by omega)]
    rw[hhi] at hNk;(repeat' (first |refine A0 ?_ |refine A4 ?_ |refine A3 ?_ |((refine sR (fun K kp=>?_));simp -implicitDefEqProofs (disch:=omega) only[go_sem,zk,hl,eP,hkd,zkk,hx,DO,DV,eI,zi,hMn,Value.oneCell'];(repeat' (first |(refine K _ ?_;clear K kp) |(with_reducible refine And.intro ?_ ?_) |omega))) |refine A2 rfl ?_ |refine A1 rfl ?_));(refine BF (k+1) ?_ ?_;rotate_left;(·(refine AJ hE [0,1,2,3,9,11,13,7] rfl ?_ ?_<;>simp[Ai,AY,lk,ren,renL,AA,AU,hNk,hlo,hl,Bs,Ed,G6,DO,DV,List.map_append,aN]<;>(try omega))));omega
  ·have zk:((k:Int)<(p.kids.length:Int))=False:=bH (by omega)
   have hall3:N++(BC ps x).take k=N++BC ps x:=by rw[aN (by omega)]
   rw[hall3];(repeat' (first |refine A0 ?_ |refine A7 ?_ |((refine sR (fun K kp=>?_));simp -implicitDefEqProofs (disch:=omega) only[go_sem,zk,hl,eP];(repeat' (refine K _ ?_;clear K kp))) |refine A1 rfl ?_))
   all_goals (refine BF (i+1) ?_ ?_;rotate_left;(·(refine AJ hE [0,1,2,3,4,5,6] rfl ?_ ?_<;>simp[Ai,AY,lk,ren,renL,AA,AU,hNx]<;>(try omega))))
   all_goals exact⟨by omega,hdn1⟩
 ·obtain rfl:i=L.length:=by omega
  have hall2:TG ps L:=fun j x hx=>hdone j x (aA.1 hx).1 hx;rw[if_pos hall2] at hBf;rw[bZ];have hNl2:=hNl L.length;rw[bZ] at hNl2;(repeat' (first |refine A0 ?_ |refine A7 ?_ |((refine sR (fun K kp=>?_));simp -implicitDefEqProofs (disch:=omega) only[go_sem];(repeat' (refine K _ ?_;clear K kp))) |((refine A6 rfl (fun h=>?_) (fun h=>?_)<;>try simp only[Af] at h)<;>(try (exfalso;omega)))))
  ((refine Gp ((L.flatMap (BC ps),met+L.length,f)) ?_ ?_ ?_);rotate_left;(·(try dsimp only);(omega));(·(exact iK hE [0,4,5,6])))
  dsimp only;refine⟨fun x hx=>?_,by omega,by omega,by omega,hBf⟩;obtain⟨y,hy,hx⟩:=dN.1 hx;obtain⟨j,hj⟩:=aO.1 hx;rw[BC,eK,aF] at hj;obtain⟨kid,hkid,rfl⟩:=hj;exact hin y.1 kid (aB hkid)
end Go.AM
namespace Go.AM
open Go Go.RowKit
theorem L4 (ps:List PG)(d i:Nat):(pre ps d i).Perm (IT ps d [i]):=by
 have:=TD ps d [i];simpa using this
theorem Pj {ps:List PG}{d i:Nat}{low high:Ky}{r:Int×WS}(W:WalkOK ps d i 0 low high ⟨[],[]⟩ r){m:Nat}{l:List Nat}(h:r.2.rows[m]?=some l):l=Cj ps m [i]:=by
 have h1:=W.rows m;rw[aH,h] at h1;simpa using h1
theorem Qd {ps:List PG}{root:Int}{d:Nat}(n1:1≤ps.length)(n2:ps.length≤4000)(r0:0≤root)(r1:root<ps.length)(hp: ∀(i:Nat)(p:PG),ps[i]?=some p->PageOK p ps.length)(T:TreeOK ps root.toNat d):ChkOK ps root:=by
 have hpm:=L4 ps d root.toNat;have hd:=Im (DH hp) d root.toNat [] [] T.good;rw[hpm.length_eq,T.all] at hd;have h0:=NP (DH hp) (ps.length+1) d root.toNat [] [] 0 ⟨[],[]⟩ (Nat.le_refl _) (by omega) T.good (by simpa using hpm.symm.nodup T.once);obtain⟨d',W⟩:=Em (DH hp) (ps.length+1) root.toNat [] [] 0 ⟨[],[]⟩ (Nat.le_refl _) fG h0;obtain rfl:=Fp (DH hp) d root.toNat _ _ _ _ d' T.good W.good;refine⟨n1,n2,r0,r1,hp,h0,?_,fun l hl=>?_⟩
 ·rw[W.met,List.nil_append,hpm.length_eq,T.all]
 ·obtain⟨m,hm⟩:=aO.1 hl
  have hlt:=(aA.1 hm).1;rw[W.len] at hlt;rw[Pj W hm];exact T.chains m (by simp at hlt;omega)
theorem KB {ps:List PG}{root:Int}(h:ChkOK ps root): ∃d,TreeOK ps root.toNat d:=by
 obtain⟨d,W⟩:=Em (DH h.pg) (ps.length+1) root.toNat [] [] 0 ⟨[],[]⟩ (Nat.le_refl _) fG h.wk;have hpm:=L4 ps d root.toNat;refine⟨d,W.good,fun j hj=>?_,hpm.nodup (by simpa using W.nodup),?_⟩
 ·have hl:j<(Cm ps (ps.length+1) root.toNat [] [] 0 ⟨[],[]⟩).2.rows.length:=by rw[W.len];simp;omega
  have hm:=aI hl;have:=h.ch _ (aB hm);rw[Pj W hm] at this;exact this
 ·rw[<-hpm.length_eq,<-h.mt,W.met,List.nil_append]
theorem QK {ps:List PG}{root:Int}{d:Nat}(n1:1≤ps.length)(n2:ps.length≤4000)(r0:0≤root)(r1:root<ps.length)(hp: ∀(i:Nat)(p:PG),ps[i]?=some p->PageOK p ps.length)(T:TreeOK ps root.toNat d):FltOK ps root:=by
 have hpm:=L4 ps d root.toNat;have hd:=Im (DH hp) d root.toNat [] [] T.good;rw[hpm.length_eq,T.all] at hd;refine⟨n1,n2,r0,r1,hp,?_,?_⟩
 ·refine Qh (DH hp) (ps.length+2) d _ 0 (by simp) (by omega) (fun x hx=>?_) T.chains (by show 0+(IT ps d [root.toNat]).length=_;rw[T.all];omega)
  obtain rfl:=aW.1 hx;exact T.good
 ·exact OT (J3 hp) (by omega) (Nx T.good (d+1) (by omega)) T.once T.all
theorem PN {ps:List PG}{root:Int}(h:FltOK ps root): ∃d,TreeOK ps root.toNat d:=by
 obtain⟨d,g,c,s⟩:=OB (DH h.pg) (ps.length+2) [(root.toNat,[],[])] 0 (by simp) h.bf
 have hr:root.toNat<ps.length:=by have:=h.r0;have:=h.r1;omega
 exact⟨d,g _ (aW.2 rfl),c,Ir (J3 h.pg) hr h.on d,by have s':0+(IT ps d [root.toNat]).length=ps.length:=s;omega⟩
theorem Xk (ps:List PG)(root:Int):Dj ps root=Vw ps root:=by
 by_cases h:ChkOK ps root
 ·obtain⟨d,T⟩:=KB h
  rw[K1 h,Vu (QK h.n1 h.n2 h.r0 h.r1 h.pg T)]
 ·have h2: ¬FltOK ps root:=fun h'=>by
   obtain⟨d,T⟩:=PN h';exact h (Qd h'.n1 h'.n2 h'.r0 h'.r1 h'.pg T)
  rw[IS h,Vv h2]
def Ca (k:Ky):List Ky->Nat
 | []=>0
 |x::r=>if BI x k=true then Ca k r+1 else 0
theorem L6 (k:Ky): ∀l,Ca k l≤l.length
 | []=>Nat.le_refl _
 |x::r=>by
  have:=L6 k r
  rw[Ca];split<;>simp<;>omega
theorem L5 (k:Ky): ∀(l:List Ky)(m:Nat)(x:Ky),m<Ca k l->l[m]?=some x->BI x k=true
 | [],m,x,h,hx=>by simp at hx
 |y::r,0,x,h,hx=>by
  rw[Ca] at h;split at h
  ·rename_i hy;cases hx;exact hy
  ·omega
 |y::r,m+1,x,h,hx=>by
  rw[Ca] at h;split at h
  ·exact L5 k r m x (by omega) hx
  ·omega
theorem O_ (k:Ky): ∀(l:List Ky)(x:Ky),l[Ca k l]?=some x->BI x k=false
 | [],x,hx=>by simp at hx
 |y::r,x,hx=>by
  rw[Ca] at hx;split at hx
  ·exact O_ k r x (by simpa using hx)
  ·rename_i hy;simp at hx;subst hx;simpa using hy
theorem XG (k:Ky){l:List Ky}{i:Nat}(hi:i≤l.length)(h1: ∀(m:Nat)(x:Ky),m<i->l[m]?=some x->BI x k=true)(h2: ∀x,l[i]?=some x->BI x k=false):i=Ca k l:=by
 have hle:=L6 k l
 rcases Nat.lt_trichotomy i (Ca k l) with h |h |h
 ·have hx:=aI (l:=l) (i:=i) (by omega)
  have:=L5 k l i _ h hx;rw[h2 _ hx] at this;cases this
 ·exact h
 ·have hx:=aI (l:=l) (i:=Ca k l) (by omega)
  have:=O_ k l _ hx;rw[h1 _ _ h hx] at this;cases this
def P8 (l:List Ky):Prop:= ∀(i j:Nat)(x y:Ky),i<j->l[i]?=some x->l[j]?=some y->BI x y=true
theorem Pa {l:List Ky}(h: ∀(i:Nat)(x y:Ky),l[i]?=some x->l[i+1]?=some y->BI x y=true):P8 l:=by
 intro i j x y hij hx hy
 induction j generalizing y with
 |zero=>omega
 |succ j ih=>
  have hj:j<l.length:=by have:=(aA.1 hy).1;omega
  have hz:=aI hj;have h1:=h j _ y hz hy
  by_cases he:i=j
  ·subst he;rw[hx] at hz;cases hz;exact h1
  ·exact C2 (ih _ (by omega) hz) h1
theorem DZ {p:PG}{n:Nat}(h:PageOK p n):P8 p.keys:=Pa fun i x y hx hy=>by
 have hl:=(aA.1 hy).1;have:=(h.ks (i+1) hl).2.1 (by omega);rw[dF,aH,aH,hx,hy] at this;exact this
theorem Nw {p:PG}{n:Nat}(h:PageOK p n){x:Ky}(hx:x ∈ p.keys)(hh:p.high≠[]):BI x p.high=true:=by
 obtain⟨i,hi⟩:=aO.1 hx;have:=(h.ks i (aA.1 hi).1).2.2 (cV.2 hh)
 rwa [aH,hi] at this
theorem J4 {p:PG}{n:Nat}(h:PageOK p n){x:Ky}(hx:x ∈ p.keys):x≠[]:=by
 obtain⟨i,hi⟩:=aO.1 hx;have:=(h.ks i (aA.1 hi).1).1;rw[aH,hi] at this;rintro rfl;simp[GB] at this
theorem XF (x:Ky):BI x []=false:=by cases x<;>rfl
def Ah (p:PG)(k:Ky):Nat:=if p.leaf=false/\p.keys[Ca k p.keys]?=some k then Ca k p.keys+1 else Ca k p.keys
def NF (ps:List PG)(k:Ky)(i:Nat):Nat:=((pg ps i).kids.getD (Ah (pg ps i) k) 0).toNat
def C8 (ps:List PG)(k:Ky):Nat->Nat->Nat
 |0,i=>i
 |d+1,i=>C8 ps k d (NF ps k i)
def D9 (ps:List PG)(k:Ky):Nat->Nat->List Nat
 |0,i=>[i]
 |d+1,i=>i::D9 ps k d (NF ps k i)
theorem Gk (p:PG)(k:Ky):Ah p k≤p.keys.length:=by
 have:=L6 k p.keys;unfold Ah;split
 ·rename_i h
  have:=(aA.1 h.2).1;omega
 ·exact this
theorem VT {p:PG}{n:Nat}(h:PageOK p n)(hl:p.leaf=false)(k:Ky){m:Nat}{x:Ky}(hm:m<Ah p k)(hx:p.keys[m]?=some x):BI k x=false:=by
 unfold Ah at hm;split at hm
 ·rename_i hc
  by_cases he:m=Ca k p.keys
  ·subst he;rw[hx] at hc;cases hc.2;exact Ez _
  ·exact Fi (L5 k _ m x (by omega) hx)
 ·exact Fi (L5 k _ m x hm hx)
theorem Lq {p:PG}{n:Nat}(h:PageOK p n)(hl:p.leaf=false)(k:Ky){m:Nat}{x:Ky}(hm:Ah p k≤m)(hx:p.keys[m]?=some x):BI k x=true:=by
 have hs:=DZ h;have hlt:=(aA.1 hx).1;unfold Ah at hm;split at hm
 ·rename_i hc
  exact hs _ m k x (by omega) hc.2 hx
 ·rename_i hc
  obtain⟨y,hy⟩: ∃y,p.keys[Ca k p.keys]?=some y:=⟨_,aI (by omega)⟩;have h1:=O_ k _ _ hy
  have h2:BI k y=true:=by
   cases h3:BI k y
   ·exact absurd ⟨hl,by rw[hy,Jj h3 h1]⟩ hc
   ·rfl
  by_cases he:m=Ca k p.keys
  ·subst he;rw[hx] at hy;cases hy;exact h2
  ·exact C2 h2 (hs _ m _ x (by omega) hy hx)
section
variable {ps:List PG}
abbrev EJ (ps:List PG):Prop:= ∀(i:Nat)(p:PG),ps[i]?=some p->PageOK p ps.length
theorem X7 {i:Nat}{p:PG}(h:ps[i]?=some p):pg ps i=p:=by rw[pg,aH,h];rfl
theorem Lr {i:Nat}(hl:i<ps.length):ps[i]?=some (pg ps i):=by rw[pg,aH,aI hl];rfl
theorem Pp (hp:EJ ps){i:Nat}(h:i<ps.length):PageOK (pg ps i) ps.length:=hp i _ (Lr h)
theorem Ew (hp:EJ ps){i:Nat}(h:(pg ps i).leaf=false):PageOK (pg ps i) ps.length:=by
 cases hi:ps[i]? with
 |none=>
  have:pg ps i=default:=by rw[pg,aH,hi];rfl
  rw[this] at h;cases h
 |some p=>rw[X7 hi];exact hp i p hi
theorem MC (hp:EJ ps){i:Nat}(h:(pg ps i).leaf=false):(AF ps i).length=(pg ps i).keys.length+1:=by
 rw[AF,if_neg (by simp[h]),List.length_map,(Ew hp h).ki h]
theorem Vi (hp:EJ ps){i:Nat}(h:(pg ps i).leaf=false)(k:Ky):(AF ps i)[Ah (pg ps i) k]?=some (NF ps k i):=by
 have h1:=(Ew hp h).ki h;have h2:=Gk (pg ps i) k;rw[AF,if_neg (by simp[h]),List.getElem?_map,aI (by omega),NF,aH,aI (by omega)];rfl
theorem De (hp:EJ ps): ∀(d i:Nat)(low high:Ky),Dz ps d i low high-> ∀x ∈ Cj ps d [i],∀e ∈ (pg ps x).keys,BI e low=false/\(high=[]\/BI e high=true)
 |0,i,low,high,h,x,hx,e,he=>by
  simp only[Cj,aW] at hx;subst hx
  by_cases hin:x<ps.length
  ·have hk:=Pp hp hin
   refine⟨?_,?_⟩
   ·have h1:=h.2.2
    obtain⟨j,hj⟩:=aO.1 he;have hs:=DZ hk
    cases hks:(pg ps x).keys with
    |nil=>rw[hks] at he;cases he
    |cons y r=>
     rw[BV,hks] at h1
     have h1:BI y low=false:=by simpa using h1
     by_cases hj0:j=0
     ·subst hj0;rw[hks] at hj;cases hj;exact h1
     ·have h2:=hs 0 j y e (by omega) (by rw[hks];rfl) hj
      cases h3:BI e low
      ·rfl
      ·rw[C2 h2 h3] at h1;cases h1
   ·by_cases hh:high=[]
    ·exact .inl hh
    ·right
     have:=Nw hk he (by rw[h.2.1];exact hh)
     rwa [h.2.1] at this
  ·have:pg ps x=default:=by rw[pg,aH,bO (by omega)];rfl
   rw[this] at he;cases he
 |d+1,i,low,high,h,x,hx,e,he=>by
  obtain⟨h1,h2,h3,h4⟩:=h;have hk:=Ew hp h1;have hs:=DZ hk
  have hx': ∃kid ∈ AF ps i,x ∈ Cj ps d [kid]:=by
   rw[EX] at hx;clear h4;generalize AF ps i=l at hx
   induction l with
   |nil=>rw[EY] at hx;cases hx
   |cons y r ih=>
    rw[show y::r=[y]++r from rfl,CC] at hx
    rcases cK.1 hx with hx |hx
    ·exact⟨y,by simp,hx⟩
    ·obtain⟨kid,hk,hx⟩:=ih hx
     exact⟨kid,by simp[hk],hx⟩
  obtain⟨kid,hkid,hx⟩:=hx';obtain⟨m,hm⟩:=aO.1 hkid;have hml:=(aA.1 hm).1;rw[MC hp h1] at hml;obtain⟨b1,b2⟩:=De hp d kid _ _ (h4 m kid hm) x hx e he;refine⟨?_,?_⟩
  ·unfold HZ at b1
   split at b1
   ·exact b1
   ·rename_i hm0
    obtain⟨y,hy⟩: ∃y,(pg ps i).keys[m - 1]?=some y:=⟨_,aI (by omega)⟩;rw[aH,hy] at b1;have b1:BI e y=false:=b1;cases h5:BI e low
    ·rfl
    ·have h6:BI y low=false:=by
      obtain⟨z,hz⟩: ∃z,(pg ps i).keys[0]?=some z:=⟨_,aI (by omega)⟩
      have h3:BI z low=false:=by
       rw[BV] at h3
       cases hks:(pg ps i).keys with
       |nil=>rw[hks] at hz;cases hz
       |cons z' r=>rw[hks] at h3 hz;cases hz;simpa using h3
      by_cases hm1:m - 1=0
      ·rw[hm1,hz] at hy;cases hy;exact h3
      ·have h7:=hs 0 (m - 1) z y (by omega) hz hy
       cases h8:BI y low
       ·rfl
       ·rw[C2 h7 h8] at h3;cases h3
     rw[E_ h5 h6] at b1;cases b1
  ·unfold Fl at b2
   split at b2
   ·rename_i hm0
    have hy:=aI hm0;rw[aH,hy] at b2;have hne:(pg ps i).keys[m]≠[]:=J4 hk (fL hm0)
    have b2:BI e (pg ps i).keys[m]=true:=by
     rcases b2 with b2 |b2
     ·exact absurd b2 hne
     ·exact b2
    by_cases hh:high=[]
    ·exact .inl hh
    ·right
     have:=Nw hk (fL hm0) (by rw[h2];exact hh);rw[h2] at this;exact C2 b2 this
   ·exact b2
theorem Nm (d:Nat){l:List Nat}{j x:Nat}(h:l[j]?=some x):Cj ps d l=Cj ps d (l.take j)++(Cj ps d [x]++Cj ps d (l.drop (j+1))):=by
 have hl:=(aA.1 h);rw[<-CC,<-CC]
 congr 1
 obtain⟨hl,rfl⟩:=hl;rw[List.singleton_append,List.getElem_cons_drop,fH]
theorem OZ (d:Nat){l:List Nat}{x:Nat}(h:x ∈ Cj ps d l): ∃(m kid:Nat),l[m]?=some kid/\x ∈ Cj ps d [kid]:=by
 induction l with
 |nil=>rw[EY] at h;cases h
 |cons y r ih=>
  rw[show y::r=[y]++r from rfl,CC] at h
  rcases cK.1 h with h |h
  ·exact⟨0,y,rfl,h⟩
  ·obtain⟨m,kid,h1,h2⟩:=ih h
   exact⟨m+1,kid,by simpa using h1,h2⟩
theorem G9 (hp:EJ ps)(k:Ky): ∀(d i:Nat)(low high:Ky),Dz ps d i low high->(high=[]\/BI k high=true)->
  ∃A B,Cj ps d [i]=A++C8 ps k d i::B/\(∀x ∈ A,∀e ∈ (pg ps x).keys,BI e k=true)/\(∀x ∈ B,∀e ∈ (pg ps x).keys,BI k e=true)/\ ∃lo hi,Dz ps 0 (C8 ps k d i) lo hi/\(hi=[]\/BI k hi=true)
 |0,i,low,high,h,hk=>⟨[],[],rfl,(fun x hx=>by cases hx),(fun x hx=>by cases hx),low,high,h,hk⟩
 |d+1,i,low,high,h,hk=>by
  obtain⟨h1,h2,h3,h4⟩:=h;have hq:=Ew hp h1;have ha:=Vi hp h1 k;have hb:=h4 _ _ ha
  have hkk:Fl (pg ps i) (Ah (pg ps i) k) high=[]\/BI k (Fl (pg ps i) (Ah (pg ps i) k) high)=true:=by
   unfold Fl;split
   ·rename_i hl
    have hy:=aI hl
    right
    rw[aH,hy];exact Lq hq h1 k (Nat.le_refl _) hy
   ·exact hk
  obtain⟨A,B,e,hA,hB,hg⟩:=G9 hp k d (NF ps k i) _ _ hb hkk;refine⟨Cj ps d ((AF ps i).take (Ah (pg ps i) k))++A,B++Cj ps d ((AF ps i).drop (Ah (pg ps i) k+1)),?_,?_,?_,hg⟩
  ·rw[EX,Nm d ha,e,C8];simp
  ·intro x hx y hy
   rcases cK.1 hx with hx |hx
   ·obtain⟨m,kid,hm,hx⟩:=OZ d hx
    have hmlt:m<Ah (pg ps i) k:=by
     have:=(aA.1 hm).1;rw[aS] at this;omega
    rw[bM hmlt] at hm;have hb:=(De hp d kid _ _ (h4 m kid hm) x hx y hy).2;have hpl:=Gk (pg ps i) k;unfold Fl at hb;rw[if_pos (by omega)] at hb;have hz:=aI (l:=(pg ps i).keys) (i:=m) (by omega);rw[aH,hz] at hb
    rcases hb with hb |hb
    ·exact absurd hb (J4 hq (fL (by omega)))
    ·exact E_ hb (VT hq h1 k hmlt hz)
   ·exact hA x hx y hy
  ·intro x hx y hy
   rcases cK.1 hx with hx |hx
   ·exact hB x hx y hy
   ·obtain⟨m,kid,hm,hx⟩:=OZ d hx
    rw[bI] at hm;have hml:=(aA.1 hm).1;rw[MC hp h1] at hml;have hb:=(De hp d kid _ _ (h4 _ kid hm) x hx y hy).1;unfold HZ at hb;rw[if_neg (by omega)] at hb;have hz:=aI (l:=(pg ps i).keys) (i:=Ah (pg ps i) k+1+m - 1) (by omega);rw[aH,hz] at hb;have h5:=Lq hq h1 k (m:=Ah (pg ps i) k+1+m - 1) (by omega) hz;exact E_ h5 hb
end
attribute [local irreducible] AWP DU
theorem XV (i j:Nat)(h:i+j≤1048576):IntKind.i64.wrap (Pe .u64 (IntKind.u64.wrap ((i:Int)+(j:Int))) 1)=((i+j) / 2:Nat):=by
 have h1:IntKind.u64.wrap ((i:Int)+(j:Int))=((i+j:Nat):Int):=by
  simp[IntKind.wrap,IntKind.bits,IntKind.signed];omega
 rw[h1]
 have h2:Pe .u64 ((i+j:Nat):Int) 1=(((i+j) / 2:Nat):Int):=by
  unfold Pe;rw[show(2:Int) ^ (min (1:Int).toNat IntKind.u64.bits)=2 from rfl,Int.fdiv_eq_ediv_of_nonneg _ (by omega)];omega
 rw[h2];simp[IntKind.wrap,IntKind.bits,IntKind.signed];omega
theorem RB (G:GL)(t u:Bool)(l:List Ky)(k:Ky)(hs:P8 l)(hl:l.length≤4):Con prog G 171 [.ro t 1 (l.map DV),.ro u 1 (k.map AC),.fn 97 []] [] 0 (Is (.tup [.r (.int .i64 (Ca k l)),.r (.bool (decide (l[Ca k l]?=some k)))]) [] 0) No:=by
 refine cJ func171 fun E hG hE=>?_;subst hG;simp only[AX];(repeat' (first |refine A0 ?_ |refine A4 ?_ |((refine sR (fun K kp=>?_));simp(disch:=omega) only[go_sem];(repeat' (refine K _ ?_;clear K kp)))));refine AB (fun q:Nat×Nat=>⟨[(10,.r (.int .i64 q.2)),(9,.r (.int .i64 q.1)),(8,.r (.int .i64 l.length)),(0,.ro t 1 (l.map DV)),(1,.ro u 1 (k.map AC)),(2,.fn 97 [])],[],0⟩)
  (fun q=>q.1≤q.2/\q.2≤l.length/\(∀(m:Nat)(x:Ky),m<q.1->l[m]?=some x->BI x k=true)/\(∀(m:Nat)(x:Ky),q.2≤m->l[m]?=some x->BI x k=false)) (fun q=>q.2 - q.1) (0,l.length) ?_ ?_ ?_
 ·exact⟨aU _,Nat.le_refl _,fun m x hm=>by omega,fun m x hm hx=>by have:=(aA.1 hx).1;simp only at hm;omega⟩
 ·(exact iK hE [])
 rintro⟨i,j⟩ ⟨h1,h2,h3,h4⟩;simp only at h1 h2 h3 h4
 by_cases hij:i<j
 ·have zi:((i:Int)<(j:Int))=True:=aK (by omega)
  have hh:=XV i j (by omega);obtain⟨x,hx⟩: ∃x,l[(i+j) / 2]?=some x:=⟨_,aI (by omega)⟩;(repeat' (first |refine A0 ?_ |refine A4 ?_ |refine A3 ?_ |((first |refine sR (fun K kp=>?_) |refine cR (DF _ _ _ _ _) ?_);simp(disch:=omega) only[go_sem,zi,hh,hx,DV,Ou];(repeat' (refine K _ ?_;clear K kp))) |refine A2 rfl ?_ |((refine A6 rfl (fun h=>?_) (fun h=>?_)<;>try simp only[Af] at h))))
  ·((refine Gp ((((i+j) / 2+1,j):Nat×Nat)) ?_ ?_ ?_);rotate_left;(·(try dsimp only);(omega));(·(exact iK hE [])))
   refine⟨by omega,by omega,fun m y hm hy=>?_,h4⟩
   by_cases he:m=(i+j) / 2
   ·subst he;rw[hx] at hy;cases hy;exact h
   ·exact C2 (hs m _ y x (by simp only at hm;omega) hy hx) h
  ·((refine Gp (((i,(i+j) / 2):Nat×Nat)) ?_ ?_ ?_);rotate_left;(·(try dsimp only);(omega));(·(exact iK hE [])))
   refine⟨by simp only;omega,by simp only;omega,h3,fun m y hm hy=>?_⟩
   by_cases he:m=(i+j) / 2
   ·subst he;rw[hx] at hy;cases hy;exact h
   ·have h5:=hs _ m x y (by simp only at hm;omega) hx hy
    cases h6:BI y k
    ·rfl
    ·rw[C2 h5 h6] at h;cases h
 ·obtain rfl:i=j:=by omega
  have zi:((i:Int)<(i:Int))=False:=bH (by omega)
  obtain rfl:i=Ca k l:=XG k h2 h3 fun x hx=>h4 i x (Nat.le_refl _) hx
  generalize hi:Ca k l=i at *
  by_cases hil:i<l.length
  ·have zl:((i:Int)<(l.length:Int))=True:=aK (by omega)
   obtain⟨x,hx⟩: ∃x,l[i]?=some x:=⟨_,aI hil⟩
   have he:(Lib.compareBytes x k==0)=decide (x=k):=by
    rw[cQ,cY,Ue,aP]
   (repeat' (first |refine A0 ?_ |refine A7 ?_ |((first |refine sR (fun K kp=>?_) |refine cR (DF _ _ _ _ _) ?_);simp(disch:=omega) only[go_sem,zi,zl,hx,DV,he];(repeat' (refine K _ ?_;clear K kp))) |refine A1 rfl ?_ |refine A5 ?_));(refine rJ results171 ?_;refine eN hE ?_;simp[A8,ren,renL,hx])
  ·have zl:((i:Int)<(l.length:Int))=False:=bH (by omega)
   have hx:l[i]?=none:=bO (by omega);(repeat' (first |refine A0 ?_ |refine A7 ?_ |((refine sR (fun K kp=>?_));simp(disch:=omega) only[go_sem,zi,zl,hx,DV];(repeat' (refine K _ ?_;clear K kp))) |refine A1 rfl ?_ |refine A5 ?_));(refine rJ results171 ?_;refine eN hE ?_;simp[A8,ren,renL,hx])
theorem Nf (G:GL)(t:Bool)(p:PG)(k:Ky)(hs:P8 p.keys)(hl:p.keys.length≤4):Con prog G 160 [.agg (eP p),.ro t 1 (k.map AC)] [] 0 (Is (.r (.int .i64 (Ah p k))) [] 0) No:=by
 have sc:=RB G true t p.keys k hs hl;have hb:=L6 k p.keys;refine cJ func160 fun E hG hE=>?_;subst hG;simp only[AX];cases hlf:p.leaf
 ·by_cases hx:p.keys[Ca k p.keys]?=some k
  ·have hp:Ah p k=Ca k p.keys+1:=if_pos ⟨hlf,hx⟩
   rw[aE hx] at sc;(repeat' (first |refine A0 ?_ |((first |refine sR (fun K kp=>?_) |refine cR sc ?_);simp(disch:=omega) only[go_sem,eP,hlf];(repeat' (refine K _ ?_;clear K kp))) |refine A2 rfl ?_ |refine A5 ?_));(refine rJ results160 ?_;refine eN hE ?_;simp[A8,ren,renL,hp])
  ·have hp:Ah p k=Ca k p.keys:=if_neg fun h=>hx h.2
   rw[aC hx] at sc;(repeat' (first |refine A0 ?_ |refine A3 ?_ |((first |refine sR (fun K kp=>?_) |refine cR sc ?_);simp(disch:=omega) only[go_sem,eP,hlf];(repeat' (refine K _ ?_;clear K kp))) |refine A1 rfl ?_ |refine A5 ?_));(refine rJ results160 ?_;refine eN hE ?_;simp[A8,ren,renL,hp])
 ·have hp:Ah p k=Ca k p.keys:=if_neg fun h=>by rw[hlf] at h;cases h.1
  by_cases hx:p.keys[Ca k p.keys]?=some k
  ·rw[aE hx] at sc
   (repeat' (first |refine A0 ?_ |refine A3 ?_ |((first |refine sR (fun K kp=>?_) |refine cR sc ?_);simp(disch:=omega) only[go_sem,eP,hlf];(repeat' (refine K _ ?_;clear K kp))) |refine A1 rfl ?_ |refine A5 ?_));(refine rJ results160 ?_;refine eN hE ?_;simp[A8,ren,renL,hp])
  ·rw[aC hx] at sc
   (repeat' (first |refine A0 ?_ |refine A3 ?_ |((first |refine sR (fun K kp=>?_) |refine cR sc ?_);simp(disch:=omega) only[go_sem,eP,hlf];(repeat' (refine K _ ?_;clear K kp))) |refine A1 rfl ?_ |refine A5 ?_));(refine rJ results160 ?_;refine eN hE ?_;simp[A8,ren,renL,hp])
theorem SJ (G:GL)(t:Bool)(p:PG)(k:Ky)(h:p.high=[]\/BI k p.high=true):Con prog G 170 [.agg (eP p),.ro t 1 (k.map AC)] [] 0 (Is (.r (.bool false)) [] 0) No:=by
 refine cJ func170 fun E hG hE=>?_;subst hG;simp only[AX]
 by_cases h1:p.high=[]
 ·have z1:((p.high.length:Int)>0)=False:=bH (by rw[h1];simp)
  (repeat' (first |refine A0 ?_ |((refine sR (fun K kp=>?_));simp(disch:=omega) only[go_sem,eP,z1];(repeat' (refine K _ ?_;clear K kp))) |refine A5 ?_));(refine rJ results170 ?_;exact eQ hE)
 ·have z1:((p.high.length:Int)>0)=True:=aK (by have:=cV.2 h1;omega)
  have h2:BI k p.high=true:=by
   rcases h with h |h
   ·exact absurd h h1
   ·exact h
  (repeat' (first |refine A0 ?_ |((first |refine sR (fun K kp=>?_) |refine cR (DF _ _ _ _ _) ?_);simp(disch:=omega) only[go_sem,eP,z1,S7,h2];(repeat' (refine K _ ?_;clear K kp))) |refine A5 ?_));(refine rJ results170 ?_;exact eQ hE)
theorem Ls (ps:List PG)(k:Ky): ∀(d i:Nat),(D9 ps k d i).length=d+1
 |0,i=>rfl
 |d+1,i=>by rw[D9,List.length_cons,Ls ps k d]
theorem Ji (ps:List PG)(k:Ky): ∀(d i:Nat),(D9 ps k d i)[d]?=some (C8 ps k d i)
 |0,i=>rfl
 |d+1,i=>by rw[D9,List.getElem?_cons_succ,Ji ps k d,C8]
section
variable {ps:List PG}
theorem HU (hp:EJ ps)(k:Ky): ∀(d i:Nat)(low high:Ky),Dz ps d i low high->(high=[]\/BI k high=true)-> ∀(j x:Nat),(D9 ps k d i)[j]?=some x->
  ((pg ps x).high=[]\/BI k (pg ps x).high=true)/\((pg ps x).leaf=decide (j=d))/\(j<d->(D9 ps k d i)[j+1]?=some (NF ps k x))/\(x=i\/ ∃y,x ∈ AF ps y)
 |0,i,low,high,h,hk,0,x,hx=>by
  cases hx;exact⟨by rw[h.2.1];exact hk,by rw[h.1];rfl,fun h=>by omega,.inl rfl⟩
 |0,i,low,high,h,hk,j+1,x,hx=>by simp[D9] at hx
 |d+1,i,low,high,h,hk,0,x,hx=>by
  cases hx;refine⟨by rw[h.2.1];exact hk,by rw[h.1];rfl,fun _=>?_,.inl rfl⟩
  cases d<;>rfl
 |d+1,i,low,high,h,hk,j+1,x,hx=>by
  obtain⟨h1,h2,h3,h4⟩:=h;have hq:=Ew hp h1;have ha:=Vi hp h1 k;have hb:=h4 _ _ ha
  have hkk:Fl (pg ps i) (Ah (pg ps i) k) high=[]\/BI k (Fl (pg ps i) (Ah (pg ps i) k) high)=true:=by
   unfold Fl;split
   ·rename_i hl
    have hy:=aI hl
    right
    rw[aH,hy];exact Lq hq h1 k (Nat.le_refl _) hy
   ·exact hk
  rw[D9,List.getElem?_cons_succ] at hx;obtain⟨a,b,c,e⟩:=HU hp k d (NF ps k i) _ _ hb hkk j x hx;refine⟨a,by rw[b];simp,fun hj=>?_,.inr ?_⟩
  ·rw[D9,List.getElem?_cons_succ];exact c (by omega)
  ·rcases e with e |⟨y,e⟩
   ·exact⟨i,by rw[e];exact aB ha⟩
   ·exact⟨y,e⟩
theorem XN (hp:EJ ps){x:Nat}(h:(pg ps x).leaf=false)(k:Ky):(pg ps x).kids[Ah (pg ps x) k]?=some ((NF ps k x:Nat):Int):=by
 have hq:=Ew hp h;have h1:=hq.ki h;have h2:=Gk (pg ps x) k;have hg:=aI (l:=(pg ps x).kids) (i:=Ah (pg ps x) k) (by omega);have h0:=(hq.kd (Ah (pg ps x) k) (by omega)).1;rw[NF];rw[aH] at h0 ⊢;rw[hg] at h0 ⊢;have h0:0≤(pg ps x).kids[Ah (pg ps x) k]:=h0;show _=some ((pg ps x).kids[Ah (pg ps x) k].toNat:Int)
 congr 1
 omega
end
theorem VV (G:GL)(t u:Bool)(ps:List PG)(root d:Nat)(k:Ky)(hp:EJ ps)(hin: ∀i x,x ∈ AF ps i->x<ps.length)(hg:Dz ps d root [] [])(hr:root<ps.length)(hn:ps.length≤4000)(hd:d<ps.length):
  Con prog G 159 [.agg [.ro t 5 (ps.map eP),.r (.int .i64 root)],.ro u 1 (k.map AC)] [] 0 (Is (.ro true 1 ((D9 ps k d root).map Ed)) [] 0) No:=by
 have hps:=HU hp k d root [] [] hg (.inl rfl);have hpl:=Ls ps k d root;refine cJ func159 fun E hG hE=>?_;subst hG;simp only[AX];(repeat' (first |refine A0 ?_ |refine A4 ?_ |((refine sR (fun K kp=>?_));simp -implicitDefEqProofs (disch:=omega) only[go_sem];(repeat' (refine K _ ?_;clear K kp)))));refine AB (fun j:Nat=>⟨[(5,.s 1 0 (j+1)),(2,.p 0 0 0),(1,.ro u 1 (k.map AC))],[(0,.box 43 [.ro t 5 (ps.map eP),.r (.int .i64 root)]),(1,.lst 3 1 (((D9 ps k d root).take (j+1)).map Ed))],2⟩) (fun j=>j≤d) (fun j=>d - j) 0 ?_ ?_ ?_
 ·exact aU _
 ·have h0:(D9 ps k d root).take (0+1)=[root]:=by cases d<;>simp[D9]
  (refine AJ hE [0,1] rfl ?_ ?_<;>simp[Ai,AY,lk,ren,renL,AA,AU,h0,Ed]<;>(try omega))
 intro j hj;obtain⟨x,hx⟩: ∃x,(D9 ps k d root)[j]?=some x:=⟨_,aI (by omega)⟩;obtain⟨b1,b2,b3,b4⟩:=hps j x hx
 have hxl:x<ps.length:=by
  rcases b4 with rfl |⟨y,hy⟩
  ·exact hr
  ·exact hin y x hy
 have hpx:=Lr hxl;have kv:=fun h=>XN hp (x:=x) h k;have hok:=hp x _ hpx;generalize hP:pg ps x=p at hpx b1 b2 kv hok
 have htj:((D9 ps k d root).take (j+1))[j]?=some x:=by rw[bM (by omega),hx]
 have hl:((D9 ps k d root).take (j+1)).length=j+1:=by rw[aS];omega
 have e1:((j+1:Nat):Int) - 1=(j:Int):=by omega
 have zj:((j:Int)<((j+1:Nat):Int))=True:=aK (by omega);have bc:=SJ E.G u p k b1;have pc:=Nf E.G u p k (DZ hok) hok.nk
 by_cases hjd:j=d
 ·subst hjd
  have b2:p.leaf=true:=by rw[b2];simp
  simp only[eP,b2] at bc pc;(repeat' (first |refine A0 ?_ |refine A4 ?_ |refine A3 ?_ |((first |refine sR (fun K kp=>?_) |refine cR bc ?_);simp -implicitDefEqProofs (disch:=omega) only[go_sem,e1,zj,htj,hl,hpx,b2,eP,Ed];(repeat' (refine K _ ?_;clear K kp))) |refine A2 rfl ?_ |refine A1 rfl ?_ |refine A5 ?_));have htk:(D9 ps k j root).take (j+1)=D9 ps k j root:=aN (by omega);rw[htk];(refine rJ results159 ?_;refine AG (by simp only[A8];simp -implicitDefEqProofs (disch:=omega) only[go_sem,hpl];rfl) ?_;refine(AE hE (by simp) ?_).s;simp[A8,ren,renL,hpl]);exact aN (by simp[hpl])
 ·have b2:p.leaf=false:=by rw[b2];simp[hjd]
  have b3:=b3 (by omega);have kv:=kv b2;simp only[eP,b2] at bc pc
  have htk:(D9 ps k d root).take (j+1+1)=(D9 ps k d root).take (j+1)++[NF ps k x]:=by rw[aV (i:=j+1),b3];rfl
  (repeat' (first |refine A0 ?_ |refine A4 ?_ |refine A3 ?_ |((first |refine sR (fun K kp=>?_) |refine sI (id:=8) mixed 9 (fun K kp=>?_) |refine cR bc ?_ |refine cD pc ?_);simp -implicitDefEqProofs (disch:=omega) only[go_sem,e1,zj,htj,hl,hpx,b2,kv,eP,eI,Ed];(repeat' (first |(refine K _ ?_;clear K kp) |(with_reducible refine And.intro ?_ ?_) |omega))) |refine A1 rfl ?_));(refine XB (j+1) ?_ ?_;rotate_left;(·(refine AJ hE [0,4] rfl ?_ ?_<;>simp[Ai,AY,lk,ren,renL,AA,AU,htk,Ed,cM,dK]<;>(try omega))));omega
def G1 (p:PG)(k:Ky):Bool:=decide (p.keys[Ah p k]?=some k)
theorem Jt (G:GL)(t u:Bool)(ps:List PG)(root d:Nat)(k:Ky)(hp:EJ ps)(hin: ∀i x,x ∈ AF ps i->x<ps.length)(hg:Dz ps d root [] [])(hr:root<ps.length)(hn:ps.length≤4000)(hd:d<ps.length):
  Con prog G 126 [.agg [.ro t 5 (ps.map eP),.r (.int .i64 root)],.ro u 1 (k.map AC)] [] 0 (Is (.tup [.r (.int .i64 (C8 ps k d root)),.r (.int .i64 (Ah (pg ps (C8 ps k d root)) k)),.r (.bool (G1 (pg ps (C8 ps k d root)) k))]) [] 0) No:=by
 have hpl:=Ls ps k d root;have hlast:=Ji ps k d root;obtain⟨_,_,_,b4⟩:=HU hp k d root [] [] hg (.inl rfl) d _ hlast
 have hxl:C8 ps k d root<ps.length:=by
  rcases b4 with h |⟨y,hy⟩
  ·rw[h];exact hr
  ·exact hin y _ hy
 have pc:=VV G t u ps root d k hp hin hg hr hn hd;have hpx:=Lr hxl;have hok:=hp _ _ hpx;generalize C8 ps k d root=x at *;generalize hP:pg ps x=p at hpx hok;have lc:=Nf G u p k (DZ hok) hok.nk
 have e1:((d+1:Nat):Int) - 1=(d:Int):=by omega
 have zd:((d:Int)<((d+1:Nat):Int))=True:=aK (by omega);have hple:=Gk p k;have h4:=hok.nk;simp only[eP] at lc;refine cJ func126 fun E hG hE=>?_;subst hG;simp only[AX]
 by_cases hat:Ah p k<p.keys.length
 ·have zi:((Ah p k:Int)<(p.keys.length:Int))=True:=aK (by omega)
  obtain⟨y,hy⟩: ∃y,p.keys[Ah p k]?=some y:=⟨_,aI hat⟩
  have ht:G1 p k=(y==k):=by rw[G1,hy,cQ,aP,cY];exact⟨fun h=>bD h,fun h=>by rw[h]⟩
  (repeat' (first |refine A0 ?_ |((first |refine sR (fun K kp=>?_) |refine cR pc ?_ |refine cR lc ?_ |refine cR (Hl _ _ _ _ _) ?_);simp -implicitDefEqProofs (disch:=omega) only[go_sem,e1,zd,zi,hlast,hpl,hpx,hy,eP,DV,Ed];(repeat' (refine K _ ?_;clear K kp))) |refine A5 ?_));(refine rJ results126 ?_;refine eN hE ?_;simp[A8,ren,renL,hP,ht])
 ·have zi:((Ah p k:Int)<(p.keys.length:Int))=False:=bH (by omega)
  have ht:G1 p k=false:=by rw[G1,bO (by omega)];rfl
  (repeat' (first |refine A0 ?_ |((first |refine sR (fun K kp=>?_) |refine cR pc ?_ |refine cR lc ?_);simp -implicitDefEqProofs (disch:=omega) only[go_sem,e1,zd,zi,hlast,hpl,hpx,eP,DV,Ed];(repeat' (refine K _ ?_;clear K kp))) |refine A5 ?_));(refine rJ results126 ?_;refine eN hE ?_;simp[A8,ren,renL,hP,ht])
end Go.AM
namespace Go.AM
abbrev Et:=Ky×Int
def DD (ps:List PG)(x:Nat):List Et:=(pg ps x).keys.zip (pg ps x).kids
def BG (ps:List PG)(d i:Nat):List Et:=(Cj ps d [i]).flatMap (DD ps)
theorem Hh {ps:List PG}{x:Nat}{e:Et}(h:e ∈ DD ps x):e.1 ∈ (pg ps x).keys:=(gS h).1
theorem Xf {ps:List PG}(hp:EJ ps)(x:Nat):(DD ps x).length≤4:=by
 rw[DD,fS]
 by_cases h:x<ps.length
 ·have:=(Pp hp h).nk;omega
 ·have:pg ps x=default:=by rw[pg,aH,bO (by omega)];rfl
  rw[this];exact aU _
theorem Ej {ps:List PG}(hp:EJ ps): ∀(l:List Nat),(l.flatMap (DD ps)).length≤4 * l.length
 | []=>Nat.le_refl _
 |x::r=>by
  have:=Ej hp r;have:=Xf hp x;rw[cF,List.length_append,List.length_cons];omega
theorem QM (k:Ky): ∀(ks:List Ky)(is:List Int),ks.length=is.length->P8 ks->(ks.zip is).find? (fun e=>e.1==k)=if ks[Ca k ks]?=some k then some (k,is.getD (Ca k ks) 0) else none
 | [],is,_,_=>by simp
 |x::r,[],h,_=>by simp at h
 |x::r,n::s,h,hs=>by
  have hs':P8 r:=fun i j a b hij ha hb=>hs (i+1) (j+1) a b (by omega) (by simpa using ha) (by simpa using hb);rw[fU,List.find?_cons]
  by_cases hx:BI x k=true
  ·have hne:(x==k)=false:=by
    rw[aT];rintro rfl;rw[Ez] at hx;cases hx
   have hl:Ca k (x::r)=Ca k r+1:=by rw[Ca,if_pos hx]
   rw[hl];simp only[hne,List.getElem?_cons_succ,List.getD_cons_succ];exact QM k r s (by simpa using h) hs'
  ·have hl:Ca k (x::r)=0:=by rw[Ca,if_neg hx]
   rw[hl];simp only[List.getElem?_cons_zero,List.getD_cons_zero]
   by_cases he:x=k
   ·subst he;simp
   ·have hne:(x==k)=false:=by rw[aT];exact he
    rw[if_neg (by simpa using he)];simp only[hne];refine fZ.2 fun e he'=>?_;have h1:=(gS he').1;obtain⟨j,hj⟩:=aO.1 h1;have h2:=hs 0 (j+1) x e.1 (by omega) rfl (by simpa using hj);simp only[cY];rintro rfl;exact hx h2
theorem H4 {ps:List PG}{k:Ky}{l:List Nat}(h: ∀x ∈ l,∀e ∈ (pg ps x).keys,e≠k):(l.flatMap (DD ps)).find? (fun e=>e.1==k)=none:=by
 refine fZ.2 fun e he=>?_;obtain⟨x,hx,he⟩:=dN.1 he;simpa using h x hx e.1 (Hh he)
def H1 (l:List Et)(k:Ky):Int×Int:=match l.find? (fun e=>e.1==k) with
 |some e=>(e.2,0)
 |none=>(0,8)
def O1 (p:PG)(k:Ky):Int×Int:=if p.keys[Ah p k]?=some k then (p.kids.getD (Ah p k) 0,0) else (0,8)
theorem Rc {a b:Ky}(h:BI a b=true):a≠b:=by rintro rfl;rw[Ez] at h;cases h
theorem Rp {ps:List PG}(hp:EJ ps){d root:Nat}(hg:Dz ps d root [] [])(k:Ky)(hl:C8 ps k d root<ps.length):H1 (BG ps d root) k=O1 (pg ps (C8 ps k d root)) k:=by
 obtain⟨A,B,e,hA,hB,lo,hi,hgl,_⟩:=G9 hp k d root [] [] hg (.inl rfl);have hlf:=hgl.1;have hok:=Pp hp hl;generalize C8 ps k d root=x at *;have hkl:=hok.kl hlf
 have hpl:Ah (pg ps x) k=Ca k (pg ps x).keys:=if_neg fun h=>by rw[hlf] at h;cases h.1
 rw[H1,BG,e,cX,cF,List.find?_append,List.find?_append,H4 (fun x hx e he=>Rc (hA x hx e he)),H4 (fun x hx e he=>(Rc (hB x hx e he)).symm),DD,QM k _ _ hkl.symm (DZ hok),O1,hpl]
 by_cases h:(pg ps x).keys[Ca k (pg ps x).keys]?=some k
 ·rw[if_pos h,if_pos h];rfl
 ·rw[if_neg h,if_neg h];rfl
open Go Go.RowKit
attribute [local irreducible] AWP DU
theorem Td (G:GL)(t t':Bool)(l:List Int)(hl:l.length≤1048576):Con prog G 120 [.ro t 1 (l.map eI),.ro t' 1 (l.map eI)] [] 0 (Is (.r (.bool true)) [] 0) No:=by
 refine cJ func120 fun E hG hE=>?_;subst hG;simp only[AX];(repeat' (first |refine A0 ?_ |refine A4 ?_ |refine A3 ?_ |((refine sR (fun K kp=>?_));simp -implicitDefEqProofs (disch:=omega) only[go_sem,bY];(repeat' (refine K _ ?_;clear K kp))) |refine A1 rfl ?_));refine AB (fun k:Nat=>⟨[(5,.r (.int .i64 k)),(0,.ro t 1 (l.map eI)),(1,.ro t' 1 (l.map eI))],[],0⟩) (fun k=>k≤l.length) (fun k=>l.length - k) 0 ?_ ?_ ?_
 ·simp
 ·(exact iK hE [])
 intro k hk
 by_cases hlt:k<l.length
 ·obtain⟨x,hx⟩: ∃x,l[k]?=some x:=⟨l[k],by simp[hlt]⟩
  have d1:decide ((k:Int)<(l.length:Int))=true:=aE (by omega);(repeat' (first |refine A0 ?_ |refine A4 ?_ |refine A3 ?_ |((first |refine sR (fun K kp=>?_) |refine sI (id:=6) mixed 9 (fun K kp=>?_));simp -implicitDefEqProofs (disch:=omega) only[go_sem,hx,eI,d1,bY];(repeat' (refine K _ ?_;clear K kp))) |refine A2 rfl ?_ |refine A1 rfl ?_));(refine BF (k+1) ?_ (iK hE []));omega
 ·have d1:decide ((k:Int)<(l.length:Int))=false:=aC (by omega)
  (repeat' (first |refine A0 ?_ |refine A7 ?_ |((refine sR (fun K kp=>?_));simp -implicitDefEqProofs (disch:=omega) only[go_sem,d1];(repeat' (refine K _ ?_;clear K kp))) |refine A1 rfl ?_ |refine A5 ?_));(refine rJ results120 ?_;exact eQ hE)
def Dk (ps:List PG):Prop:=ps.length≤1048576/\ ∀p ∈ ps,p.keys.length≤1048576/\p.kids.length≤1048576/\p.high.length≤1048576/\ ∀k ∈ p.keys,k.length≤1048576
theorem OO (G:GL)(t t':Bool)(ps:List PG)(root:Int)(ho:Dk ps):Con prog G 71 [.agg [.ro t 5 (ps.map eP),.r (.int .i64 root)],.agg [.ro t' 5 (ps.map eP),.r (.int .i64 root)]] [] 0 (Is (.r (.bool true)) [] 0) No:=by
 have hn:=ho.1;refine cJ func71 fun E hG hE=>?_;subst hG;simp only[AX];(repeat' (first |refine A0 ?_ |refine A4 ?_ |refine A3 ?_ |((refine sR (fun K kp=>?_));simp -implicitDefEqProofs (disch:=omega) only[go_sem,eP,bY];(repeat' (refine K _ ?_;clear K kp))) |refine A1 rfl ?_));refine AB (fun i:Nat=>⟨[(5,.r (.int .i64 i)),(3,.p 1 0 0),(2,.p 0 0 0)],[(0,.box 43 [.ro t 5 (ps.map eP),.r (.int .i64 root)]),(1,.box 43 [.ro t' 5 (ps.map eP),.r (.int .i64 root)])],2⟩) (fun i=>i≤ps.length) (fun i=>ps.length - i) 0 ?_ ?_ ?_
 ·exact aU _
 ·(exact iK hE [0,1])
 intro i hi
 by_cases hlt:i<ps.length
 ·have zi:((i:Int)<(ps.length:Int))=True:=aK (by omega)
  obtain⟨p,hp⟩: ∃p,ps[i]?=some p:=⟨ps[i],by simp[hlt]⟩;obtain⟨h1,h2,h3,h4⟩:=ho.2 p (aB hp);have sc:=Td E.G true true p.kids h2;(repeat' (first |refine A0 ?_ |refine A4 ?_ |refine A3 ?_ |((first |refine sR (fun K kp=>?_) |refine cR sc ?_);simp -implicitDefEqProofs (disch:=omega) only[go_sem,zi,hp,eP,bY,Fz,beq_self_eq_true];(repeat' (refine K _ ?_;clear K kp))) |refine A2 rfl ?_ |refine A1 rfl ?_));refine AB (fun k:Nat=>⟨[(8,.r (.int .i64 k)),(7,.p 3 0 0),(6,.p 2 0 0),(5,.r (.int .i64 i)),(3,.p 1 0 0),(2,.p 0 0 0)],[(0,.box 43 [.ro t 5 (ps.map eP),.r (.int .i64 root)]),(1,.box 43 [.ro t' 5 (ps.map eP),.r (.int .i64 root)]),(2,.box 121 (eP p)),(3,.box 121 (eP p))],4⟩) (fun k=>k≤p.keys.length) (fun k=>p.keys.length - k) 0 ?_ ?_ ?_
  ·exact aU _
  ·(refine AJ hE [0,1,2,3] rfl ?_ ?_<;>simp[Ai,AY,lk,ren,renL,AA,AU,eP]<;>(try omega))
  intro k hk
  by_cases hkl:k<p.keys.length
  ·have zk:((k:Int)<(p.keys.length:Int))=True:=aK (by omega)
   obtain⟨x,hx⟩: ∃x,p.keys[k]?=some x:=⟨p.keys[k],by simp[hkl]⟩;(repeat' (first |refine A0 ?_ |refine A4 ?_ |refine A3 ?_ |((first |refine sR (fun K kp=>?_) |refine sI (id:=13) mixed 13 (fun K kp=>?_));simp -implicitDefEqProofs (disch:=omega) only[go_sem,zk,hx,eP,DV,bY,Fz,beq_self_eq_true];(repeat' (refine K _ ?_;clear K kp))) |refine A2 rfl ?_ |refine A1 rfl ?_));(refine BF (k+1) ?_ ?_;rotate_left;(·(refine AJ hE [0,1,2,3] rfl ?_ ?_<;>simp[Ai,AY,lk,ren,renL,AA,AU,eP]<;>(try omega))));omega
  ·obtain rfl:k=p.keys.length:=by omega
   (repeat' (first |refine A0 ?_ |refine A7 ?_ |((refine sR (fun K kp=>?_));simp -implicitDefEqProofs (disch:=omega) only[go_sem,eP];(repeat' (refine K _ ?_;clear K kp))) |((refine A6 rfl (fun h=>?_) (fun h=>?_)<;>try simp only[Af] at h)<;>(try (exfalso;omega)))));(refine BF (i+1) ?_ (iK hE [0,1]));omega
 ·obtain rfl:i=ps.length:=by omega
  (repeat' (first |refine A0 ?_ |refine A7 ?_ |((refine sR (fun K kp=>?_));simp -implicitDefEqProofs (disch:=omega) only[go_sem];(repeat' (refine K _ ?_;clear K kp))) |((refine A6 rfl (fun h=>?_) (fun h=>?_)<;>try simp only[Af] at h)<;>(try (exfalso;omega))) |refine A5 ?_));(refine rJ results71 ?_;exact eQ hE)
theorem OK (G:GL)(t:Bool)(ps:List PG)(root:Int)(ho:Dk ps):Con prog G 38 [.agg [.ro t 5 (ps.map eP),.r (.int .i64 root)]] [] 0 (Is (.agg [.ro true 5 (ps.map eP),.r (.int .i64 root)]) [] 0) No:=by
 have hn:=ho.1;refine cJ func38 fun E hG hE=>?_;subst hG;simp only[AX];(repeat' (first |refine A0 ?_ |refine A4 ?_ |((refine sR (fun K kp=>?_));simp -implicitDefEqProofs (maxSteps:=2000000) (disch:=omega) only[go_sem,eP];(repeat' (refine K _ ?_;clear K kp)))));(refine AWP.emb (EG 2 0 121 5 rfl rfl (by simp)) ?_;simp only[cZ,dA,lk,↓reduceIte,Nat.reduceAdd]);refine AB (fun i:Nat=>⟨[(4,.r (.int .i64 i)),(3,.p 2 0 0),(2,.p 1 0 0),(1,.p 0 0 0)],[(0,.box 43 [.ro t 5 (ps.map eP),.r (.int .i64 root)]),(1,.box 43 [.r (.slice none 0 0),.r (.int .i64 0)]),(2,.box 43 [.s 3 0 i,.r (.int .i64 root)]),(3,.lst 121 5 ((ps.take i).map eP))],4⟩) (fun i=>i≤ps.length) (fun i=>ps.length - i) 0 ?_ ?_ ?_
 ·exact aU _
 ·(refine AJ hE [0,1,2,3] rfl ?_ ?_<;>simp[Ai,AY,lk,ren,renL,AA,AU,BH]<;>(try omega))
 intro i hi
 by_cases hlt:i<ps.length
 ·have zi:((i:Int)<(ps.length:Int))=True:=aK (by omega)
  obtain⟨p,hp⟩: ∃p,ps[i]?=some p:=⟨ps[i],by simp[hlt]⟩;obtain⟨h1,h2,h3,h4⟩:=ho.2 p (aB hp);have bc:=DE E.G true p.high h3;(repeat' (first |refine A0 ?_ |refine A4 ?_ |refine A3 ?_ |((first |refine sR (fun K kp=>?_) |refine rU (id:=6) mixed 9 [⟨0,0,[],[(0,1)]⟩,⟨0,0,[0],[(0,1)]⟩,⟨0,0,[],[(0,1)]⟩,⟨0,0,[2],[(0,1)]⟩,⟨0,0,[2,3],[(0,1)]⟩,⟨0,0,[],[(0,1)]⟩,⟨0,0,[5],[(0,1)]⟩,⟨0,0,[0,1,2,3,4,5,6],[(0,1)]⟩,⟨0,1,[],[]⟩] 1 [25,26,27,28,29,30,31,32,6] [] (fun _ _ K kp=>?_) |refine cU bc ?_);simp -implicitDefEqProofs (maxSteps:=2000000) (disch:=omega) only[go_sem,zi,hp,eP];(repeat' (refine K _ ?_;clear K kp))) |refine A2 rfl ?_));(refine AWP.emb (EG 5 1 58 1 rfl rfl (by simp)) ?_;simp only[cZ,dA,lk,↓reduceIte,Nat.reduceAdd]);(refine AWP.emb (EG 5 2 3 1 rfl rfl (by simp)) ?_;simp only[cZ,dA,lk,↓reduceIte,Nat.reduceAdd]);refine AB (fun k:Nat=>⟨[(7,.r (.int .i64 k)),(6,.p 5 0 0),(5,.p 4 0 0),(4,.r (.int .i64 i)),(3,.p 2 0 0),(2,.p 1 0 0),(1,.p 0 0 0)],[(0,.box 43 [.ro t 5 (ps.map eP),.r (.int .i64 root)]),(1,.box 43 [.r (.slice none 0 0),.r (.int .i64 0)]),(2,.box 43 [.s 3 0 i,.r (.int .i64 root)]),(3,.lst 121 5 ((ps.take i).map eP)),(4,.box 121 (eP p)),(5,.box 121 [.r (.bool p.leaf),.s 6 0 (k),.s 7 0 (0),.ro true 1 (p.high.map AC),.r (.int .i64 p.next)]),(6,.lst 58 1 ((p.keys.take k).map DV)),(7,.lst 3 1 [])],8⟩) (fun k=>k≤p.keys.length) (fun k=>p.keys.length - k) 0 ?_ ?_ ?_
  ·exact aU _
  ·(refine AJ hE [0,1,2,3,4,5,6,7] rfl ?_ ?_<;>simp[Ai,AY,lk,ren,renL,AA,AU,eP]<;>(try omega))
  intro k hk
  by_cases hkl:k<p.keys.length
  ·have zk:((k:Int)<(p.keys.length:Int))=True:=aK (by omega)
   obtain⟨x,hx⟩: ∃x,p.keys[k]?=some x:=⟨p.keys[k],by simp[hkl]⟩;have xc:=DE E.G true x (h4 x (aB hx))
   have htk:p.keys.take (k+1)=p.keys.take k++[x]:=by rw[aV,hx];rfl
   have hl:(p.keys.take k).length=k:=by rw[aS];omega
   (repeat' (first |refine A0 ?_ |refine A4 ?_ |refine A3 ?_ |((first |refine sR (fun K kp=>?_) |refine cR xc ?_);simp -implicitDefEqProofs (maxSteps:=2000000) (disch:=omega) only[go_sem,zk,hx,eP,DV,hl,Value.oneCell'];(repeat' (first |(refine K _ ?_;clear K kp) |(with_reducible refine And.intro ?_ ?_) |omega))) |refine A2 rfl ?_));(refine BF (k+1) ?_ ?_;rotate_left;(·(refine AJ hE [0,1,2,3,4,5,9,7] rfl ?_ ?_<;>simp[Ai,AY,lk,ren,renL,AA,AU,htk,DV,eP,cM,dK]<;>(try omega))));omega
  ·obtain rfl:k=p.keys.length:=by omega
   rw[bZ];(repeat' (first |refine A0 ?_ |refine A4 ?_ |refine A7 ?_ |((refine sR (fun K kp=>?_));simp -implicitDefEqProofs (maxSteps:=2000000) (disch:=omega) only[go_sem,eP];(repeat' (refine K _ ?_;clear K kp))) |((refine A6 rfl (fun h=>?_) (fun h=>?_)<;>try simp only[Af] at h)<;>(try (exfalso;omega)))));refine AB (fun k:Nat=>⟨[(9,.r (.int .i64 k)),(6,.p 5 0 0),(5,.p 4 0 0),(4,.r (.int .i64 i)),(3,.p 2 0 0),(2,.p 1 0 0),(1,.p 0 0 0)],[(0,.box 43 [.ro t 5 (ps.map eP),.r (.int .i64 root)]),(1,.box 43 [.r (.slice none 0 0),.r (.int .i64 0)]),(2,.box 43 [.s 3 0 i,.r (.int .i64 root)]),(3,.lst 121 5 ((ps.take i).map eP)),(4,.box 121 (eP p)),(5,.box 121 [.r (.bool p.leaf),.s 6 0 (p.keys.length),.s 7 0 (k),.ro true 1 (p.high.map AC),.r (.int .i64 p.next)]),(6,.lst 58 1 (p.keys.map DV)),(7,.lst 3 1 ((p.kids.take k).map eI))],8⟩) (fun k=>k≤p.kids.length) (fun k=>p.kids.length - k) 0 ?_ ?_ ?_
   ·exact aU _
   ·(refine AJ hE [0,1,2,3,4,5,6,7] rfl ?_ ?_<;>simp[Ai,AY,lk,ren,renL,AA,AU,eP]<;>(try omega))
   intro k hk
   by_cases hkl:k<p.kids.length
   ·have zk:((k:Int)<(p.kids.length:Int))=True:=aK (by omega)
    obtain⟨x,hx⟩: ∃x,p.kids[k]?=some x:=⟨p.kids[k],by simp[hkl]⟩
    have htk:p.kids.take (k+1)=p.kids.take k++[x]:=by rw[aV,hx];rfl
    have hl:(p.kids.take k).length=k:=by rw[aS];omega
    (repeat' (first |refine A0 ?_ |refine A4 ?_ |refine A3 ?_ |((first |refine sR (fun K kp=>?_) |refine rX (id:=15) mixed [7] 9 [0,1,2,3,4,5,6,7,8] (fun _ _ K kp=>?_));simp -implicitDefEqProofs (maxSteps:=2000000) (disch:=omega) only[go_sem,zk,hx,eP,eI,hl,Value.oneCell'];(repeat' (first |(refine K _ ?_;clear K kp) |(with_reducible refine And.intro ?_ ?_) |omega))) |refine A2 rfl ?_));(refine BF (k+1) ?_ ?_;rotate_left;(·(refine AJ hE [0,1,2,3,4,5,6,9] rfl ?_ ?_<;>simp[Ai,AY,lk,ren,renL,AA,AU,htk,eI,eP,cM,dK]<;>(try omega))));omega
   ·obtain rfl:k=p.kids.length:=by omega
    rw[bZ]
    have hl:(ps.take i).length=i:=by rw[aS];omega
    have ht:ps.take (i+1)=ps.take i++[p]:=by rw[aV,hp];rfl
    (repeat' (first |refine A0 ?_ |refine A7 ?_ |((refine sR (fun K kp=>?_));simp -implicitDefEqProofs (maxSteps:=2000000) (disch:=omega) only[go_sem,eP,hl];(repeat' (first |(refine K _ ?_;clear K kp) |(with_reducible refine And.intro ?_ ?_) |omega))) |((refine A6 rfl (fun h=>?_) (fun h=>?_)<;>try simp only[Af] at h)<;>(try (exfalso;omega)))));(refine BF (i+1) ?_ ?_;rotate_left;(·(refine AJ hE [0,1,2,9] rfl ?_ ?_<;>simp[Ai,AY,lk,ren,renL,AA,AU,ht,eP,cM,dK]<;>(try omega))));omega
 ·obtain rfl:i=ps.length:=by omega
  rw[bZ];(repeat' (first |refine A0 ?_ |refine A7 ?_ |((refine sR (fun K kp=>?_));simp -implicitDefEqProofs (maxSteps:=2000000) (disch:=omega) only[go_sem];(repeat' (refine K _ ?_;clear K kp))) |((refine A6 rfl (fun h=>?_) (fun h=>?_)<;>try simp only[Af] at h)<;>(try (exfalso;omega))) |refine A5 ?_));(refine rJ results38 ?_;refine AG (by simp only[A8];simp -implicitDefEqProofs (maxSteps:=2000000) (disch:=omega) only[go_sem];rfl) ?_;refine(AE hE (by simp) ?_).s;simp[A8,ren,renL])
theorem G3 {ps:List PG}(h:Dk ps):Yw ps:=fun p hp=>⟨(h.2 p hp).1,(h.2 p hp).2.1⟩
def Cf (e:Et):List AV:=[.ro true 1 (e.1.map AC),.r (.int .i64 e.2)]
@[simp] theorem X6 (a:Et):(∀x,x ∈ Cf a->PT x)=True:=aK (by intro x hx;simp[Cf] at hx;rcases hx with rfl |rfl<;>simp)
instance:PTf Cf:=⟨fun a=>of_eq_true (X6 a)⟩
theorem QP (t:Bool)(ps:List PG)(root:Int)(hp:EJ ps)(ho:Dk ps)(hin: ∀i x,x ∈ AF ps i->x<ps.length)(hn:ps.length≤4000): ∀(d i:Nat)(low high:Ky),Dz ps d i low high->i<ps.length->(Cj ps d [i]).length≤4000->
  ∀(G:GL),Con prog G 68 [.agg [.ro t 5 (ps.map eP),.r (.int .i64 root)],.r (.int .i64 i)] [] 0 (Is (.ro true 2 ((BG ps d i).map Cf)) [] 0) No:=by
 intro d
 induction d with
 |zero=>
  intro i low high hg hi hl G;have hlf:=hg.1;have hpx:=Lr hi;have hok:=hp _ _ hpx;obtain⟨o1,o2,o3,o4⟩:=ho.2 _ (aB hpx)
  have he:BG ps 0 i=(pg ps i).keys.zip (pg ps i).kids:=by simp[BG,Cj,DD]
  rw[he];generalize pg ps i=p at *;have hkl:=hok.kl hlf;have h4:=hok.nk;refine cJ func68 fun E hG hE=>?_;subst hG;simp only[AX];(repeat' (first |refine A0 ?_ |refine A4 ?_ |((refine rR (fun K kp hK hkp=>?_));simp -implicitDefEqProofs (disch:=omega) only[go_sem,hpx,eP,hlf];(repeat' (refine hK _ ?_;clear hK hkp kp K)))));(refine AWP.emb (BY 6 75 2 ?_) ?_;(·rfl);dsimp only);refine AB (fun j:Nat=>⟨[(7,.r (.int .i64 j)),(6,.s 2 0 j),(5,.p 1 0 0),(2,.p 0 0 0)],[(0,.box 43 [.ro t 5 (ps.map eP),.r (.int .i64 root)]),(1,.box 121 [.r (.bool true),.ro true 1 (p.keys.map DV),.ro true 1 (p.kids.map eI),.ro true 1 (p.high.map AC),.r (.int .i64 p.next)]),(2,.lst 75 2 (((p.keys.zip p.kids).take j).map Cf))],3⟩) (fun j=>j≤p.keys.length) (fun j=>p.keys.length - j) 0 ?_ ?_ ?_
  ·exact aU _
  ·(exact iK hE [0,1,2])
  intro j hj
  by_cases hlt:j<p.keys.length
  ·have zj:((j:Int)<(p.kids.length:Int))=True:=aK (by omega)
   obtain⟨x,hx⟩: ∃x,p.keys[j]?=some x:=⟨_,aI hlt⟩;obtain⟨y,hy⟩: ∃y,p.kids[j]?=some y:=⟨_,aI (by omega)⟩;have bc:=DE E.G true x (o4 x (aB hx));have hz:(p.keys.zip p.kids)[j]?=some (x,y):=List.getElem?_zip_eq_some.2 ⟨hx,hy⟩
   have htk:(p.keys.zip p.kids).take (j+1)=(p.keys.zip p.kids).take j++[(x,y)]:=by rw[aV,hz];rfl
   have hlj:((p.keys.zip p.kids).take j).length=j:=by rw[aS,fS];omega
   (repeat' (first |refine A0 ?_ |refine A4 ?_ |refine A3 ?_ |((first |refine rR (fun K kp hK hkp=>?_) |refine rD (id:=7) mixed 14 [0,1,2,3,4,5,7,8,9,10,11,6,12,13] (fun K kp hK hkp=>?_) |refine cD bc ?_);simp -implicitDefEqProofs (disch:=omega) only[go_sem,zj,hx,hy,hlj,DV,eI,Cf];(repeat' (first |(refine hK _ ?_;clear hK hkp kp K) |(with_reducible refine And.intro ?_ ?_) |omega))) |refine A2 rfl ?_));(refine BF (j+1) ?_ ?_;rotate_left;(·(refine AJ hE [0,1,4] rfl ?_ ?_<;>simp[Ai,AY,lk,ren,renL,AA,AU,htk,Cf,cM,dK]<;>(try omega))));omega
  ·obtain rfl:j=p.keys.length:=by omega
   have zj:((p.keys.length:Int)<(p.kids.length:Int))=False:=bH (by omega);have htk:(p.keys.zip p.kids).take p.keys.length=p.keys.zip p.kids:=aN (by rw[fS];omega);rw[htk]
   have hzl:(p.keys.zip p.kids).length=p.keys.length:=by rw[fS];omega
   (repeat' (first |refine A0 ?_ |refine A7 ?_ |((refine rR (fun K kp hK hkp=>?_));simp -implicitDefEqProofs (disch:=omega) only[go_sem,zj];(repeat' (refine hK _ ?_;clear hK hkp kp K))) |refine A1 rfl ?_ |refine A5 ?_));(refine rJ results68 ?_;refine AG (by simp only[A8];simp -implicitDefEqProofs (disch:=omega) only[go_sem,hzl];rfl) ?_;refine(AE hE (by simp) ?_).s;simp[A8,ren,renL,hzl]);exact aN (by simp[hkl])
 |succ d ih=>
  intro i low high hg hi hl G;have hlf:=hg.1;have hks:=hg.2.2.2;have hpx:=Lr hi;have hok:=hp _ _ hpx
  have hkd: ∀(j kid:Nat),(AF ps i)[j]?=some kid->(pg ps i).kids[j]?=some (kid:Int):=fun j kid h=>by
   rw[AF,if_neg (by simp[hlf]),List.getElem?_map,aF] at h;obtain⟨y,hy,rfl⟩:=h;have h0:=(hok.kd j (aA.1 hy).1).1;rw[aH,hy] at h0;have h0:0≤y:=h0;rw[hy];congr 1;omega
  have hkn:(AF ps i).length=(pg ps i).kids.length:=by rw[AF,if_neg (by simp[hlf]),List.length_map]
  have hL:Cj ps (d+1) [i]=Cj ps d (AF ps i):=EX _ _ _;have hK: ∀kid,kid ∈ AF ps i->kid<ps.length:=fun kid h=>hin i kid h
  have hF:BG ps (d+1) i=(Cj ps d (AF ps i)).flatMap (DD ps):=by rw[BG,hL]
  rw[hF];rw[hL] at hl;generalize pg ps i=p at hpx hok hkd hkn hlf hks;generalize AF ps i=ks at *;have hki:=hok.ki hlf;have h4:=hok.nk
  have hcl: ∀j,((Cj ps d (ks.take j)).flatMap (DD ps)).length≤16000:=fun j=>by
   have h1:=Ej hp (Cj ps d (ks.take j))
   have h2:(Cj ps d (ks.take j)).length≤(Cj ps d ks).length:=by
    conv=>rhs;rw[<-fH j ks,CC,List.length_append]
    omega
   omega
  refine cJ func68 fun E hG hE=>?_;subst hG;simp only[AX];(repeat' (first |refine A0 ?_ |refine A4 ?_ |((refine rR (fun K kp hK hkp=>?_));simp -implicitDefEqProofs (disch:=omega) only[go_sem,hpx,eP,hlf];(repeat' (refine hK _ ?_;clear hK hkp kp K)))));(refine AWP.emb (BY 6 75 2 ?_) ?_;(·rfl);dsimp only);refine AB (fun j:Nat=>⟨[(7,.r (.int .i64 j)),(6,.s 2 0 ((Cj ps d (ks.take j)).flatMap (DD ps)).length),(5,.p 1 0 0),(2,.p 0 0 0)],[(0,.box 43 [.ro t 5 (ps.map eP),.r (.int .i64 root)]),(1,.box 121 [.r (.bool false),.ro true 1 (p.keys.map DV),.ro true 1 (p.kids.map eI),.ro true 1 (p.high.map AC),.r (.int .i64 p.next)]),(2,.lst 75 2 (((Cj ps d (ks.take j)).flatMap (DD ps)).map Cf))],3⟩) (fun j=>j≤ks.length) (fun j=>ks.length - j) 0 ?_ ?_ ?_
  ·exact aU _
  ·have hl0:Cj ps d []=[]:=EY ps d
   (refine AJ hE [0,1,2] rfl ?_ ?_<;>simp[Ai,AY,lk,ren,renL,AA,AU,hl0]<;>(try omega))
  intro j hj
  by_cases hlt:j<ks.length
  ·have zj:((j:Int)<(p.kids.length:Int))=True:=aK (by omega)
   obtain⟨kid,hkj⟩: ∃kid,ks[j]?=some kid:=⟨_,aI hlt⟩;have hy:=hkd j kid hkj
   have hlk:(Cj ps d [kid]).length≤4000:=by
    have:=congrArg List.length (Nm (ps:=ps) d hkj);simp only[List.length_append] at this;omega
   have rc:=ih kid _ _ (hks j kid hkj) (hK kid (aB hkj)) hlk E.G
   have htk:(Cj ps d (ks.take (j+1))).flatMap (DD ps)=(Cj ps d (ks.take j)).flatMap (DD ps)++BG ps d kid:=by rw[aV,hkj,BG,<-cX,<-CC];rfl
   have hc1:=hcl j;have hc2:=hcl (j+1);rw[htk,List.length_append] at hc2;generalize (Cj ps d (ks.take j)).flatMap (DD ps)=cur at *;generalize BG ps d kid=add at *;(repeat' (first |refine A0 ?_ |refine A4 ?_ |refine A3 ?_ |((first |refine rR (fun K kp hK hkp=>?_) |refine rD (id:=8) mixed 8 [0,1,2,3,4,5,6,7] (fun K kp hK hkp=>?_) |refine cD rc ?_);simp -implicitDefEqProofs (disch:=omega) only[go_sem,zj,hy,eI,Cf];(repeat' (first |(refine hK _ ?_;clear hK hkp kp K) |(with_reducible refine And.intro ?_ ?_) |omega))) |refine A2 rfl ?_ |refine A1 rfl ?_));(refine BF (j+1) ?_ ?_;rotate_left;(·(refine AJ hE [0,1,3] rfl ?_ ?_<;>simp[Ai,AY,lk,ren,renL,AA,AU,htk,Cf,cM,dK]<;>(try omega))));omega
  ·obtain rfl:j=ks.length:=by omega
   have zj:((ks.length:Int)<(p.kids.length:Int))=False:=bH (by omega);have hcj:=hcl ks.length;rw[bZ] at hcj ⊢;(repeat' (first |refine A0 ?_ |refine A7 ?_ |((refine rR (fun K kp hK hkp=>?_));simp -implicitDefEqProofs (disch:=omega) only[go_sem,zj];(repeat' (refine hK _ ?_;clear hK hkp kp K))) |refine A1 rfl ?_ |refine A5 ?_));(refine rJ results68 ?_;refine AG (by simp only[A8];simp -implicitDefEqProofs (disch:=omega) only[go_sem];rfl) ?_;refine(AE hE (by simp) ?_).s;simp[A8,ren,renL])
noncomputable def Kr (ps:List PG)(root:Int)(k:Ky):Int:=if Dj ps root≠0 then Dj ps root else if GB k=true then 0 else 1
theorem Ov (G:GL)(t:Bool)(ps:List PG)(root:Int)(k:Ky)(ho:Dk ps):Con prog G 125 [.agg [.ro true 5 (ps.map eP),.r (.int .i64 root)],.ro t 1 (k.map AC)] [] 0 (Is (.r (.int .i64 (Kr ps root k))) [] 0) No:=by
 have cc:=Dx G ps root (G3 ho);obtain⟨c,hc⟩: ∃c,Dj ps root=c:=⟨_,rfl⟩;rw[Kr];rw[hc] at cc ⊢;refine cJ func125 fun E hG hE=>?_;subst hG;simp only[AX]
 by_cases h0:c=0
 ·subst h0
  cases hk:GB k
  ·have kc:=L9 E.G t k
   rw[hk] at kc;(repeat' (first |refine A0 ?_ |refine A4 ?_ |refine A3 ?_ |refine A7 ?_ |((first |refine sR (fun K kp=>?_) |refine cR cc ?_ |refine cR kc ?_ |refine iG ?_);simp only[go_sem,bY];(repeat' (first |(refine K _ ?_;clear K kp) |(with_reducible refine And.intro ?_ ?_) |omega))) |((first |refine aG (fun h=>?_) (fun h=>?_) |refine aD (fun h=>?_) (fun h=>?_) |refine aX (fun h=>?_) (fun h=>?_))<;>simp only[h]) |refine A2 rfl ?_ |refine A1 rfl ?_ |((refine A6 rfl (fun h=>?_) (fun h=>?_)<;>try simp only[Af] at h)) |refine A5 ?_));(refine rJ results125 ?_;exact eQ hE)
  ·have kc:=L9 E.G t k
   rw[hk] at kc;(repeat' (first |refine A0 ?_ |refine A4 ?_ |refine A3 ?_ |refine A7 ?_ |((first |refine sR (fun K kp=>?_) |refine cR cc ?_ |refine cR kc ?_ |refine iG ?_);simp only[go_sem,bY];(repeat' (first |(refine K _ ?_;clear K kp) |(with_reducible refine And.intro ?_ ?_) |omega))) |((first |refine aG (fun h=>?_) (fun h=>?_) |refine aD (fun h=>?_) (fun h=>?_) |refine aX (fun h=>?_) (fun h=>?_))<;>simp only[h]) |refine A2 rfl ?_ |refine A1 rfl ?_ |((refine A6 rfl (fun h=>?_) (fun h=>?_)<;>try simp only[Af] at h)) |refine A5 ?_));(refine rJ results125 ?_;exact eQ hE)
 ·have z0:(c !=0)=true:=by simp[h0]
  (repeat' (first |refine A0 ?_ |refine A4 ?_ |refine A3 ?_ |refine A7 ?_ |((first |refine sR (fun K kp=>?_) |refine cR cc ?_ |refine iG ?_);simp only[go_sem,z0];(repeat' (first |(refine K _ ?_;clear K kp) |(with_reducible refine And.intro ?_ ?_) |omega))) |((first |refine aG (fun h=>?_) (fun h=>?_) |refine aD (fun h=>?_) (fun h=>?_) |refine aX (fun h=>?_) (fun h=>?_))<;>simp only[h]) |refine A2 rfl ?_ |refine A1 rfl ?_ |((refine A6 rfl (fun h=>?_) (fun h=>?_)<;>try simp only[Af] at h)) |refine A5 ?_));(refine rJ results125 ?_;refine eN hE ?_;simp[A8,ren,renL,h0])
structure Trd (ps:List PG)(r d:Nat):Prop where
 ok:EJ ps
 kin: ∀i x,x ∈ AF ps i->x<ps.length
 good:Dz ps d r [] []
 rl:r<ps.length
 n:ps.length≤4000
 dl:d<ps.length
 tr:TreeOK ps r d
theorem Eo {ps:List PG}{root:Int}(h:ChkOK ps root): ∃r d:Nat,root=r/\Trd ps r d:=by
 obtain⟨d,T⟩:=KB h;refine⟨root.toNat,d,by have:=h.r0;omega,h.pg,J3 h.pg,T.good,by have:=h.r0;have:=h.r1;omega,h.n2,?_,T⟩;have hpm:=L4 ps d root.toNat;have hd:=Im (DH h.pg) d root.toNat [] [] T.good;rw[hpm.length_eq,T.all] at hd;omega
theorem Sn (ps:List PG): ∀(d:Nat)(l:List Nat),(Cj ps d l).length≤(IT ps d l).length
 |0,l=>Nat.le_refl _
 |d+1,l=>by
  have:=Sn ps d (l.flatMap (AF ps));rw[Cj,IT,List.length_append];omega
theorem Trd.many {ps:List PG}{r d:Nat}(h:Trd ps r d):(Cj ps d [r]).length≤4000:=by
 have:=Sn ps d [r];have:=h.tr.all;have:=h.n;omega
theorem Trd.leaf {ps:List PG}{r d:Nat}(h:Trd ps r d)(k:Ky):C8 ps k d r<ps.length:=by
 obtain⟨_,_,_,b4⟩:=HU h.ok k d r [] [] h.good (.inl rfl) d _ (Ji ps k d r)
 rcases b4 with e |⟨y,hy⟩
 ·rw[e];exact h.rl
 ·exact h.kin y _ hy
theorem E5 (G:GL)(t:Bool){ps:List PG}{r d:Nat}(h:Trd ps r d)(ho:Dk ps):Con prog G 35 [.agg [.ro t 5 (ps.map eP),.r (.int .i64 r)]] [] 0 (Is (.ro true 2 ((BG ps d r).map Cf)) [] 0) No:=by
 have ec:=QP t ps r h.ok ho h.kin h.n d r [] [] h.good h.rl h.many G;refine cJ func35 fun E hG hE=>?_;subst hG;simp only[AX];(repeat' (first |refine A0 ?_ |refine A4 ?_ |refine A3 ?_ |refine A7 ?_ |((first |refine sR (fun K kp=>?_) |refine cR ec ?_ |refine iG ?_);simp only[go_sem];(repeat' (first |(refine K _ ?_;clear K kp) |(with_reducible refine And.intro ?_ ?_) |omega))) |((first |refine aG (fun h=>?_) (fun h=>?_) |refine aD (fun h=>?_) (fun h=>?_) |refine aX (fun h=>?_) (fun h=>?_))<;>simp only[h]) |refine A2 rfl ?_ |refine A1 rfl ?_ |((refine A6 rfl (fun h=>?_) (fun h=>?_)<;>try simp only[Af] at h)) |refine A5 ?_));(refine rJ results35 ?_;exact eQ hE)
noncomputable def W0 (ps:List PG)(root:Int)(k:Ky)(R:Int×Int):AV:= .tup [.r (.int .i64 (if Kr ps root k≠0 then 0 else R.1)),.r (.int .i64 (if Kr ps root k≠0 then Kr ps root k else R.2))]
theorem Xw {ps:List PG}{root:Int}{k:Ky}(h:Kr ps root k=0):ChkOK ps root:=by
 rw[Kr] at h
 by_cases hc:ChkOK ps root
 ·exact hc
 ·rw[IS hc] at h;simp at h
theorem UP (G:GL)(t:Bool)(ps:List PG)(root:Int)(k:Ky)(ho:Dk ps)(R:Int×Int)(hR:Kr ps root k=0-> ∀r d:Nat,root=r->Trd ps r d->R=O1 (pg ps (C8 ps k d r)) k):
  Con prog G 74 [.agg [.ro true 5 (ps.map eP),.r (.int .i64 root)],.ro t 1 (k.map AC)] [] 0 (Is (W0 ps root k R) [] 0) No:=by
 have cc:=Ov G t ps root k ho;rw[W0]
 by_cases h0:Kr ps root k=0
 ·obtain⟨r,d,rfl,h⟩:=Eo (Xw h0)
  have hR:=hR h0 r d rfl h;rw[h0] at cc ⊢;have fc:=Jt G true t ps r d k h.ok h.kin h.good h.rl h.n h.dl;have hl:=h.leaf k;have hpx:=Lr hl;have hok:=h.ok _ _ hpx;obtain⟨A,B,e,hA,hB,lo,hi,hgl,_⟩:=G9 h.ok k d r [] [] h.good (.inl rfl);have hlf:=hgl.1;clear hA hB hgl e;generalize C8 ps k d r=x at *;generalize pg ps x=p at *;have hkl:=hok.kl hlf;have hpk:=Gk p k;refine cJ func74 fun E hG hE=>?_;subst hG;simp only[AX];rw[O1] at hR
  by_cases ht:p.keys[Ah p k]?=some k
  ·rw[G1,aE ht] at fc
   rw[if_pos ht] at hR;have hlt:=(aA.1 ht).1;obtain⟨y,hy⟩: ∃y,p.kids[Ah p k]?=some y:=⟨_,aI (by omega)⟩
   have hyD:p.kids.getD (Ah p k) 0=y:=by rw[aH,hy];rfl
   rw[hyD] at hR;subst hR;(repeat' (first |refine A0 ?_ |refine A4 ?_ |refine A3 ?_ |refine A7 ?_ |((first |refine sR (fun K kp=>?_) |refine cR cc ?_ |refine cR fc ?_ |refine iG ?_);simp only[go_sem,bY,hpx,hy,eP,eI];(repeat' (first |(refine K _ ?_;clear K kp) |(with_reducible refine And.intro ?_ ?_) |omega))) |((first |refine aG (fun h=>?_) (fun h=>?_) |refine aD (fun h=>?_) (fun h=>?_) |refine aX (fun h=>?_) (fun h=>?_))<;>simp only[h]) |refine A2 rfl ?_ |refine A1 rfl ?_ |((refine A6 rfl (fun h=>?_) (fun h=>?_)<;>try simp only[Af] at h)) |refine A5 ?_));(refine rJ results74 ?_;exact eQ hE)
  ·rw[G1,aC ht] at fc
   rw[if_neg ht] at hR;subst hR;(repeat' (first |refine A0 ?_ |refine A4 ?_ |refine A3 ?_ |refine A7 ?_ |((first |refine sR (fun K kp=>?_) |refine cR cc ?_ |refine cR fc ?_ |refine iG ?_);simp only[go_sem,bY,hpx,eP,eI];(repeat' (first |(refine K _ ?_;clear K kp) |(with_reducible refine And.intro ?_ ?_) |omega))) |((first |refine aG (fun h=>?_) (fun h=>?_) |refine aD (fun h=>?_) (fun h=>?_) |refine aX (fun h=>?_) (fun h=>?_))<;>simp only[h]) |refine A2 rfl ?_ |refine A1 rfl ?_ |((refine A6 rfl (fun h=>?_) (fun h=>?_)<;>try simp only[Af] at h)) |refine A5 ?_));(refine rJ results74 ?_;exact eQ hE)
 ·have z0:(Kr ps root k !=0)=true:=by simp[h0]
  refine cJ func74 fun E hG hE=>?_;subst hG;simp only[AX];(repeat' (first |refine A0 ?_ |refine A4 ?_ |refine A3 ?_ |refine A7 ?_ |((first |refine sR (fun K kp=>?_) |refine cR cc ?_ |refine iG ?_);simp only[go_sem,z0];(repeat' (first |(refine K _ ?_;clear K kp) |(with_reducible refine And.intro ?_ ?_) |omega))) |((first |refine aG (fun h=>?_) (fun h=>?_) |refine aD (fun h=>?_) (fun h=>?_) |refine aX (fun h=>?_) (fun h=>?_))<;>simp only[h]) |refine A2 rfl ?_ |refine A1 rfl ?_ |((refine A6 rfl (fun h=>?_) (fun h=>?_)<;>try simp only[Af] at h)) |refine A5 ?_));(refine rJ results74 ?_;refine eN hE ?_;simp[A8,ren,renL,h0])
theorem Rs (ps:List PG)(root:Int)(k:Ky): ∃R:Int×Int,∀r d:Nat,root=r->Trd ps r d->R=O1 (pg ps (C8 ps k d r)) k/\R=H1 (BG ps d r) k:=by
 by_cases h: ∃r d:Nat,root=r/\Trd ps r d
 ·obtain⟨r,d,rfl,h⟩:=h
  refine⟨O1 (pg ps (C8 ps k d r)) k,fun r' d' e h'=>?_⟩
  obtain rfl:r=r':=by omega
  obtain rfl:=Fp (DH h.ok) d r _ _ _ _ d' h.good h'.good;exact⟨rfl,(Rp h.ok h.good k (h.leaf k)).symm⟩
 ·exact⟨(0,0),fun r d e h'=>absurd ⟨r,d,e,h'⟩ h⟩
def I5 (t u:Bool)(ps:List PG)(root:Int)(k:Ky):AV:= .fn 146 [.re true [.ro t 5 (ps.map eP),.r (.int .i64 root)] 0,.re true [.ro u 1 (k.map AC)] 0]
theorem QU (G:GL)(t u:Bool)(ps:List PG)(root:Int)(k:Ky):Con prog G 100 [.agg [.ro t 5 (ps.map eP),.r (.int .i64 root)],.ro u 1 (k.map AC)] [] 0 (Is (I5 t u ps root k) [] 0) No:=by
 refine cJ func100 fun E hG hE=>?_;subst hG;simp only[AX];refine A0 ?_;(refine sR (fun K kp=>?_);simp -implicitDefEqProofs (disch:=omega) only[go_sem];(repeat' (refine K _ ?_;clear K kp)));refine AWP.emb (Rx 2 0 rfl rfl rfl) ?_;refine AWP.emb (Rx 3 1 rfl rfl rfl) ?_;simp only[rm,↓reduceIte,Nat.reduceEqDiff];(repeat' (first |refine A0 ?_ |((refine sR (fun K kp=>?_));simp -implicitDefEqProofs (disch:=omega) only[go_sem];(repeat' (refine K _ ?_;clear K kp))) |refine A5 ?_));simp only[AS.put];(refine rJ results100 ?_;refine eN hE ?_;simp[A8,ren,renL,I5])
def EU (ps:List PG)(LV:List Nat)(q at_:Nat):List Et:=match LV.drop q with
 | []=>[]
 |x::r=>(DD ps x).drop at_++r.flatMap (DD ps)
def Ds (LV:List Nat)(q:Nat):Int:=match LV[q]? with
 |some x=>(x:Int)
 |none=> -1
theorem VM {ps:List PG}{LV:List Nat}{q at_:Nat}(h:LV.length≤q):EU ps LV q at_=[]:=by rw[EU,aR h]
theorem Kz {ps:List PG}{LV:List Nat}{q at_ x:Nat}(h:LV[q]?=some x):EU ps LV q at_=(DD ps x).drop at_++(LV.drop (q+1)).flatMap (DD ps):=by rw[EU,Am h]
theorem Tl {ps:List PG}{LV:List Nat}{q:Nat}:EU ps LV q 0=(LV.drop q).flatMap (DD ps):=by
 rw[EU];cases LV.drop q<;>simp
theorem Tn {ps:List PG}{LV:List Nat}{q at_ x:Nat}(h:LV[q]?=some x)(hl:(DD ps x).length≤at_):EU ps LV q at_=EU ps LV (q+1) 0:=by
 rw[Kz h,Tl,aR hl];rfl
theorem Tm {ps:List PG}{LV:List Nat}{q at_ x:Nat}{e:Et}(h:LV[q]?=some x)(he:(DD ps x)[at_]?=some e):EU ps LV q at_=e::EU ps LV q (at_+1):=by
 rw[Kz h,Kz h,Am he];rfl
section
variable {t u:Bool} {ps:List PG} {r d:Nat} {k:Ky}
structure LVok (ps:List PG)(LV:List Nat):Prop where
 lt: ∀x ∈ LV,x<ps.length
 lf: ∀x ∈ LV,(pg ps x).leaf=true
 nx:JN ps LV
theorem YC (h:Trd ps r d):LVok ps (Cj ps d [r]):=by
 refine⟨Rb h.kin d [r] (by simp[h.rl]),fun x hx=>?_,h.tr.chains d (Nat.le_refl _)⟩
 have: ∀(d i:Nat)(low high:Ky),Dz ps d i low high-> ∀x ∈ Cj ps d [i],(pg ps x).leaf=true:=by
  intro d
  induction d with
  |zero=>intro i low high hg x hx;simp only[Cj,aW] at hx;subst hx;exact hg.1
  |succ d ih=>
   intro i low high hg x hx;rw[EX] at hx;obtain⟨m,kid,hm,hx⟩:=OZ d hx;exact ih kid _ _ (hg.2.2.2 m kid hm) x hx
 exact this d r [] [] h.good x hx
end
def mO (t u:Bool)(ps:List PG)(root:Int)(k:Ky)(l:Nat)(leaf:Int)(at_:Nat):List (Nat×AV):=[(5,.r (.int .i64 at_)),(4,.r (.int .i64 leaf)),(2,.re true [.ro u 1 (k.map AC)] 0),(1,.re true [.ro t 5 (ps.map eP),.r (.int .i64 root)] 0),(0,.r (.func (.yield l) #[] #[]))]
def mI (t u:Bool)(ps:List PG)(root:Int)(k:Ky)(l:Nat)(p:PG)(leaf:Int)(at_:Nat):List (Nat×AV):=(7,.re true [.r (.bool p.leaf),.ro true 1 (p.keys.map DV),.ro true 1 (p.kids.map eI),.ro true 1 (p.high.map AC),.r (.int .i64 p.next)] 0)::mO t u ps root k l leaf at_
theorem O8 (G:GL){t u th:Bool}{ps:List PG}{root:Int}{k:Ky}{LV:List Nat}(hL:LVok ps LV)(ho:Dk ps)(hp:EJ ps){q0 at0:Nat}
  (fc: ∀G,Con prog G 126 [.agg [.ro t 5 (ps.map eP),.r (.int .i64 root)],.ro u 1 (k.map AC)] [] 0 (Is (.tup [.r (.int .i64 (Ds LV q0)),.r (.int .i64 at0),.r (.bool th)]) [] 0) No)
  {l kk:Nat} {J Jx:List Et->World->AO->Prop} (Y:Yld (fun x:Et=> .agg (Cf x)) (EU ps LV q0 at0) prog kk l J Jx) (W:World) (z:AO) (hz: ∀t b,z t b->b<W.heap.size) (hG: ∀g cs,(g,cs) ∈ G->z true g/\ ∀(j:Nat) v,cs[j]?=some v->W.cell? ⟨g,j,none⟩=some v)
  (pT pK:Value) (hr:Reps W z [] [.re true [.ro t 5 (ps.map eP),.r (.int .i64 root)] 0,.re true [.ro u 1 (k.map AC)] 0] [pT,pK]) (h0:J [] W z):
  CallsIn Fence.wide (kk+1) prog 146 #[.func (.yield l) #[] #[],pT,pK] W fun e W'=>(∃v,e= .returned v)/\ ∃z',(∀t b,z t b->z' t b)/\(J (EU ps LV q0 at0) W' z'\/ ∃pre,pre <+: EU ps LV q0 at0/\Jx pre W' z'):=by
 refine(callsIn_wide (n:=kk+1)).2 ?_;have hA0:=My (G:=G) (N:=(f146).ntmps) (xs:=[.r (.func (.yield l) #[] #[]),.re true [.ro t 5 (ps.map eP),.r (.int .i64 root)] 0,.re true [.ro u 1 (k.map AC)] 0]) (vs:=[.func (.yield l) #[] #[],pT,pK]) hz hG (.cons (.r _ _) hr) (aZ (by kernel_rfl));refine calls_of_wp func146 rfl ?_
 obtain⟨R,hR⟩: ∃R:Ending->World->Prop,R=fun e W'=>(∃v,e= .returned v)/\ ∃z',(∀t b,z t b->z' t b)/\(J (EU ps LV q0 at0) W' z'\/ ∃pre,pre <+: EU ps LV q0 at0/\Jx pre W' z'):=⟨_,rfl⟩
 rw[<-hR];generalize ({tmps:=_,defers:=[]}:Act)=a0 at hA0 ⊢;refine wp_seq ?_;refine Y8 (AQ:=fun e m1=>e= .normal/\m1=mO t u ps root k l (Ds LV q0) at0) ?_ hA0 ?_
 ·intro E hG hE;subst hG
  simp only[AX];have fc':=fc E.G;(repeat' ((first |refine rR (fun K kp hK hkp=>?_) |refine cR fc' ?_);simp -implicitDefEqProofs (disch:=omega) only[go_sem];(repeat' (refine hK _ ?_;clear hK hkp kp K))));refine⟨_,⟨rfl,rfl⟩,?_⟩;(refine AJ hE [] rfl ?_ ?_<;>simp[Ai,AY,lk,ren,renL,AA,AU,mO]<;>(try omega))
 rintro e m1 a1 w1 z1 ⟨rfl,rfl⟩ hA1 s1;dsimp only[Wd,Exit.then]
 have hO: ¬LetsOut (bodyPost prog f146 R):=by
  rintro⟨a,w,h⟩;have h:R .outgrown w:=h;rw[hR] at h;obtain⟨⟨v,hv⟩,_⟩:=h;cases hv
 have hP: ∀c a w,¬bodyPost prog f146 R (.panic c) a w:=by
  rintro c a w ⟨_,h⟩;rw[hR] at h;obtain⟨⟨v,hv⟩,_⟩:=h;cases hv
 refine wp_block ?_;refine PD (fun(i:Nat×Nat) a w=> ∃pre z',(∀t b,z t b->z' t b)/\At G (f146).ntmps (mO t u ps root k l (Ds LV i.1) i.2) z' a w/\J pre w z'/\pre++EU ps LV i.1 i.2=EU ps LV q0 at0) (fun i=>LV.length - i.1) (q0,at0)
  ⟨[],z1,s1.sub,hA1,Y.grow _ _ _ _ _ h0 s1,rfl⟩ ?_
 rintro⟨q,at_⟩ a w ⟨pre,z',hzs,hA,hJ,hrem⟩;dsimp only at hA hrem ⊢
 by_cases hlt:q<LV.length
 ·obtain⟨x,hx⟩: ∃x,LV[q]?=some x:=⟨_,aI hlt⟩
  have hxl:=hL.lt x (aB hx);have hlf:=hL.lf x (aB hx);have hnx:=hL.nx q x hx
  have hle:Ds LV q=(x:Int):=by rw[Ds,hx]
  have hle2:(pg ps x).next=Ds LV (q+1):=by rw[hnx];rfl
  have hpx:=Lr hxl;have hok:=hp _ _ hpx;obtain⟨o1,o2,o3,o4⟩:=ho.2 _ (aB hpx);have hent:DD ps x=(pg ps x).keys.zip (pg ps x).kids:=rfl;rw[hle] at hA;generalize hp':pg ps x=p at *;have hkl:=hok.kl hlf;have h4:=hok.nk;refine wp_seq ?_;refine Y8 (AQ:=fun e m1=>e= .normal/\m1=mO t u ps root k l x at_) ?_ hA ?_
  ·intro E hG hE;subst hG
   have zx:((x:Int)≥0)=True:=aK (by omega);simp only[mO];(repeat' (first |refine A0 ?_ |refine A3 ?_ |((refine rR (fun K kp hK hkp=>?_));simp -implicitDefEqProofs (disch:=omega) only[go_sem,zx];(repeat' (refine hK _ ?_;clear hK hkp kp K))) |refine A2 rfl ?_));refine⟨_,⟨rfl,rfl⟩,?_⟩;(refine AJ hE [] rfl ?_ ?_<;>simp[Ai,AY,lk,ren,renL,AA,AU,mO]<;>(try omega))
  rintro e m1 a2 w2 z2 ⟨rfl,rfl⟩ hA2 s2;dsimp only[Wd,Exit.then];refine wp_block ?_;refine wp_seq ?_;refine Y8 (AQ:=fun e m1=>e= .normal/\m1=mI t u ps root k l p x at_) ?_ hA2 ?_
  ·intro E hG hE;subst hG
   simp only[mO];(repeat' ((refine rR (fun K kp hK hkp=>?_));simp -implicitDefEqProofs (disch:=omega) only[go_sem,hpx,eP];(repeat' (refine hK _ ?_;clear hK hkp kp K))));refine⟨_,⟨rfl,rfl⟩,?_⟩;refine Emb.trans (Rx 7 0 rfl rfl rfl) ?_;simp only[rm,↓reduceIte];(refine AJ hE [] rfl ?_ ?_<;>simp[Ai,AY,lk,ren,renL,AA,AU,mI,mO]<;>(try omega))
  rintro e m1 a3 w3 z3 ⟨rfl,rfl⟩ hA3 s3;dsimp only[Wd,Exit.then];refine wp_seq ?_;refine wp_block ?_;refine PD (fun(j:Nat) a w=> ∃pre z',(∀t b,z t b->z' t b)/\At G (f146).ntmps (mI t u ps root k l p x j) z' a w/\J pre w z'/\pre++EU ps LV q j=EU ps LV q0 at0) (fun j=>p.keys.length - j) at_
   ⟨pre,z3,fun t b hb=>s3.sub t b (s2.sub t b (hzs t b hb)),hA3,Y.grow _ _ _ _ _ (Y.grow _ _ _ _ _ hJ s2) s3,hrem⟩ ?_
  clear hA hA2 hA3 hJ hrem hzs s1 s2 s3 hA1;rintro j a w ⟨pre,z',hzs,hA,hJ,hrem⟩
  by_cases hj:j<p.keys.length
  ·obtain⟨key,hkey⟩: ∃key,p.keys[j]?=some key:=⟨_,aI hj⟩
   obtain⟨row,hrow⟩: ∃row,p.kids[j]?=some row:=⟨_,aI (by omega)⟩
   have hee:(DD ps x)[j]?=some (key,row):=by rw[hent];exact List.getElem?_zip_eq_some.2 ⟨hkey,hrow⟩
   have hst:=Tm hx hee;refine wp_seq ?_;refine Y8 (AQ:=fun e m1=>e= .normal/\m1=mI t u ps root k l p x j) ?_ hA ?_
   ·intro E hG hE;subst hG
    have zj:((j:Int)<(p.keys.length:Int))=True:=aK (by omega);simp only[mI,mO];(repeat' (first |refine A0 ?_ |refine A3 ?_ |((refine rR (fun K kp hK hkp=>?_));simp -implicitDefEqProofs (disch:=omega) only[go_sem,zj];(repeat' (refine hK _ ?_;clear hK hkp kp K))) |refine A2 rfl ?_));refine⟨_,⟨rfl,rfl⟩,?_⟩;(refine AJ hE [] rfl ?_ ?_<;>simp[Ai,AY,lk,ren,renL,AA,AU,mI,mO]<;>(try omega))
   rintro e m1 a2 w2 z2 ⟨rfl,rfl⟩ hA2 s2;dsimp only[Wd,Exit.then];refine wp_seq ?_;refine wp_block ?_;refine wp_seq ?_;refine Us (k:=kk) (KM:=fun m1=>m1=(41,.agg (Cf (key,row)))::(29,.r (.func (.yield l) #[] #[]))::mI t u ps root k l p x j) mixed 13 [0,1,2,3,4,5,7,8,9,10,11,6,12] hA2 ?_ ?_ (by kernel_rfl) (by kernel_rfl) (by kernel_rfl) (by kernel_rfl) (by simp only[go_sem];rfl) (by simp only[go_sem];rfl) (by simp only[go_sem];rfl) ?_ ?_
   ·rintro⟨a,w,h⟩;exact hO ⟨a,w,h⟩
   ·exact fun c a w h=>hP c a w h
   ·intro E hG hE K kp hK hkp;subst hG
    have hne:=J4 hok (aB hkey);have hlk:=o4 key (aB hkey)
    cases key with
    |nil=>exact absurd rfl hne
    |cons b kr=>
    have hc:=Ml E.G true b kr (by simp only[List.length_cons] at hlk;omega);simp only[mI,mO];(simp -implicitDefEqProofs (disch:=omega) only[go_sem,hkey,hrow,DV,eI];(repeat' (omega)));refine cD hc ?_;(simp -implicitDefEqProofs (disch:=omega) only[go_sem,hkey,hrow,DV,eI];(repeat' (refine hK _ ?_;clear hK hkp kp K)));refine⟨_,⟨rfl,rfl⟩,?_⟩;(refine AJ hE [] rfl ?_ ?_<;>simp[Ai,AY,lk,ren,renL,AA,AU,mI,mO,Cf]<;>(try omega))
   rintro m1 a4 w4 z4 rfl hA4 s4;refine⟨l,(hA4.slot (i:=29) rfl).r_inv,?_⟩;have hJ4:=Y.grow _ _ _ _ _ (Y.grow _ _ _ _ _ hJ s2) s4;obtain⟨fn,tmps,assign,body,hy,hRr⟩:=Y.call pre (key,row) _ w4 z4 ⟨EU ps LV q (j+1),by rw[<-hrem,hst];simp⟩ hJ4 hA4.zlt (hA4.slot (i:=41) rfl);refine⟨fn,tmps,assign,body,hy,hRr.mono ?_⟩;clear hy hRr;rintro e w5 ⟨⟨hsz,hsame⟩,(⟨rfl,hJ5⟩ |⟨rfl,hJ5⟩)⟩
   ·refine⟨_,rfl,?_⟩
    have hA5:=(hA4.turn hsz hsame).putb 42 (aZ (by kernel_rfl)) (.bool true);refine Sg (KM:=fun m1=>m1=(43,.r (.bool false))::mI t u ps root k l p x j) hA5 ?_ ?_ (by kernel_rfl) ?_ ?_
    ·rintro⟨a,w,h⟩;exact hO ⟨a,w,h⟩
    ·intro o ho i hi
     simp only[aW] at ho;subst ho;cases hi;exact aZ (by kernel_rfl)
    ·intro E hG hE K kp hK hkp;subst hG
     simp only[mI,mO];(simp -implicitDefEqProofs (disch:=omega) only[go_sem];(repeat' (refine hK _ ?_;clear hK hkp kp K)));refine⟨_,⟨rfl,rfl⟩,?_⟩;(refine AJ hE [] rfl ?_ ?_<;>simp[Ai,AY,lk,ren,renL,AA,AU,mI,mO]<;>(try omega))
    rintro m1 a6 w6 z6 rfl hA6 s6;dsimp only[Exit.then];refine wp_cond_false ((hA6.slot (i:=43) rfl).r_inv) (wp_skip ?_);dsimp only[Exit.inBlock,Exit.then];refine Y8 (AQ:=fun e m1=>e= .normal/\m1=mI t u ps root k l p x (j+1)) ?_ hA6 ?_
    ·intro E hG hE;subst hG
     simp only[mI,mO];(repeat' ((refine rR (fun K kp hK hkp=>?_));simp -implicitDefEqProofs (disch:=omega) only[go_sem];(repeat' (refine hK _ ?_;clear hK hkp kp K))));refine⟨_,⟨rfl,rfl⟩,?_⟩;(refine AJ hE [] rfl ?_ ?_<;>simp[Ai,AY,lk,ren,renL,AA,AU,mI,mO]<;>(try omega))
    rintro e m1 a7 w7 z7 ⟨rfl,rfl⟩ hA7 s7;dsimp only[Wd,Exit.then];refine⟨j+1,by omega,pre++[(key,row)],z7,fun t b hb=>s7.sub t b (s6.sub t b (s4.sub t b (s2.sub t b (hzs t b hb)))),hA7,Y.grow _ _ _ _ _ (Y.grow _ _ _ _ _ hJ5 s6) s7,?_⟩;rw[hst] at hrem;rw[<-hrem];simp
   ·refine⟨_,rfl,?_⟩
    have hA5:=(hA4.turn hsz hsame).putb 42 (aZ (by kernel_rfl)) (.bool false);refine Sg (KM:=fun m1=>m1=(43,.r (.bool true))::mI t u ps root k l p x j) hA5 ?_ ?_ (by kernel_rfl) ?_ ?_
    ·rintro⟨a,w,h⟩;exact hO ⟨a,w,h⟩
    ·intro o ho i hi
     simp only[aW] at ho;subst ho;cases hi;exact aZ (by kernel_rfl)
    ·intro E hG hE K kp hK hkp;subst hG
     simp only[mI,mO];(simp -implicitDefEqProofs (disch:=omega) only[go_sem];(repeat' (refine hK _ ?_;clear hK hkp kp K)));refine⟨_,⟨rfl,rfl⟩,?_⟩;(refine AJ hE [] rfl ?_ ?_<;>simp[Ai,AY,lk,ren,renL,AA,AU,mI,mO]<;>(try omega))
    rintro m1 a6 w6 z6 rfl hA6 s6;dsimp only[Exit.then];refine wp_cond_true ((hA6.slot (i:=43) rfl).r_inv) (wp_ret ?_);dsimp only[Exit.inBlock,Exit.then];refine bodyPost_ret (results_none rfl _ _ _) hA6.dfs ?_;rw[hR];refine⟨⟨_,rfl⟩,z6,fun t b hb=>s6.sub t b (s4.sub t b (s2.sub t b (hzs t b hb))),.inr ⟨pre++[(key,row)],⟨EU ps LV q (j+1),?_⟩,Y.growx _ _ _ _ _ hJ5 s6⟩⟩;rw[hst] at hrem;rw[<-hrem];simp
  ·refine wp_seq ?_
   refine Y8 (AQ:=fun e m1=>e= .exit 2/\m1=mI t u ps root k l p x j) ?_ hA ?_
   ·intro E hG hE;subst hG
    have zj:((j:Int)<(p.keys.length:Int))=False:=bH (by omega);simp only[mI,mO];(repeat' (first |refine A0 ?_ |refine A7 ?_ |((refine rR (fun K kp hK hkp=>?_));simp -implicitDefEqProofs (disch:=omega) only[go_sem,zj];(repeat' (refine hK _ ?_;clear hK hkp kp K))) |refine A1 rfl ?_));refine⟨_,⟨rfl,rfl⟩,?_⟩;(refine AJ hE [] rfl ?_ ?_<;>simp[Ai,AY,lk,ren,renL,AA,AU,mI,mO]<;>(try omega))
   rintro e m1 a2 w2 z2 ⟨rfl,rfl⟩ hA2 s2;dsimp only[Wd,Exit.then,Exit.inBlock];simp only[if_true,↓reduceIte];refine Y8 (AQ:=fun e m1=>e= .normal/\m1=mO t u ps root k l (Ds LV (q+1)) 0) ?_ hA2 ?_
   ·intro E hG hE;subst hG
    simp only[mI,mO];(repeat' ((refine rR (fun K kp hK hkp=>?_));simp -implicitDefEqProofs (disch:=omega) only[go_sem];(repeat' (refine hK _ ?_;clear hK hkp kp K))));refine⟨_,⟨rfl,rfl⟩,?_⟩;(refine AJ hE [] rfl ?_ ?_<;>simp[Ai,AY,lk,ren,renL,AA,AU,mI,mO,hle2]<;>(try omega))
   rintro e m1 a3 w3 z3 ⟨rfl,rfl⟩ hA3 s3;dsimp only[Wd,Exit.then,Exit.inBlock];refine⟨(q+1,0),by dsimp only;omega,pre,z3,fun t b hb=>s3.sub t b (s2.sub t b (hzs t b hb)),hA3,Y.grow _ _ _ _ _ (Y.grow _ _ _ _ _ hJ s2) s3,?_⟩;rw[<-Tn (at_:=j) hx (by rw[hent,fS];omega)];exact hrem
 ·have hle:Ds LV q= -1:=by rw[Ds,bO (by omega)]
  rw[hle] at hA;rw[VM (by omega),List.append_nil] at hrem;refine wp_seq ?_;refine Y8 (AQ:=fun e m1=>e= .exit 0/\m1=mO t u ps root k l (-1) at_) ?_ hA ?_
  ·intro E hG hE;subst hG
   simp only[mO];(repeat' (first |refine A0 ?_ |refine A7 ?_ |((refine rR (fun K kp hK hkp=>?_));simp -implicitDefEqProofs (disch:=omega) only[go_sem];(repeat' (refine hK _ ?_;clear hK hkp kp K))) |refine A1 rfl ?_));refine⟨_,⟨rfl,rfl⟩,?_⟩;(refine AJ hE [] rfl ?_ ?_<;>simp[Ai,AY,lk,ren,renL,AA,AU,mO]<;>(try omega))
  rintro e m1 a2 w2 z2 ⟨rfl,rfl⟩ hA2 s2;dsimp only[Wd,Exit.then,Exit.inBlock];simp only[if_true,↓reduceIte];refine bodyPost_end (results_none rfl _ _ _) hA2.dfs ?_;rw[hR];exact⟨⟨_,rfl⟩,z2,fun t b hb=>s2.sub t b (hzs t b hb),.inl (by rw[<-hrem];exact Y.grow _ _ _ _ _ hJ s2)⟩
def FK (m:Ky)(e:Et):Bool:=decide (0<m.length)&&BI m e.1
def Yv (m:Ky)(l:List Et):Prop:= ∀e ∈ l,FK m e=false
def A1R (m:Ky)(l:List Et):Prop:= ∃l' e,l=l'++[e]/\Yv m l'/\FK m e=true
theorem Wq {m:Ky}{l:List Et}(h:Yv m l):l.takeWhile (fun e=> !FK m e)=l:=by
 induction l with
 |nil=>rfl
 |cons x r ih=>rw[List.takeWhile_cons,h x (by simp),ih fun e he=>h e (by simp[he])];rfl
theorem V3 {m:Ky}{l all:List Et}(h:A1R m l)(hp:l <+: all):all.takeWhile (fun e=> !FK m e)=l.dropLast:=by
 obtain⟨l',e,rfl,hk,hs⟩:=h;obtain⟨r,rfl⟩:=hp;rw[List.dropLast_concat]
 induction l' with
 |nil=>simp[hs]
 |cons x q ih=>
  have h1:=hk x (by simp);have h2:=ih (fun e he=>hk e (by simp[he]));simp only[List.cons_append,List.takeWhile_cons,h1,Bool.not_false,if_true];rw[h2]
section
variable {ps:List PG} {r d:Nat}
theorem Ss (h:Trd ps r d)(k:Ky): ∃q,q<(Cj ps d [r]).length/\Ds (Cj ps d [r]) q=C8 ps k d r/\EU ps (Cj ps d [r]) q (Ah (pg ps (C8 ps k d r)) k)=(BG ps d r).filter (fun e=> !BI e.1 k):=by
 obtain⟨A,B,e,hA,hB,lo,hi,hgl,_⟩:=G9 h.ok k d r [] [] h.good (.inl rfl)
 have hx:(Cj ps d [r])[A.length]?=some (C8 ps k d r):=by rw[e];simp
 refine⟨A.length,(aA.1 hx).1,by rw[Ds,hx],?_⟩;have hl:=h.leaf k;have hok:=Pp h.ok hl;have hlf:=hgl.1;rw[Kz hx,BG,e];generalize C8 ps k d r=x at *
 have hpl:Ah (pg ps x) k=Ca k (pg ps x).keys:=if_neg fun h=>by rw[hlf] at h;cases h.1
 rw[hpl,cX,cF,List.filter_append,List.filter_append]
 have e1:(A.flatMap (DD ps)).filter (fun e=> !BI e.1 k)=[]:=by
  rw[gF];intro e he;obtain⟨y,hy,he⟩:=dN.1 he;rw[hA y hy e.1 (Hh he)];simp
 have e2:(B.flatMap (DD ps)).filter (fun e=> !BI e.1 k)=B.flatMap (DD ps):=by
  rw[List.filter_eq_self];intro e he;obtain⟨y,hy,he⟩:=dN.1 he;rw[Fi (hB y hy e.1 (Hh he))];rfl
 have e3:(DD ps x).filter (fun e=> !BI e.1 k)=(DD ps x).drop (Ca k (pg ps x).keys):=by
  have hs:=DZ hok;rw[DD];generalize (pg ps x).kids=is;generalize (pg ps x).keys=ks at hs;clear hx e hA hB hpl e1 e2 hlf hgl hok
  induction ks generalizing is with
  |nil=>simp
  |cons y ks ih=>
   have hs':P8 ks:=fun i j a b hij ha hb=>hs (i+1) (j+1) a b (by omega) (by simpa using ha) (by simpa using hb)
   cases is with
   |nil=>simp
   |cons n is=>
    rw[fU,List.filter_cons,Ca]
    by_cases hy:BI y k=true
    ·rw[if_pos hy]
     simp only[hy,Bool.not_true,bU,if_false,List.drop_succ_cons];exact ih is hs'
    ·rw[if_neg hy]
     have hy:BI y k=false:=by simpa using hy
     simp only[hy,Bool.not_false,if_true,List.drop_zero]
     congr 1
     rw[List.filter_eq_self];intro e he;have h1:=(gS he).1;obtain⟨j,hj⟩:=aO.1 h1;have h2:=hs 0 (j+1) y e.1 (by omega) rfl (by simpa using hj);cases h3:BI e.1 k
     ·rfl
     ·rw[C2 h2 h3] at hy;cases hy
 rw[e1,e2,e3,show A++x::B=(A++[x])++B by simp,List.drop_left' (by simp)]
 rfl
end
theorem Tb (G:GL)(v:Bool){ps:List PG}{r d:Nat}(h:Trd ps r d)(ho:Dk ps)(hc:ChkOK ps r)(k m:Ky)(hk:k.length≤100)(hm:m.length≤100):
  Con prog G 54 [.agg [.ro true 5 (ps.map eP),.r (.int .i64 r)],.ro true 1 (k.map AC),.ro v 1 (m.map AC)] [] 0 (Is (.tup [.ro true 2 ((((BG ps d r).filter (fun e=> !BI e.1 k)).takeWhile (fun e=> !FK m e)).map Cf),.r (.int .i64 0)]) [] 0) No:=by
 obtain⟨q0,hq0,hq1,hq2⟩:=Ss h k;have hL:=YC h
 have fc: ∀G,Con prog G 126 [.agg [.ro true 5 (ps.map eP),.r (.int .i64 r)],.ro true 1 (k.map AC)] [] 0 (Is (.tup [.r (.int .i64 (Ds (Cj ps d [r]) q0)),.r (.int .i64 (Ah (pg ps (C8 ps k d r)) k)),.r (.bool (G1 (pg ps (C8 ps k d r)) k))]) [] 0) No:=fun G=>by
  rw[hq1];exact Jt G true true ps r d k h.ok h.kin h.good h.rl h.n h.dl
 have hlen:((BG ps d r).filter (fun e=> !BI e.1 k)).length≤16000:=by
  have h1:=Ej h.ok (Cj ps d [r]);have h2:=h.many;have h3:=gK (fun e:Et=> !BI e.1 k) (BG ps d r);rw[BG] at h3 ⊢;omega
 rw[<-hq2] at hlen ⊢;generalize hall:EU ps (Cj ps d [r]) q0 (Ah (pg ps (C8 ps k d r)) k)=all at *;refine⟨by kernel_rfl,fun w0 th z0 own vs hown hmem hr=>?_⟩;have hth:th=[]:=bV.1 hmem.len;subst hth;have hz0:=hmem.zlt;have hG0:=hmem.globs;have hA0:=My (G:=G) (N:=(f54).ntmps) hz0 hG0 hr (aZ (by kernel_rfl));refine(callsIn_wide (n:=9)).1 (callsIn_of_wp_marks func54 rfl trivial ((wpIn_wide).2 ?_));generalize ({tmps:=_,defers:=[]}:Act)=a0 at hA0 ⊢;obtain⟨E,hEq⟩: ∃E:Env,E=⟨w0,fun _=>False,z0,G,[],[]⟩:=⟨_,rfl⟩
 have hE:E.th0.length=0:=by rw[hEq];rfl
 have hGE:E.G=G:=by rw[hEq]
 unfold At at hA0;rw[<-hEq] at hA0;have cc:=Dx E.G ps r (G3 ho);rw[K1 hc] at cc;have ec:=QU E.G true true ps r k;have g1:((k.length:Int)>100)=False:=bH (by omega);have g2:((m.length:Int)>100)=False:=bH (by omega);refine wp_seq ?_;refine Kh (S1:=⟨[(5,.p 1 0 0),(3,.p 0 0 0),(1,.ro true 1 (k.map AC))],[(0,.box 43 [.ro true 5 (ps.map eP),.r (.int .i64 r)]),(1,.box 58 [.ro v 1 (m.map AC)])],2⟩) ?_ hA0 ?_
 ·simp only[AX]
  (repeat' ((refine sR (fun K kp=>?_));simp only[go_sem];(repeat' (refine K _ ?_;clear K kp))));show Emb E _ _ _;(exact iK hE [0,1])
 intro th1 z1 a1 w1 hs1;refine wp_seq ?_;refine Kh (S1:=⟨[(5,.p 1 0 0),(3,.p 0 0 0),(1,.ro true 1 (k.map AC))],[(0,.box 43 [.ro true 5 (ps.map eP),.r (.int .i64 r)]),(1,.box 58 [.ro v 1 (m.map AC)])],2⟩) ?_ hs1 ?_
 ·(repeat' (first |refine A0 ?_ |refine A3 ?_ |((first |refine sR (fun K kp=>?_) |refine cR cc ?_);simp only[go_sem,bY];(repeat' (refine K _ ?_;clear K kp))) |refine A1 rfl ?_))
  show Emb E _ _ _;(exact iK hE [0,1])
 intro th2 z2 a2 w2 hs2;refine wp_seq ?_;refine Kh (S1:=⟨[(5,.p 1 0 0),(3,.p 0 0 0),(1,.ro true 1 (k.map AC))],[(0,.box 43 [.ro true 5 (ps.map eP),.r (.int .i64 r)]),(1,.box 58 [.ro v 1 (m.map AC)])],2⟩) ?_ hs2 ?_
 ·(repeat' (first |refine A0 ?_ |refine A3 ?_ |((refine sR (fun K kp=>?_));simp only[go_sem,g1,g2];(repeat' (refine K _ ?_;clear K kp))) |refine A1 rfl ?_))
  show Emb E _ _ _;(exact iK hE [0,1])
 intro th3 z3 a3 w3 hs3;refine wp_seq ?_;refine Kh (S1:=⟨[(9,.p 2 0 0),(5,.p 1 0 0),(3,.p 0 0 0),(1,.ro true 1 (k.map AC))],[(0,.box 43 [.ro true 5 (ps.map eP),.r (.int .i64 r)]),(1,.box 58 [.ro v 1 (m.map AC)]),(2,.box 76 [.s 3 0 0]),(3,.lst 75 2 [])],4⟩) ?_ hs3 ?_
 ·(repeat' ((refine sR (fun K kp=>?_));simp only[go_sem];(repeat' (refine K _ ?_;clear K kp))))
  show Emb E _ _ _;refine Emb.trans (EG 2 0 75 2 rfl rfl (by simp)) ?_;simp only[cZ,dA,lk,↓reduceIte,Nat.reduceAdd];(exact iK hE [0,1,2,3])
 intro th4 z4 a4 w4 hs4;refine wp_seq ?_;refine wp_seq ?_;refine Kh (S1:=⟨[(26,I5 true true ps r k),(9,.p 2 0 0),(5,.p 1 0 0),(3,.p 0 0 0),(1,.ro true 1 (k.map AC))],[(0,.box 43 [.ro true 5 (ps.map eP),.r (.int .i64 r)]),(1,.box 58 [.ro v 1 (m.map AC)]),(2,.box 76 [.s 3 0 0]),(3,.lst 75 2 [])],4⟩) ?_ hs4 ?_
 ·simp only[I5] at ec
  (repeat' ((first |refine sR (fun K kp=>?_) |refine cR ec ?_);simp only[go_sem];(repeat' (refine K _ ?_;clear K kp))));show Emb E _ _ _;(refine AJ hE [0,1,2,3] rfl ?_ ?_<;>simp[Ai,AY,lk,ren,renL,AA,AU,I5]<;>(try omega))
 intro th5 z5 a5 w5 hs5;refine wp_block ?_;rw[hEq] at hs5;clear hs1 hs2 hs3 hs4 hA0 cc ec;obtain⟨y,hy,hry⟩:=hs5.slots 26 _ rfl;unfold I5 at hry
 cases hry with
 |fn _ _ _ ys hl hx=>
 have hr2:Reps w5 z5 th5 [.re true [.ro true 5 (ps.map eP),.r (.int .i64 r)] 0,.re true [.ro true 1 (k.map AC)] 0] ys:=⟨hl,hx⟩;obtain⟨pT,qT,rfl,r1,r2⟩:=hr2.head;obtain⟨pK,qK,rfl,r3,r4⟩:=r2.head;obtain rfl:=r4.of_nil;have r1:=Rep.unpure rfl r1;have r3:=Rep.unpure rfl r3;have hlen5:th5.length=4:=hs5.mem.len
 have hl3:(th5.take 3).length=3:=by rw[aS];omega
 have hS05:Since w0 z0 w5 z5:=Ct hs5.mem;refine PC (G:=G) (N:=(f54).ntmps) (kk:=7) (w0:=w0) (z0:=z0) (zc:=z5) (th0:=th5.take 3) (th:=th5) (m:=[(9,.p 2 0 0),(5,.p 1 0 0)]) (eA:=fun x:Et=> .agg (Cf x)) (all:=all) (gf:=146) (lb:= #[pT,pK])
  (fun pre=>[(0,.box 43 [.ro true 5 (ps.map eP),.r (.int .i64 r)]),(1,.box 58 [.ro v 1 (m.map AC)]),(2,.box 76 [.s 3 0 pre.length]),(3,.lst 75 2 (pre.map Cf))]) 4
  (fun pre x=>⟨[(10,.p 4 0 0),(9,.p 2 0 0),(5,.p 1 0 0)],[(0,.box 43 [.ro true 5 (ps.map eP),.r (.int .i64 r)]),(1,.box 58 [.ro v 1 (m.map AC)]),(2,.box 76 [.s 3 0 pre.length]),(3,.lst 75 2 (pre.map Cf)),(4,.box 75 (Cf x))],5⟩)
  (fun _ pre=>[(0,.box 43 [.ro true 5 (ps.map eP),.r (.int .i64 r)]),(1,.box 58 [.ro v 1 (m.map AC)]),(2,.box 76 [.s 3 0 pre.dropLast.length]),(3,.lst 75 2 (pre.dropLast.map Cf))]) 4
  (fun pre=>Yv m pre) (fun e pre=>e= .exit 0/\A1R m pre) (fun _=>rfl) (fun _ _=>rfl) (fun _ _=>rfl) (fun v pre h=>(by cases h.1)) ?hok hs5.mem ?hsl ?hth hs5.size hs5.dfs ?hg (by kernel_rfl) (aZ (by kernel_rfl)) rfl ?hit ?hassign ?hbody ?hdone ?hstop
 case hok=>exact fun e he=>(by cases he)
 case hsl=>
  intro i x hi;simp only[lk] at hi;split at hi
  ·rename_i e;subst e;cases hi
   obtain⟨y,hy,hr⟩:=hs5.slots 9 _ rfl;refine⟨y,hy,?_⟩
   cases hr with
   |p _ _ _ _ L hL=>exact .p _ _ _ _ L (by rw[bM (by omega)];exact hL)
  ·split at hi
   ·rename_i e;subst e;cases hi
    obtain⟨y,hy,hr⟩:=hs5.slots 5 _ rfl;refine⟨y,hy,?_⟩
    cases hr with
    |p _ _ _ _ L hL=>exact .p _ _ _ _ L (by rw[bM (by omega)];exact hL)
   ·cases hi
 case hth=>
  intro i L hi;have h1:=(aA.1 hi).1;rw[bM (by omega)] at hi;exact hi
 case hg=>simp only[Act.eval,dE,hy,dH]
 case hit=>
  intro J Jx W z Y hzlt hS hJ;rw[<-hall] at Y
  have he:=O8 (G:=G) hL ho h.ok fc Y W z hzlt (fun g cs hg=>by
   obtain⟨h1,h2⟩:=hG0 g cs hg;have h3:=hS05.trans hS
   exact⟨h3.sub _ _ h1,fun j v hv=>(BO (h3.ext.same g (hz0 _ _ h1)) j).trans (h2 j v hv)⟩) pT pK
   (.cons (r1.on' ⟨hS.sub,fun t b hb=>hS.ext.same b (hs5.mem.zlt t b hb)⟩) (.cons (r3.on' ⟨hS.sub,fun t b hb=>hS.ext.same b (hs5.mem.zlt t b hb)⟩) .nil)) hJ
  rw[hall] at he;simpa using he
 case hassign=>
  intro E pre x hpx hk hG hE;rw[hl3] at hE;refine DM (fun _ _ K kp=>?_);(simp only[go_sem,Cf];(repeat' (first |(refine K _ ?_;clear K kp) |(with_reducible refine And.intro ?_ ?_))))
  ·rfl
  ·(refine AJ hE [0,1,2,3,4] rfl ?_ ?_<;>simp[Ai,AY,lk,ren,renL,AA,AU,Cf]<;>(try omega))
 case hbody=>
  intro E pre x hpx hk hG hE;rw[hl3] at hE
  have hpl:pre.length+1≤16000:=by
   have:=hpx.length_le;simp only[List.length_append,List.length_cons,List.length_nil] at this;omega
  have hbc:=DF E.G true v x.1 m;refine OC ?_;refine LJ ?_;refine LJ ?_;refine DM (fun _ _ K kp=>?_)
  by_cases hm0:0<m.length
  ·have z0:((m.length:Int)>0)=True:=aK (by omega)
   cases hlt:BI m x.1
   ·have hst:FK m x=false:=by simp[FK,hlt]
    (simp only[go_sem,Cf,z0];(repeat' (omega)));refine cR hbc ?_;(simp only[go_sem,Cf,z0,T5,hlt];(repeat' (refine K _ ?_;clear K kp)));refine IV rfl ?_;refine Mv ?_;refine DM (fun _ _ K kp=>?_);(simp only[go_sem,Cf];(repeat' (first |(refine K _ ?_;clear K kp) |(with_reducible refine And.intro ?_ ?_) |omega)));refine Or.inl ⟨rfl,?_,?_⟩
    ·intro e he
     rcases cK.1 he with he |he
     ·exact hk e he
     ·rw[aW.1 he];exact hst
    ·(refine AJ hE [0,1,2,6] rfl ?_ ?_<;>simp[Ai,AY,lk,ren,renL,AA,AU,Cf]<;>(try omega))
   ·have hst:FK m x=true:=by simp[FK,hlt,hm0]
    (simp only[go_sem,Cf,z0];(repeat' (omega)));refine cR hbc ?_;(simp only[go_sem,Cf,z0,T5,hlt];(repeat' (refine K _ ?_;clear K kp)));refine Mw rfl ?_;refine WT ?_;refine Or.inr ⟨by simp,⟨rfl,pre,x,rfl,hk,hst⟩,?_⟩;(refine AJ hE [0,1,2,3] rfl ?_ ?_<;>simp[Ai,AY,lk,ren,renL,AA,AU,Cf]<;>(try omega))
  ·have z0:((m.length:Int)>0)=False:=bH (by omega)
   have hst:FK m x=false:=by simp[FK,hm0]
   (simp only[go_sem,Cf,z0];(repeat' (refine K _ ?_;clear K kp)));refine IV rfl ?_;refine Mv ?_;refine DM (fun _ _ K kp=>?_);(simp only[go_sem,Cf];(repeat' (first |(refine K _ ?_;clear K kp) |(with_reducible refine And.intro ?_ ?_) |omega)));refine Or.inl ⟨rfl,?_,?_⟩
   ·intro e he
    rcases cK.1 he with he |he
    ·exact hk e he
    ·rw[aW.1 he];exact hst
   ·(refine AJ hE [0,1,2,6] rfl ?_ ?_<;>simp[Ai,AY,lk,ren,renL,AA,AU,Cf]<;>(try omega))
 case hdone=>
  intro W z' hk hJ hd;have hres:=Wq hk;dsimp only[Exit.inBlock,Exit.then];rw[hres];obtain⟨th6,z6,hs6,hb6,hD6⟩:=hJ.sim hs5.size;have hE:(EpM w5.heap.size w0 G (th5.take 3) W z6).th0.length=3:=hl3;refine wp_seq ?_;refine Kh (S1:=⟨[(7,.r (.int .i64 0)),(6,.s 3 0 (all).length)],[(0,.box 43 [.ro true 5 (ps.map eP),.r (.int .i64 r)]),(1,.box 58 [.ro v 1 (m.map AC)]),(2,.box 76 [.s 3 0 (all).length]),(3,.lst 75 2 ((all).map Cf))],4⟩) ?_ hs6 ?_
  ·(repeat' ((refine sR (fun K kp=>?_));simp only[go_sem];(repeat' (refine K _ ?_;clear K kp))))
   show Emb _ _ _ _;(exact iK hE [0,1,2,3])
  intro th7 z7 a7 w7 hs7;refine wp_ret ?_;refine HT hs7 rfl hb6 hS05.ext.size hD6 hd hG0 hz0 ?_;intro E hE;refine⟨_,rfl,?_⟩;refine AG (by simp only[A8];simp only[go_sem];rfl) ?_;refine(AE hE (by simp) ?_).s;simp[A8,ren,renL]
 case hstop=>
  intro e pre W z' hpre hX hJ hd;obtain⟨rfl,hcut⟩:=hX;have hres:=V3 hcut hpre;refine wp_exit ?_;dsimp only[Exit.inBlock,Exit.then];rw[if_pos rfl];rw[hres];obtain⟨th6,z6,hs6,hb6,hD6⟩:=hJ.sim hs5.size;have hE:(EpM w5.heap.size w0 G (th5.take 3) W z6).th0.length=3:=hl3;refine wp_seq ?_;refine Kh (S1:=⟨[(7,.r (.int .i64 0)),(6,.s 3 0 (pre.dropLast).length)],[(0,.box 43 [.ro true 5 (ps.map eP),.r (.int .i64 r)]),(1,.box 58 [.ro v 1 (m.map AC)]),(2,.box 76 [.s 3 0 (pre.dropLast).length]),(3,.lst 75 2 ((pre.dropLast).map Cf))],4⟩) ?_ hs6 ?_
  ·(repeat' ((refine sR (fun K kp=>?_));simp only[go_sem];(repeat' (refine K _ ?_;clear K kp))))
   show Emb _ _ _ _;(exact iK hE [0,1,2,3])
  intro th7 z7 a7 w7 hs7;refine wp_ret ?_;refine HT hs7 rfl hb6 hS05.ext.size hD6 hd hG0 hz0 ?_;intro E hE;refine⟨_,rfl,?_⟩;refine AG (by simp only[A8];simp only[go_sem];rfl) ?_;refine(AE hE (by simp) ?_).s;simp[A8,ren,renL]
end Go.AM
namespace Go.AM
def Qo (l:List Et):Prop:=l.Pairwise fun a b=>BI a.1 b.1=true
theorem SV: ∀(ks:List Ky)(is:List Int),P8 ks->Qo (ks.zip is)
 | [],is,_=>List.Pairwise.nil
 |x::r,[],_=>List.Pairwise.nil
 |x::r,n::s,hs=>by
  have hs':P8 r:=fun i j a b hij ha hb=>hs (i+1) (j+1) a b (by omega) (by simpa using ha) (by simpa using hb);rw[fU];refine List.pairwise_cons.2 ⟨fun e he=>?_,SV r s hs'⟩;obtain⟨j,hj⟩:=aO.1 (gS he).1;exact hs 0 (j+1) x e.1 (by omega) rfl (by simpa using hj)
theorem M_ (ps:List PG)(d:Nat): ∀l:List Nat,(Cj ps d l).flatMap (DD ps)=l.flatMap (BG ps d)
 | []=>by rw[EY];rfl
 |x::r=>by rw[show x::r=[x]++r from rfl,CC,cX,M_ ps d r,cX];simp[BG]
theorem MZ {ps:List PG}{d i:Nat}{e:Et}(h:e ∈ BG ps d i): ∃x,x ∈ Cj ps d [i]/\e.1 ∈ (pg ps x).keys:=by
 obtain⟨x,hx,he⟩:=dN.1 h;exact⟨x,hx,Hh he⟩
theorem H8 {ps:List PG}(hp:EJ ps): ∀(d i:Nat)(low high:Ky),Dz ps d i low high->Qo (BG ps d i)
 |0,i,low,high,h=>by
  rw[BG,show Cj ps 0 [i]=[i] from rfl];simp only[cF,List.flatMap_nil,List.append_nil,DD]
  by_cases hi:i<ps.length
  ·exact SV _ _ (DZ (Pp hp hi))
  ·have:pg ps i=default:=by rw[pg,aH,bO (by omega)];rfl
   rw[this];exact List.Pairwise.nil
 |d+1,i,low,high,h=>by
  obtain⟨h1,h2,h3,h4⟩:=h;have hok:=Ew hp h1;have hs:=DZ hok;have hkl:=MC hp h1;rw[BG,EX,M_];refine List.pairwise_flatMap.2 ⟨fun x hx=>?_,?_⟩
  ·obtain⟨m,hm⟩:=aO.1 hx
   exact H8 hp d x _ _ (h4 m x hm)
  ·rw[List.pairwise_iff_getElem]
   intro a b ha hb hab e he f hf;have ga:=h4 a _ (aI ha);have gb:=h4 b _ (aI hb);obtain⟨x,hx,he⟩:=MZ he;obtain⟨y,hy,hf⟩:=MZ hf;have b1:=(De hp d _ _ _ ga x hx e.1 he).2;have b2:=(De hp d _ _ _ gb y hy f.1 hf).1;unfold Fl at b1;unfold HZ at b2;rw[if_pos (by omega)] at b1;rw[if_neg (by omega)] at b2;obtain⟨p,hp'⟩: ∃p,(pg ps i).keys[a]?=some p:=⟨_,aI (by omega)⟩;obtain⟨q,hq'⟩: ∃q,(pg ps i).keys[b - 1]?=some q:=⟨_,aI (by omega)⟩;rw[aH,hp'] at b1;rw[aH,hq'] at b2
   have b1:BI e.1 p=true:=by
    rcases b1 with b1 |b1
    ·exact absurd b1 (J4 hok (aB hp'))
    ·exact b1
   have b2:BI f.1 q=false:=b2
   have b3:BI e.1 q=true:=by
    by_cases he:a=b - 1
    ·rw[he,hq'] at hp';cases hp';exact b1
    ·exact C2 b1 (hs a (b - 1) p q (by omega) hp' hq')
   exact E_ b3 b2
theorem KD {p:Et->Bool}: ∀ {l:List Et},Qo l->(∀a b:Et,BI a.1 b.1=true->p a=false->p b=false)->l.takeWhile p=l.filter p
 | [],_,_=>rfl
 |x::r,hs,hm=>by
  have hs':=List.pairwise_cons.1 hs;rw[List.takeWhile_cons,List.filter_cons];cases hx:p x
  ·simp only[bU,if_false]
   symm
   rw[gF];intro e he;rw[hm x e (hs'.1 e he) hx];simp
  ·simp only[if_true]
   rw[KD hs'.2 hm]
open Go Go.RowKit
attribute [local irreducible] AWP DU
noncomputable def NK (ps:List PG)(root:Int)(k m:Ky):Int:=if Dj ps root≠0 then Dj ps root else if k.length≤100/\m.length≤100 then 0 else 1
theorem WY {ps:List PG}{root:Int}{k m:Ky}(h:NK ps root k m=0):ChkOK ps root/\k.length≤100/\m.length≤100:=by
 rw[NK] at h
 by_cases hc:ChkOK ps root
 ·rw[K1 hc] at h
  refine⟨hc,?_⟩
  by_cases hl:k.length≤100/\m.length≤100
  ·exact hl
  ·rw[if_neg (by simp),if_neg hl] at h;cases h
 ·rw[IS hc] at h;simp at h
def Sc (a:Int)(R:List Et):AV:= .tup [.ro true 2 ((if a=0 then R else []).map Cf),.r (.int .i64 a)]
def Er (l:List Et)(k m:Ky):List Et:=l.filter fun e=> !BI e.1 k&&(decide (m.length=0)|| !BI m e.1)
theorem Ta {ps:List PG}{r d:Nat}(h:Trd ps r d)(k m:Ky):((BG ps d r).filter (fun e=> !BI e.1 k)).takeWhile (fun e=> !FK m e)=Er (BG ps d r) k m:=by
 rw[KD ((H8 h.ok d r [] [] h.good).filter _)]
 ·rw[List.filter_filter,Er]
  refine List.filter_congr fun e _=>?_;rw[FK,Bool.and_comm]
  congr 1
  by_cases hm:m.length=0
  ·simp[hm]
  ·have h1:decide (0<m.length)=true:=aE (by omega)
   simp[hm,h1]
 ·intro a b hab ha
  simp only[FK,fY,aJ,aP] at ha ⊢;exact⟨ha.1,C2 ha.2 hab⟩
theorem Pf (G:GL)(v:Bool)(ps:List PG)(root:Int)(k m:Ky)(ho:Dk ps)(R:List Et)(hR:NK ps root k m=0-> ∀r d:Nat,root=r->Trd ps r d->R=Er (BG ps d r) k m):
  Con prog G 54 [.agg [.ro true 5 (ps.map eP),.r (.int .i64 root)],.ro true 1 (k.map AC),.ro v 1 (m.map AC)] [] 0 (Is (Sc (NK ps root k m) R) [] 0) No:=by
 rw[Sc]
 by_cases h0:NK ps root k m=0
 ·obtain⟨hc,hk,hm⟩:=WY h0
  obtain⟨r,d,rfl,h⟩:=Eo hc;rw[h0,if_pos rfl,hR h0 r d rfl h,<-Ta h];exact Tb G v h ho hc k m hk hm
 ·have cc:=Dx G ps root (G3 ho)
  rw[if_neg h0];rw[NK] at h0 ⊢;obtain⟨c,hc⟩: ∃c,Dj ps root=c:=⟨_,rfl⟩;rw[hc] at h0 cc ⊢;refine Con.res (y:= .tup [.r (.slice none 0 0),.r (.int .i64 (if c≠0 then c else if k.length≤100/\m.length≤100 then 0 else 1))]) ?_ (fun w z th v hr=>RE hr);refine cJ func54 fun E hG hE=>?_;subst hG;simp only[AX]
  by_cases h1:c=0
  ·subst h1
   rw[if_neg (by simp)] at h0 ⊢;have hl: ¬(k.length≤100/\m.length≤100):=fun hl=>h0 (if_pos hl);rw[if_neg hl]
   by_cases hk:k.length≤100
   ·have g1:((k.length:Int)>100)=False:=bH (by omega)
    have g2:((m.length:Int)>100)=True:=aK (by omega);(repeat' (first |refine A0 ?_ |refine A3 ?_ |((first |refine sR (fun K kp=>?_) |refine cR cc ?_);simp -implicitDefEqProofs (disch:=omega) only[go_sem,bY,g1,g2];(repeat' (refine K _ ?_;clear K kp))) |refine A2 rfl ?_ |refine A1 rfl ?_ |refine A5 ?_));(refine rJ results54 ?_;exact eQ hE)
   ·have g1:((k.length:Int)>100)=True:=aK (by omega)
    (repeat' (first |refine A0 ?_ |refine A3 ?_ |((first |refine sR (fun K kp=>?_) |refine cR cc ?_);simp -implicitDefEqProofs (disch:=omega) only[go_sem,bY,g1];(repeat' (refine K _ ?_;clear K kp))) |refine A2 rfl ?_ |refine A1 rfl ?_ |refine A5 ?_));(refine rJ results54 ?_;exact eQ hE)
  ·have z0:(c !=0)=true:=by simp[h1]
   rw[if_pos h1];(repeat' (first |refine A0 ?_ |((first |refine sR (fun K kp=>?_) |refine cR cc ?_);simp -implicitDefEqProofs (disch:=omega) only[go_sem,z0];(repeat' (refine K _ ?_;clear K kp))) |refine A2 rfl ?_ |refine A5 ?_));(refine rJ results54 ?_;exact eQ hE)
@[simp high] theorem A1c (l:List Et):PT (.ro true 2 (l.map Cf))=True:=aK (.ro _ _ (Da _ _))
end Go.AM
namespace Go.AM
def Oh (n:Int):Prop:= -9223372036854775808≤n/\n≤9223372036854775807
open Go Go.RowKit
def gV (v:V):Prop:=v.s.size≤maxLen/\Oh v.n
open Go.Proofs.YtmohnlbeiaifhaaGreatDoor (AW)
def LH (u:Nat):List UInt8:=[56,48,40,32,24,16,8,0].map fun s=>UInt8.ofNat (u / 2 ^ s % 256)
def DW (n:Int):Nat:=(n+9223372036854775808).toNat
def IG (c:UInt8)(new:List UInt8):List UInt8->List UInt8
 | []=>[]
 |x::r=>if x=c then new++IG c new r else x::IG c new r
def JC (l:List UInt8):List UInt8:=IG 0 [0,255] l
def CL (v:V):List UInt8:=UInt8.ofNat v.k.toNat::(if v.k=1 then [UInt8.ofNat v.n.toNat] else if v.k=2 then LH (DW v.n) else if v.k=3 then JC v.s.data.toList++[0,0] else [])
def CF:List UInt8->List V->Except Int (List UInt8)
 |b,[]=> .ok b
 |b,v::r=>if AW v.k v.n v.s≠0 then .error (AW v.k v.n v.s) else CF (b++CL v) r
def EF (l:List V):Except Int (List UInt8):=if 6<l.length then .error 1 else match CF [] l with
 | .error e=> .error e
 | .ok b=>if 100<b.length then .error 5 else .ok b
theorem DI (u:Nat):(LH u).length=8:=rfl
theorem Si (c:UInt8)(new:List UInt8)(hn:1≤new.length): ∀l:List UInt8,(IG c new l).length≤new.length * l.length
 | []=>by simp[IG]
 |x::r=>by
  have:=Si c new hn r;rw[IG,List.length_cons,Nat.mul_add];split
  ·rw[List.length_append];omega
  ·rw[List.length_cons];omega
theorem Xe (l:List UInt8):(JC l).length≤2 * l.length:=Si 0 [0,255] (by simp) l
theorem Dg {v:V}(h:AW v.k v.n v.s=0):(CL v).length≤43:=by
 unfold AW at h;have hs:=Xe v.s.data.toList;unfold CL;simp only[List.length_cons];split
 ·rw[cC];omega
 split
 ·rw[DI];omega
 split
 ·rename_i h3
  have:v.s.size≤20:=by
   rw[h3,if_neg (by decide),if_neg (by decide),if_neg (by decide),if_pos rfl] at h;split at h
   ·cases h
   split at h
   ·cases h
   ·omega
  have e:v.s.data.toList.length=v.s.size:=by rw[cT];rfl
  simp only[List.length_append,List.length_cons,List.length_nil];omega
 ·simp
theorem YP (n:Nat)(hn:n<18446744073709551616):(BitVec.ofInt 64 (n:Int) ^^^ BitVec.ofInt 64 9223372036854775808).toNat=if n<9223372036854775808 then n+9223372036854775808 else n - 9223372036854775808:=by
 have e:(9223372036854775808:Int)=((9223372036854775808:Nat):Int):=rfl;rw[e,gT,gT,BitVec.toNat_xor,BitVec.toNat_ofNat,BitVec.toNat_ofNat,fI (by omega),fI (by omega)]
 have key: ∀m:Nat,m<9223372036854775808->m ^^^ 9223372036854775808=m+9223372036854775808:=by
  intro m hm;apply Nat.eq_of_testBit_eq;intro i;have e2:(9223372036854775808:Nat)=2 ^ 63:=rfl;rw[Nat.testBit_xor,e2,eS,Nat.testBit_two_pow]
  by_cases hi:i=63
  ·subst hi
   rw[Nat.testBit_two_pow_add_eq,gG (by omega)];rfl
  ·by_cases hi2:i<63
   ·rw[Nat.testBit_two_pow_add_gt (by omega)];have: ¬63=i:=by omega
    simp[this]
   ·have h1:m.testBit i=false:=gG (aY hm (by rw[e2];exact Nat.pow_le_pow_right (by omega) (by omega)))
    have h2:(2 ^ 63+m).testBit i=false:=gG (aY (by omega:2 ^ 63+m<2 ^ 64) (Nat.pow_le_pow_right (by omega) (by omega)))
    have: ¬63=i:=by omega
    rw[h1,h2];simp[this]
 split
 ·rename_i h;exact key n h
 ·rename_i h
  have:=key (n - 9223372036854775808) (by omega);rw[Nat.sub_add_cancel (by omega)] at this;have h2:=congrArg (· ^^^ 9223372036854775808) this;simp only[Nat.xor_assoc,Nat.xor_self,Nat.xor_zero] at h2;exact h2.symm
theorem Wn (n:Int)(h: -9223372036854775808≤n)(h':n<0):IntKind.u64.wrap n=n+18446744073709551616:=by
 have:IntKind.u64.wrap n=n % 18446744073709551616:=rfl;omega
theorem xorU {n:Int}(h:Oh n):ZU .u64 (IntKind.u64.wrap n) 9223372036854775808=((DW n:Nat):Int):=by
 obtain⟨h1,h2⟩:=h
 have e: ∃m:Nat,m<18446744073709551616/\IntKind.u64.wrap n=(m:Int)/\(DW n:Int)=if m<9223372036854775808 then (m:Int)+9223372036854775808 else (m:Int) - 9223372036854775808:=by
  by_cases hn:n<0
  ·rw[Wn n h1 hn]
   refine⟨(n+18446744073709551616).toNat,by omega,by omega,?_⟩;unfold DW;rw[if_neg (by omega)];omega
  ·rw[Go.IntWalk.u64_in n (by omega)]
   refine⟨n.toNat,by omega,by omega,?_⟩;unfold DW;rw[if_pos (by omega)];omega
 obtain⟨m,hm,e1,e2⟩:=e;rw[e1];show IntKind.u64.wrap (((BitVec.ofInt 64 (m:Int) ^^^ BitVec.ofInt 64 9223372036854775808).toNat:Nat):Int)=_;rw[YP m hm,e2];split
 ·rw[Go.IntWalk.u64_in _ (by omega)];omega
 ·rw[Go.IntWalk.u64_in _ (by omega)];omega
theorem P4 (u:Nat)(j:Nat)(hj:j<8):(LH u)[j]?=some (UInt8.ofNat (u / 2 ^ (56 - 8 * j) % 256)):=by
 match j,hj with
 |0,_=>rfl
 |1,_=>rfl
 |2,_=>rfl
 |3,_=>rfl
 |4,_=>rfl
 |5,_=>rfl
 |6,_=>rfl
 |7,_=>rfl
theorem SY (m:Nat):((UInt8.ofNat (m % 256)).toNat:Int)=((m % 256:Nat):Int):=by
 simp
theorem DG (n:Int):IntKind.u8.wrap n=n % 256:=by
 simp only[IntKind.wrap,IntKind.signed,IntKind.bits];rfl
theorem VE (u:Nat)(j:Nat)(hj:j<8):IntKind.u8.wrap (Pe .u64 (u:Int) (56 - 8 * (j:Int)))=((UInt8.ofNat (u / 2 ^ (56 - 8 * j) % 256)).toNat:Int):=by
 rw[SY,DG]
 have e:(56 - 8 * (j:Int)).toNat=56 - 8 * j:=by omega
 have hm:min (56 - 8 * j) 64=56 - 8 * j:=by omega
 have:Pe .u64 (u:Int) (56 - 8 * (j:Int))=((u / 2 ^ (56 - 8 * j):Nat):Int):=by
  unfold Pe;rw[e];show(u:Int).fdiv (2 ^ (min (56 - 8 * j) 64))=_;rw[hm,Int.natCast_ediv,Int.fdiv_eq_ediv_of_nonneg _ (by exact Int.le_of_lt (Int.pow_pos (by decide))),Int.natCast_pow]
  rfl
 rw[this];omega
theorem UI (c x:UInt8)(l:List UInt8):Lib.index (x::l) [c]=if x=c then 0 else if Lib.index l [c]= -1 then -1 else Lib.index l [c]+1:=by
 rw[Lib.index]
 by_cases h:x=c
 ·simp[h]
 ·have h': ¬c=x:=fun e=>h e.symm
  simp[h,h']
theorem Ik (c:UInt8)(new:List UInt8): ∀l:List UInt8,Lib.replaceK [c] new (Lib.count l [c]) l=IG c new l
 | []=>by rw[Lib.count_miss (by rfl)];rfl
 |x::l=>by
  have ih:=Ik c new l;have hi:=UI c x l
  by_cases h:x=c
  ·rw[if_pos h] at hi
   rw[Lib.count_hit (i:=0) (by simp) hi,eS 1,Lib.replaceK_hit _ _ _ _ 0 hi,IG,if_pos h];simpa using ih
  ·rw[if_neg h] at hi
   rw[IG,if_neg h,<-ih]
   by_cases h1:Lib.index l [c]= -1
   ·rw[if_pos h1] at hi
    rw[Lib.count_miss hi,Lib.count_miss h1];rfl
   ·rw[if_neg h1] at hi
    have hg:=Lib.index_ge l [c];obtain⟨i,e⟩: ∃i:Nat,Lib.index l [c]=i:=⟨(Lib.index l [c]).toNat,by omega⟩;rw[e] at hi
    have hi:Lib.index (x::l) [c]=((i+1:Nat):Int):=by omega
    rw[Lib.count_hit (by simp) hi,Lib.count_hit (by simp) e,eS 1,eS 1,Lib.replaceK_hit _ _ _ _ _ hi,Lib.replaceK_hit _ _ _ _ _ e];simp[Nat.add_right_comm i 1 1]
theorem Ln (c:UInt8)(new l:List UInt8)(h:([c]==new)=false):Lib.replaceAll l [c] new=IG c new l:=by
 rw[Lib.replaceAll,Lib.replace,if_neg (by rw[h];simp)]
 have:Lib.replaceNum l [c] (-1)=Lib.count l [c]:=by rw[Lib.replaceNum,if_pos (.inl (by omega))]
 rw[this,Ik]
attribute [local irreducible] AWP DU
def M6:Nat->Int->List UInt8
 |0,_=>[]
 |k+1,n=>UInt8.ofNat (n % 256).toNat::M6 k (n / 256)
theorem M5: ∀(k:Nat)(n:Int),(M6 k n).length=k
 |0,_=>rfl
 |k+1,n=>by rw[M6,List.length_cons,M5]
theorem Zb {n:Int}(h:Oh n):ZV .i64 n 255=n % 256:=by
 obtain⟨h1,h2⟩:=h;have e:(255:Int)=((255:Nat):Int):=rfl
 have k:(BitVec.ofInt 64 n &&& BitVec.ofInt 64 255).toNat=(n % 256).toNat:=by
  rw[e,BitVec.toNat_and,gT,BitVec.toNat_ofNat,BitVec.toNat_ofInt];have:(255:Nat) % 2 ^ 64=2 ^ 8 - 1:=rfl;rw[this,Nat.and_two_pow_sub_one_eq_mod];have:((2 ^ 64:Nat):Int)=18446744073709551616:=rfl;rw[this];omega
 show IntKind.i64.wrap (((BitVec.ofInt 64 n &&& BitVec.ofInt 64 255).toNat:Nat):Int)=n % 256;rw[k,gC _ (by omega)];omega
theorem Uv (n:Int):((UInt8.ofNat (n % 256).toNat).toNat:Int)=n % 256:=by
 rw[UInt8.toNat_ofNat'];have:(2:Nat) ^ 8=256:=rfl;omega
theorem Yl (n:Int):(n - n % 256).tdiv 256=n / 256:=by
 rw[show n - n % 256=256 * (n / 256) by omega,Int.mul_tdiv_cancel_left _ (by decide)]
theorem Z3 {n:Int}(h:Oh n): ∀j:Nat,0<j->j<8->(LH (DW n))[j]?=(M6 8 n)[7 - j]?:=by
 obtain⟨h1,h2⟩:=h
 have hu:(DW n:Int)=n+9223372036854775808:=by unfold DW;omega
 intro j h0 h8;rw[P4 _ _ h8]
 match j,h0,h8 with
 |1,_,_=>exact congrArg (fun x=>some (UInt8.ofNat x)) (show DW n / 281474976710656 % 256=(n / 256 / 256 / 256 / 256 / 256 / 256 % 256).toNat by omega)
 |2,_,_=>exact congrArg (fun x=>some (UInt8.ofNat x)) (show DW n / 1099511627776 % 256=(n / 256 / 256 / 256 / 256 / 256 % 256).toNat by omega)
 |3,_,_=>exact congrArg (fun x=>some (UInt8.ofNat x)) (show DW n / 4294967296 % 256=(n / 256 / 256 / 256 / 256 % 256).toNat by omega)
 |4,_,_=>exact congrArg (fun x=>some (UInt8.ofNat x)) (show DW n / 16777216 % 256=(n / 256 / 256 / 256 % 256).toNat by omega)
 |5,_,_=>exact congrArg (fun x=>some (UInt8.ofNat x)) (show DW n / 65536 % 256=(n / 256 / 256 % 256).toNat by omega)
 |6,_,_=>exact congrArg (fun x=>some (UInt8.ofNat x)) (show DW n / 256 % 256=(n / 256 % 256).toNat by omega)
 |7,_,_=>exact congrArg (fun x=>some (UInt8.ofNat x)) (show DW n / 1 % 256=(n % 256).toNat by omega)
theorem XE {n:Int}(h:Oh n): ∃x y:UInt8,(M6 8 n)[7]?=some x/\(LH (DW n))[0]?=some y/\(y.toNat:Int)=((x.toNat:Int)+128) % 256:=by
 obtain⟨h1,h2⟩:=h
 have hu:(DW n:Int)=n+9223372036854775808:=by unfold DW;omega
 refine⟨_,_,rfl,rfl,?_⟩;rw[Uv,SY];omega
theorem u8w (x:UInt8):IntKind.u8.wrap (x.toNat:Int)=(x.toNat:Int):=by
 have:=x.toNat_lt;rw[DG];omega
theorem P5 (u:Nat):List.take 8 ((LH u).map AC)=(LH u).map AC:=rfl
theorem NH (G:GL)(n:Int)(hn:Oh n):Con prog G 117 [.r (.int .i64 n)] [] 0 (Is (.s 0 0 8) [(0,.lst 5 1 ((LH (DW n)).map AC))] 1) No:=by
 refine cJ func117 fun E hG hE=>?_;subst hG;simp only[AX];(repeat' (first |refine A0 ?_ |refine A4 ?_ |((refine sR (fun K kp=>?_));simp(disch:=omega) only[go_sem];(repeat' (refine K _ ?_;clear K kp)))));(refine AWP.emb (BY 3 5 1 ?_) ?_;(·rfl);dsimp only);refine AB (fun q:Nat×Int×List UInt8=>⟨[(4,.r (.int .i64 q.1)),(0,.r (.int .i64 q.2.1)),(3,.s 0 0 q.2.2.length)],[(0,.lst 5 1 (q.2.2.map AC))],1⟩) (fun q=>q.1≤8/\Oh q.2.1/\q.2.2.length=q.1/\q.2.2++M6 (8 - q.1) q.2.1=M6 8 n) (fun q=>8 - q.1) (0,n,[]) ?_ ?_ ?_
 ·exact⟨by simp,hn,rfl,rfl⟩
 ·(exact iK hE [0])
 rintro⟨k,m,low⟩ ⟨hk,hm,hl,hno⟩;simp only at hk hm hl hno ⊢
 by_cases h8:k<8
 ·have hm':=hm
  obtain⟨m1,m2⟩:=hm';have ha:=Zb hm;obtain⟨x,hx⟩: ∃x,x=UInt8.ofNat (m % 256).toNat:=⟨_,rfl⟩
  have hxm:(x.toNat:Int)=m % 256:=by rw[hx,Uv]
  have hq:=Yl m;have hx8:=x.toNat_lt;rw[<-hxm] at hq ha;(repeat' (first |refine A0 ?_ |refine A4 ?_ |refine A3 ?_ |((refine sR (fun K kp=>?_));simp(disch:=omega) only[go_sem,ha,hq];(repeat' (first |(refine K _ ?_;clear K kp) |(with_reducible refine And.intro ?_ ?_) |omega))) |((refine A6 rfl (fun h=>?_) (fun h=>?_)<;>try simp only[Af] at h)<;>(try (exfalso;omega)))));(refine BF ((k+1,m / 256,low++[x])) ?_ ?_;rotate_left;(·(refine AJ hE [2] rfl ?_ ?_<;>simp[Ai,AY,lk,ren,renL,AA,AU,AC,u8w]<;>(try omega))));refine⟨by omega,⟨by simp only;omega,by simp only;omega⟩,by simp[hl],?_⟩;rw[<-hno,show 8 - k=(8 - (k+1))+1 by omega,M6,<-hx];simp
 obtain rfl:k=8:=by omega
 have hno:low=M6 8 n:=by rw[<-hno];simp[M6]
 clear hk h8 hm;subst hno;(repeat' (first |refine A0 ?_ |refine A4 ?_ |refine A7 ?_ |((refine sR (fun K kp=>?_));simp(disch:=omega) only[go_sem,M5];(repeat' (refine K _ ?_;clear K kp))) |refine A1 rfl ?_));(refine AWP.emb (BY 6 5 1 ?_) ?_;(·rfl);dsimp only);refine AB (fun j:Nat=>⟨[(7,.r (.int .i64 (7 - (j:Int)))),(3,.s 0 0 8),(6,.s 1 0 j)],[(0,.lst 5 1 ((M6 8 n).map AC)),(1,.lst 5 1 (((LH (DW n)).take j).map AC))],2⟩) (fun j=>j≤8) (fun j=>8 - j) 0 ?_ ?_ ?_
 ·simp
 ·(exact iK hE [0,1])
 intro j hj;have hll:=M5 8 n
 have hz:((LH (DW n)).take j).length=j:=by rw[aS,DI];omega
 by_cases h8:j<8
 ·by_cases h0:j=0
  ·subst h0
   obtain⟨x,y,hx,hy,hxy⟩:=XE hn;have hx8:=x.toNat_lt;have hy8:=y.toNat_lt
   have hrem:((x.toNat:Int)+128).tmod 256=(y.toNat:Int):=by rw[Int.tmod_eq_emod_of_nonneg (by omega),hxy]
   have htk:(LH (DW n)).take 1=[y]:=by rw[aV,hy];rfl
   (repeat' (first |refine A0 ?_ |refine A4 ?_ |refine A3 ?_ |((refine sR (fun K kp=>?_));simp(disch:=omega) only[go_sem,hx,hrem,AC];(repeat' (refine K _ ?_;clear K kp))) |refine A2 rfl ?_));(refine BF (1) ?_ ?_;rotate_left;(·(refine AJ hE [0,3] rfl ?_ ?_<;>simp[Ai,AY,lk,ren,renL,AA,AU,AC,htk,u8w,cM,dK]<;>(try omega))));omega
  ·have hg:=Z3 hn j (by omega) h8
   obtain⟨x,hx⟩: ∃x,(LH (DW n))[j]?=some x:=⟨_,P4 _ _ h8⟩;rw[hx] at hg;have hx8:=x.toNat_lt
   have e1:(7 - (j:Int)).toNat=7 - j:=by omega
   have e2:(7 - (j:Int)==7)=false:=by simp;omega
   have c1:(0≤7 - (j:Int))=True:=aK (by omega);have c2:(7 - (j:Int)<((8:Nat):Int))=True:=aK (by omega);have c3:(7 - (j:Int)<8)=True:=aK (by omega)
   have htk:(LH (DW n)).take (j+1)=(LH (DW n)).take j++[x]:=by rw[aV,hx];rfl
   (repeat' (first |refine A0 ?_ |refine A4 ?_ |refine A3 ?_ |((refine sR (fun K kp=>?_));simp(disch:=omega) only[go_sem,hg.symm,e1,e2,c1,c2,c3,AC];(repeat' (first |(refine K _ ?_;clear K kp) |(with_reducible refine And.intro ?_ ?_) |omega))) |refine A2 rfl ?_ |refine A1 rfl ?_));(refine BF (j+1) ?_ ?_;rotate_left;(·(refine AJ hE [0,3] rfl ?_ ?_<;>simp[Ai,AY,lk,ren,renL,AA,AU,AC,htk,u8w,cM,dK]<;>(try omega))));omega
 ·obtain rfl:j=8:=by omega
  (repeat' (first |refine A0 ?_ |refine A7 ?_ |((refine sR (fun K kp=>?_));simp(disch:=omega) only[go_sem];(repeat' (refine K _ ?_;clear K kp))) |refine A1 rfl ?_ |refine A5 ?_));(refine rJ results117 ?_;refine(BS hE [1] rfl ?_ ?_).s<;>simp[A8,AY,lk,ren,renL,AA,AU,P5])
theorem Wa {w:World}{z:AO}{th:List NLoc}{us:List Value}{v:Value}(h:Rep w z th (.agg (us.map .r)) v):v= .agg us.toArray:=by
 obtain⟨ys,rfl,hc⟩:=h.agg_inv
 have:ys=us:=by
  apply eB;intro i
  cases hi:us[i]? with
  |none=>rw[dW] at hi ⊢;rw[hc.1];simpa using hi
  |some u=>
   obtain⟨y,h1,h2⟩:=hc.get (show(us.map AV.r)[i]?=some (.r u) by rw[List.getElem?_map,hi];rfl);rw[h1,h2.r_inv]
 rw[this]
theorem Uu (G:GL)(v:V)(hs:v.s.size≤maxLen):Con prog G 50 [.agg (eV v)] [] 0 (Is (.r (.int .i64 (AW v.k v.n v.s))) [] 0) No:=
 Al (by kernel_rfl) (fun w z vs hz hr hG=>by
  obtain⟨u,r,rfl,h1,h2⟩:=hr.head;obtain rfl:=Wa (us:=[.int .i64 v.k,.int .i64 v.n,.string v.s]) h1;obtain rfl:=h2.of_nil
  exact Go.Proofs.YtmohnlbeiaifhaaGreatDoor.Kt v.k v.n v.s w hs)
theorem PH (G:GL)(v:V)(hs:v.s.size≤maxLen):Con prog G 114 [.agg (eV v)] [] 0 (Is (.r (.int .i64 (AW v.k v.n v.s))) [] 0) No:=
 Al (by kernel_rfl) (fun w z vs hz hr hG=>by
  obtain⟨u,r,rfl,h1,h2⟩:=hr.head;obtain rfl:=Wa (us:=[.int .i64 v.k,.int .i64 v.n,.string v.s]) h1;obtain rfl:=h2.of_nil
  exact Go.Proofs.YtmohnlbeiaifhaaGreatDoor.Fy v.k v.n v.s w hs)
end Go.AM
