/- Texts of the law NeedNeeds, part 2: lemmas; what is proved stands in the last text. -/
import Derived.Test.YtmohnlbeiaifhaaGreatDoorZz1
set_option linter.unusedSimpArgs false
set_option linter.unusedVariables false
set_option maxRecDepth 100000
namespace Go.AM
open Go
section
variable {P:Program} {E:Env} {N:Nat} {st:AS} {th:List NLoc} {z:AO} {a:Act} {w:World} {o:List (Nat×Nd)} {n:Nat}
theorem Ob (d:Nat): ∀(op:List (Nat×Nat×AV))(i j:Nat),F0 (Yg d op) i j=if d≤i then F0 op (i - d) j else none
 | [],i,j=>by simp[Yg,F0]
 |(p,q,x)::r,i,j=>by
  have:=Ob d r i j;simp only[Yg,List.map_cons,F0] at this ⊢;rw[this]
  by_cases h:d≤i
  ·simp only[h,if_true]
   by_cases h1:p=i - d/\q=j
   ·rw[if_pos h1,if_pos ⟨by omega,h1.2⟩]
   ·rw[if_neg h1,if_neg (fun e=>h1 ⟨by omega,e.2⟩)]
  ·simp only[h,if_false]
   rw[if_neg (by omega)]
theorem Sim.exact (h:Sim E N st th z a w){T k:Nat}{els:List (List AV)}{op:List (Nat×Nat×AV)}{L:NLoc}(hi:lk st.o n=some (.ul T k els op))(hL:th[n]?=some L):
  ∃xls:List (List AV),xls.length=els.length/\(∀x ∈ xls,x.length=k)/\(∀(i:Nat)(e:List AV)(j:Nat)(x:AV),els[i]?=some e->e[j]?=some x-> ∀y,w.cell? ⟨L.b,L.o+i * L.k+j,none⟩=some y-> ∃xr,xls[i]?=some xr/\xr[j]?=some (.r y))/\Sim E N (C4 st n (.lst T k xls)) th z a w:=by
 obtain⟨U,hU⟩:=h.mem.uls;obtain⟨F,_,_,f3⟩:=hU.at_ n T k els op L hi hL;obtain⟨L',h1,h2,_⟩:=h.mem.nds n _ hi;rw[hL] at h1;cases h1
 have len: ∀(i:Nat)(e:List AV),els[i]?=some e->e.length=L.k/\L.k=k:=by
  intro i e he
  rcases h2 with ⟨_,h0⟩ |⟨_,cells,fr,g1,g2,g3,g4,g5,g6⟩
  ·subst h0;simp at he
  ·exact⟨g6 i e he,g3⟩
 refine⟨(List.range els.length).map fun i=>(List.range k).map fun j=> .r ((w.cell? ⟨L.b,L.o+i * L.k+j,none⟩).getD undef),by simp,fun x hx=>?_,fun i e j x he hx y hy=>?_,h.say hi (fun M hM hn=>?_)⟩
 ·obtain⟨i,_,rfl⟩:=cI.1 hx;simp
 ·have hi':i<els.length:=(aA.1 he).1
  have hj:j<k:=by rw[<-(len i e he).2,<-(len i e he).1];exact(aA.1 hx).1
  exact⟨_,by rw[List.getElem?_map,dS hi'];rfl,by rw[List.getElem?_map,dS hj];simp[hy]⟩
 ·rw[hL] at hM;cases hM
  rcases hn with ⟨hp,h0⟩ |⟨hp,cells,fr,g1,g2,g3,g4,g5,g6⟩
  ·subst h0;exact .inl ⟨hp,by simp⟩
  ·refine .inr ⟨hp,cells,fr,g1,g2,g3,g4,by simpa using g5,fun i e he=>?_⟩
   have hi':i<els.length:=by have:=(aA.1 he).1;simpa using this
   rw[List.getElem?_map,dS hi'] at he;simp only[Option.map_some,aM] at he;subst he;refine⟨by simp[g3],fun j x hx=>?_⟩
   have hj:j<k:=by have:=(aA.1 hx).1;simpa using this
   rw[List.getElem?_map,dS hj] at hx;simp only[Option.map_some,aM] at hx;subst hx
   have he0:els[i]?=some els[i]:=by simp[hi']
   have hl0:=(len i _ he0).1
   have hj0:j<els[i].length:=by rw[hl0,g3];exact hj
   obtain⟨y,hy,ho,_⟩:=f3 i els[i] he0 j els[i][j] (by simp[hj0]);refine⟨y,?_,by rw[hy];exact .r _ _,ho⟩;rw[Bj g1] at hy;exact hy
theorem UX {k n:Nat}{nd:Nd}{x:AV}{els:List (List AV)}(h:D1 st k x=some els){T k':Nat}{els':List (List AV)}{op:List (Nat×Nat×AV)}(hn:lk st.o n=some (.ul T k' els' op)):D1 (C4 st n nd) k x=some els:=by
 unfold D1 at h ⊢;split at h
 ·exact h
 ·rename_i m lo len
  simp only[C4,lk]
  by_cases e:n=m
  ·subst e;rw[hn] at h;cases h
  ·rw[if_neg e];exact h
 ·exact h
 ·cases h
def A1X (P:Program)(E:Env)(N:Nat)(st:AS)(th:List NLoc)(z:AO)(a:Act)(w:World)(n e e' sz:Nat)(xn:List (List AV))(U:Nat->Nat->Prop)(x:AV)(els2:List (List AV))(op2:List (Nat×Nat×AV))(ms:Option Nat):Prop:=
 ∃(stX:AS)(new:List (List AV))(Fm:Nat->Nat->Nat->Prop),Sim E N stX th z a w/\lk stX.o n=some (.lst e sz xn)/\stX.n=st.n/\(∀i y,ms≠some i->i≠n->lk st.o i=some y->lk stX.o i=some y)/\NA stX sz (TK.slice e') x=some new/\new.length=els2.length/\(∀e ∈ els2,e.length=sz)/\
  (∀i j b,Fm i j b-> ∃m,ms=some m/\U m b)/\(∀i j i' j' b,Fm i j b->Fm i' j' b->i=i'/\j=j')/\
  (∀(i:Nat)(e:List AV)(j:Nat)(x:AV),els2[i]?=some e->e[j]?=some x-> ∃en xn,new[i]?=some en/\en[j]?=some xn/\ ∀(w':World)(th':List NLoc)(y:Value),Le w z w' z->(∀i b,U i b->w'.heap[b]?=w.heap[b]?)->Rep w' z [] xn y->CellU w' z (th++th') (Fm i j) op2 i j x y)
theorem NU (h:Sim E N st th z a w){n e e' sz:Nat}{xn:List (List AV)}{U:Nat->Nat->Prop}{x:AV}{els2:List (List AV)}{op2:List (Nat×Nat×AV)}{ms:Option Nat}{els:List (List AV)}(hXn:Sim E N (C4 st n (.lst e sz xn)) th z a w)(hn:lk st.o n=some (.ul e sz els []))
  {T':TypeId} {y':TY} (hT':AK P T'=some y') (hy:y'.k= .slice e') {v2:Value} (hr:Rep w z th x v2) (hsz:0<sz) (hx:(D1 st sz x).map (fun els=>(els,([]:List (Nat×Nat×AV)),(none:Option Nat)))=some (els2,op2,ms)):A1X P E N st th z a w n e e' sz xn U x els2 op2 ms:=by
 obtain⟨el,hel,hh⟩:=aF.1 hx;simp only[cH] at hh;obtain⟨rfl,rfl,rfl⟩:=hh;refine⟨C4 st n (.lst e sz xn),el,fun _ _ _=>False,hXn,by simp[C4,lk],rfl,fun i y _ hi hy=>?_,UX hel hn,rfl,fun e' he'=>?_,fun _ _ _ h=>h.elim,fun _ _ _ _ _ h=>h.elim,fun i e j x he hx=>⟨e,x,he,hx,fun w' th' y _ _ hr=> .r _ _ _ hr⟩⟩
 ·simp only[C4,lk];rw[if_neg (cL hi)];exact hy
 ·obtain⟨news,_,h2,_⟩:=Fb h hT' hr hsz (show NA st sz y'.k x=some el by rw[hy];exact hel)
  exact h2 e' he'
theorem W7 (h:Sim E N st th z a w){args:Array Operand}{ats:Array TypeId}{d:Option Nat}{t:TypeId}{pos:String}{aft:Array Edge}{g:Option (Nat×Bool)}{k:AV->AS->Prop}{c:Prop}{vv:AV}{s:AS}(hq:FY P E.G st (.call {callee:= .builtin .append,args:=args,argTypes:=ats})=some (c,vv,s))(hc:c)(hk:k vv s):
  OF P E N ⟨d,.call {callee:= .builtin .append,args:=args,argTypes:=ats},t,pos,aft,g⟩ a w th (G_ st E.G (.call {callee:= .builtin .append,args:=args,argTypes:=ats})) st.m k false:=by
 obtain⟨args⟩:=args;obtain⟨ats⟩:=ats;simp only[FY] at hq;unfold Za at hq;split at hq
 case h_2=>cases hq
 rename_i b x T T' he;split at hq
 case h_2=>cases hq
 rename_i e s1 b1 z1 e' s2 b2 z2 hT hT';split at hq
 case h_2=>cases hq
 rename_i kk sz bytes zs hTe;split at hq
 case h_2=>cases hq
 rename_i els n els2 op2 ms hb hx;simp only[aM,cH] at hq;obtain⟨rfl,rfl,rfl⟩:=hq;obtain⟨hzl,hsz,hby,h63,hms⟩:=hc;obtain⟨i,dd,hi1,hi2,hi3⟩:=BE hTe;simp only[TY.mk.injEq] at hi3;obtain⟨_,hisz,hiby,hiz⟩:=hi3;obtain⟨v0,hv0,hv0'⟩:=aF.1 hiz.symm
 have hz0:v0.cells.size=sz:=by rw[<-hzl,<-hv0'];simp
 obtain⟨v1,r1,hargs,hr1,hrest⟩:=(Bo h he).head;obtain⟨v2,r2,rfl,hr2,hrest2⟩:=hrest.head;obtain rfl:=hrest2.of_nil
 have hbn:b= .s n 0 els.length/\lk st.o n=some (.ul e sz els []):=by
  unfold WQ at hb;split at hb
  ·rename_i m len
   split at hb
   ·rename_i T0 k0 els0 hm
    split at hb
    ·rename_i hcond
     obtain⟨rfl,rfl,rfl⟩:=hcond;simp only[aM,cH] at hb;obtain⟨rfl,rfl⟩:=hb;exact⟨rfl,hm⟩
    ·cases hb
   ·cases hb
  ·cases hb
 obtain⟨rfl,hn⟩:=hbn
 have hts:G_ st E.G (.call {callee:= .builtin .append,args:=args.toArray,argTypes:=[T,T'].toArray})=[n]:=by simp only[G_,he]
 obtain⟨L,hL,hnd,hk3⟩:=h.mem.nds n _ hn;obtain⟨xn,xn1,xn2,xn3,hXn⟩:=h.exact hn hL;obtain⟨U,hU⟩:=h.mem.uls;obtain⟨Fn,fn1,fn2,fn3⟩:=hU.at_ n _ _ _ _ _ hn hL
 have src:A1X P E N st th z a w n e e' sz xn U x els2 op2 ms:=by
  unfold Ye at hx;split at hx
  ·rename_i m lo len
   split at hx
   ·rename_i T2 k2 elsm opm hm
    split at hx
    ·rename_i hcond
     obtain⟨rfl,rfl,rfl⟩:=hcond;simp only[aM,cH] at hx;obtain⟨rfl,rfl,rfl⟩:=hx;have hmn:n≠m:=fun e=>hms (by rw[e]);obtain⟨Lm,hLm,hndm,_⟩:=h.mem.nds m _ hm
     have hm':lk (C4 st n (.lst e k2 xn)).o m=some (.ul T2 k2 elsm opm):=by simp only[C4,lk];rw[if_neg hmn];exact hm
     obtain⟨xm,xm1,xm2,xm3,hXm⟩:=hXn.exact hm' hLm;obtain⟨Fm,fm1,fm2,fm3⟩:=hU.at_ m _ _ _ _ _ hm hLm;refine⟨C4 (C4 st n (.lst e k2 xn)) m (.lst T2 k2 xm),xm,Fm,hXm,by simp only[C4,lk];rw[if_neg (cL hmn)];simp,rfl,fun i y h1 h2 hy=>?_,?_,xm1,fun e' he'=>?_,fun i j b hb=>⟨m,rfl,fm1 i j b hb⟩,fm2,fun i e j x he hx=>?_⟩
     ·simp only[C4,lk]
      rw[if_neg (fun e=>h1 (by rw[e])),if_neg (cL h2)];exact hy
     ·simp only[NA,D1,C4,lk,if_true,Nat.zero_add]
      rw[if_pos ⟨trivial,by rw[xm1];exact Nat.le_refl _⟩,List.drop_zero,aN (by rw[xm1];exact Nat.le_refl _)]
     ·obtain⟨q,hq⟩:=aO.1 he'
      rcases hndm with ⟨_,h0⟩ |⟨_,cells,fr,g1,g2,g3,g4,g5,g6⟩
      ·subst h0;simp at hq
      ·rw[<-g3];exact g6 q e' hq
     ·obtain⟨y0,hy0,_,hcu⟩:=fm3 i e he j x hx
      obtain⟨xr,hxr,hxj⟩:=xm3 i e j x he hx y0 hy0;refine⟨xr,_,hxr,hxj,fun w' th' y le hs hr=>?_⟩;obtain rfl:=hr.r_inv;exact hcu.on le (fun b hb=>hs m b (fm1 _ _ _ hb)) th'
    ·cases hx
   ·exact NU h hXn hn hT' rfl hr2 hsz hx
  ·exact NU h hXn hn hT' rfl hr2 hsz hx
 obtain⟨stX,new,Fm,hX,hXlk,hXN,hXold,hXs,hnl,hk2,fm1,fm2,fm3⟩:=src;obtain⟨news,hs,hel,hcell⟩:=Fb hX hT' hr2 hsz hXs;obtain⟨v,L2,w',g1,g2,g3,g4,g5⟩:=Kf hX (t:=t) hT hi1 hv0 hisz.symm hiby.symm hz0 hsz hXlk (lo:=0) (len:=els.length) (by rw[xn1];omega) (by rw[hnl];exact hby) (by rw[hnl];exact h63) hr1 hs hel hcell
 have htk:(xn.drop 0).take els.length=xn:=by rw[List.drop_zero,aN (by rw[xn1];exact Nat.le_refl _)]
 rw[htk] at g2;rw[hXN,hnl] at g3
 have hUL: ∀i b,U i b->w'.heap[b]?=w.heap[b]?:=fun i b hb=>g4.same b (hU.lt i b hb) (fun q hq M hM hp e=>by
  obtain rfl:n=q:=(aW.1 hq).symm;rw[hL] at hM;cases hM
  subst e;exact hU.kn n _ L i hn hL hp hb)
 have le:Le w z w' z:=⟨fun _ _ h=>h,fun t b hb=>g4.same b (h.mem.zlt t b hb) (fun q hq M hM hp e=>by
  obtain rfl:n=q:=(aW.1 hq).symm;rw[hL] at hM;cases hM
  subst e;exact(hk3 hp).2.1 t hb)⟩
 have hlkn: ∀i y,lk (rm (Zp st.o ms) n) i=some y->i≠n/\ms≠some i/\lk st.o i=some y:=by
  intro i y hi;rw[Gw] at hi;split at hi
  ·cases hi
  ·rename_i hne
   cases ms with
   |none=>exact⟨cL hne,(by simp),hi⟩
   |some m=>
    simp only[Zp] at hi;rw[Gw] at hi;split at hi
    ·cases hi
    ·rename_i hne2;exact⟨cL hne,(fun e=>hne2 (by cases e;rfl)),hi⟩
 have hstn: ∀i y,lk st.o i=some y->i<st.n:=fun i y hi=>by
  obtain⟨M,k1,_⟩:=h.mem.nds i y hi;rw[<-h.mem.len];exact(aA.1 k1).1
 have hget:(th++[L2])[st.n]?=some L2:=h.get_new L2
 have hold: ∀i M,i<st.n->(th++[L2])[i]?=some M->th[i]?=some M:=fun i M hi hM=>by rwa [bF (by rw[h.mem.len];exact hi)] at hM
 have m1:Mem E ((st.n,.lst e sz (xn++new))::rm (Zp st.o ms) n) (st.n+1) (th++[L2]) z w':=by
  have:=g2.mem;simp only[Br,hXN] at this;refine this.sub (fun i y hi=>?_);simp only[lk] at hi ⊢;split at hi
  ·rename_i e;rw[if_pos e];exact hi
  ·rename_i e
   rw[if_neg e];obtain⟨k1,k2,k3⟩:=hlkn i y hi;rw[Gw,if_neg (cL k1)];exact hXold i y k2 k1 k3
 obtain⟨L2',p1,p2,p3⟩:=m1.nds st.n (.lst e sz (xn++new)) (by simp[lk]);rw[hget] at p1;cases p1
 have m2:=m1.sayU (i:=st.n) (T:=e) (k:=sz) (xls:=xn++new) (els:=els++els2) (op:=Yg els.length op2) (by simp[lk]) (by simp[xn1,hnl]) (fun e' he'=>by
  rcases cK.1 he' with he' |he'
  ·obtain⟨q,hq⟩:=aO.1 he'
   rcases hnd with ⟨_,h0⟩ |⟨_,cells,fr,g1,g2,g3,g4,g5,g6⟩
   ·subst h0;simp at hq
   ·rw[<-g3];exact g6 q e' hq
  ·exact hk2 e' he') ⟨fun i b=>if i=st.n then (U n b\/ ∃m,ms=some m/\U m b) else (i≠n/\ms≠some i/\U i b),?_⟩
 ·have hsim:Sim E N (Br {st with o:=rm (Zp st.o ms) n} (.ul e sz (els++els2) (Yg els.length op2))) (th++[L2]) z a w':=by
   refine⟨m2.sub (fun i y hi=>?_),h.size,h.dfs,fun i y hi=>?_⟩
   ·simp only[Br,lk] at hi ⊢
    split
    ·rename_i e1;rw[if_pos e1] at hi;exact hi
    ·rename_i e1;rw[if_neg e1] at hi;exact hi
   ·obtain⟨u,hu,hr⟩:=h.slots i y hi
    exact⟨u,hu,hr.on le [L2]⟩
  rw[hts];refine⟨v,_,_,_,z,w',.inl ?_,hk,hsim,g3,rfl,(fun h=>by cases h),BX _ _,g4⟩;simp only[execOp,resolve,invoke,builtin,aQ,bT,aL]
  have he2:(Array.map a.eval args.toArray)= #[v1,v2]:=by simpa using hargs
  rw[he2,g1];rfl
 ·refine⟨fun i T0 k0 els0 op0 M hi hM=>?_,fun i b hb=>?_,fun i b hb=>?_,fun i b hb=>?_,fun i j b hb hb'=>?_,fun i nd M j hi hM hp hb=>?_⟩
  ·simp only[lk] at hi
   by_cases hie:st.n=i
   ·subst hie
    rw[if_pos rfl] at hi;cases hi;rw[hget] at hM;cases hM;simp only[if_true];refine⟨fun i j=>if i<els.length then Fn i j else Fm (i - els.length) j,fun i j b hb=>?_,fun i j i' j' b hb hb'=>?_,fun i e0 he0 j x0 hx0=>?_⟩
    ·dsimp only at hb
     split at hb
     ·exact .inl (fn1 _ _ _ hb)
     ·exact .inr (fm1 _ _ _ hb)
    ·dsimp only at hb hb'
     split at hb<;>split at hb'
     ·exact fn2 _ _ _ _ _ hb hb'
     ·obtain⟨m,rfl,hm⟩:=fm1 _ _ _ hb'
      exact(hms (by rw[hU.inj _ _ _ (fn1 _ _ _ hb) hm])).elim
     ·obtain⟨m,rfl,hm⟩:=fm1 _ _ _ hb
      exact(hms (by rw[hU.inj _ _ _ (fn1 _ _ _ hb') hm])).elim
     ·have:=fm2 _ _ _ _ _ hb hb'
      exact⟨by omega,this.2⟩
    ·rcases p2 with ⟨_,h0⟩ |⟨hp2,cells,fr,q1,q2,q3,q4,q5,q6⟩
     ·have hl:=congrArg List.length h0
      simp[xn1,hnl] at hl;have h1:=(aA.1 he0).1;simp[hl.1,hl.2] at h1
     ·by_cases hlt:i<els.length
      ·rw[bF hlt] at he0
       obtain⟨y0,hy0,ho0,hcu⟩:=fn3 i e0 he0 j x0 hx0;obtain⟨xr,hxr,hxj⟩:=xn3 i e0 j x0 he0 hx0 y0 hy0;obtain⟨_,q7⟩:=q6 i xr (by rw[bF (by rw[xn1];exact hlt)];exact hxr);obtain⟨y1,hy1,hr1',ho1⟩:=q7 j _ hxj;obtain rfl:=hr1'.r_inv;refine⟨y1,by rw[Bj q1];exact hy1,ho1,?_⟩;simp only[hlt,if_true];have hcu:=hcu.on le (fun b hb=>hUL n b (fn1 _ _ _ hb)) [L2];unfold CellU at hcu ⊢;rw[Ob,if_neg (by omega)];exact hcu
      ·rw[bQ (by omega)] at he0
       obtain⟨en,xn',hen,hxn',hfin⟩:=fm3 _ e0 j x0 he0 hx0;obtain⟨_,q7⟩:=q6 i en (by rw[bQ (by rw[xn1];omega),xn1];exact hen);obtain⟨y1,hy1,hr1',ho1⟩:=q7 j _ hxn';refine⟨y1,by rw[Bj q1];exact hy1,ho1,?_⟩;simp only[hlt,if_false];have hcu:=hfin w' [L2] y1 le hUL hr1';unfold CellU at hcu ⊢;rw[Ob,if_pos (by omega)];exact hcu
   ·rw[if_neg hie,if_neg hie] at hi
    obtain⟨k1,k2,k3⟩:=hlkn i _ hi;have hM':=hold i M (hstn i _ k3) hM;obtain⟨M',j1,j2,j3⟩:=h.mem.nds i _ k3;rw[hM'] at j1;cases j1
    have hbM:els0=[]\/w'.heap[M.b]?=w.heap[M.b]?:=by
     rcases j2.ul_nil with h6 |h6
     ·exact .inl h6
     ·exact .inr (g4.same _ (j3 h6).1 (fun q hq A hA hp e=>by
       obtain rfl:n=q:=(aW.1 hq).symm;rw[hL] at hA;cases hA
       exact k1 (h.mem.inj i n _ _ M L k3 hn hM' hL h6 hp e.symm)))
    obtain⟨F,u1,u2,u3⟩:=(hU.at_ i T0 k0 els0 op0 M k3 hM').on le (fun b hb=>hUL i b hb) hbM [L2];refine⟨F,fun i' j b hb=>?_,u2,u3⟩;dsimp only;rw[if_neg (cL hie)];exact⟨k1,k2,u1 i' j b hb⟩
  ·have: ∃i,U i b:=by
    split at hb
    ·rcases hb with hb |⟨m,_,hb⟩
     ·exact⟨_,hb⟩
     ·exact⟨_,hb⟩
    ·exact⟨_,hb.2.2⟩
   obtain⟨i,hb⟩:=this;exact aY (hU.lt i b hb) g4.size
  ·have: ∃i,U i b:=by
    split at hb
    ·rcases hb with hb |⟨m,_,hb⟩
     ·exact⟨_,hb⟩
     ·exact⟨_,hb⟩
    ·exact⟨_,hb.2.2⟩
   obtain⟨i,hb⟩:=this;exact hU.nz i b hb
  ·have: ∃i,U i b:=by
    split at hb
    ·rcases hb with hb |⟨m,_,hb⟩
     ·exact⟨_,hb⟩
     ·exact⟨_,hb⟩
    ·exact⟨_,hb.2.2⟩
   obtain⟨i,hb⟩:=this;exact hU.ow i b hb
  ·split at hb<;>split at hb'
   ·omega
   ·rcases hb with hb |⟨m,hm,hb⟩
    ·exact(hb'.1 (hU.inj _ _ _ hb'.2.2 hb)).elim
    ·exact(hb'.2.1 (by rw[hU.inj _ _ _ hb'.2.2 hb];exact hm)).elim
   ·rcases hb' with hb' |⟨m,hm,hb'⟩
    ·exact(hb.1 (hU.inj _ _ _ hb.2.2 hb')).elim
    ·exact(hb.2.1 (by rw[hU.inj _ _ _ hb.2.2 hb'];exact hm)).elim
   ·exact hU.inj _ _ _ hb.2.2 hb'.2.2
  ·have hex: ∃i,U i M.b:=by
    split at hb
    ·rcases hb with hb |⟨m,_,hb⟩
     ·exact⟨_,hb⟩
     ·exact⟨_,hb⟩
    ·exact⟨_,hb.2.2⟩
   obtain⟨q,hq⟩:=hex;simp only[lk] at hi
   by_cases hie:st.n=i
   ·subst hie
    rw[hget] at hM;cases hM
    rcases g5 hp with g6 |⟨A,hA,hpA,hbA⟩
    ·have:=hU.lt q _ hq;omega
    ·rw[hL] at hA;cases hA
     rw[hbA] at hq;exact hU.kn n _ L q hn hL hpA hq
   ·rw[if_neg hie,if_neg hie] at hi
    obtain⟨k1,k2,k3⟩:=hlkn i _ hi;exact hU.kn i _ M q k3 (hold i M (hstn i _ k3) hM) hp hq
end
end Go.AM
