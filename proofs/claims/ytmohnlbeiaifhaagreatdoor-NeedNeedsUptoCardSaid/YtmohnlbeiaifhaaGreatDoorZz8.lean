/- Texts of the law NeedNeeds, part 8: lemmas; what is proved stands in the last text. -/
import Derived.Test.YtmohnlbeiaifhaaGreatDoorZz7
import Derived.Test.YtmohnlbeiaifhaaGreatDoorZz5
import Derived.Test.YtmohnlbeiaifhaaGreatDoorZz4
import Derived.Test.YtmohnlbeiaifhaaGreatDoorZz6
abbrev fO:=@List.dropWhile_cons
abbrev eW:=@List.flatten_append
abbrev gI:=@List.flatten_nil
open Go.Proofs.Tryz
set_option maxHeartbeats 32000000
set_option linter.unusedSimpArgs false
set_option linter.unusedVariables false
set_option maxRecDepth 100000
namespace Go.AM
open Go Go.RowKit
open Go.Proofs.YtmohnlbeiaifhaaGreatDoor (OP AH Bc AZ B0 DN BR AW)
theorem C1 {P:Program}{E:Env}{N:Nat}{rs:List ResultVar}{Q R:AV->List (Nat×Nd)->Nat->Prop}{st:AS}(h:DU P E N rs Q R .ret st):DU P E N rs Q R .normal st:=h
attribute [local irreducible] AWP DU
def Bp (st:List UInt8×List UInt8):Nd:= .box 93 [EK st.1,EK st.2]
@[simp] theorem RF (f:Nat->Nat) (l:List UInt8):ren f (EK l)=EK l:=by
  cases l<;>rfl
@[simp] theorem pt_nb (l:List UInt8):PT (EK l):=by
  cases l with
  |nil=>exact .r _
  |cons x r=>exact .ro _ _ (Da _ _)
def okL (ops:List OP):Prop:= ∀o ∈ ops,gV (Aw o)/\AW o.vk o.vn o.vs=0
theorem LF {v:V}(h:AW v.k v.n v.s=0):EF [v]= .ok (CL v):=by
 have:=Dg h;rw[EF,if_neg (by simp)];simp only[CF,h,List.nil_append];simp;omega
theorem Pg {key:ByteArray}{nt:Bool}{l:List OP}(h:l.length≠3):Cu key nt l=none:=by
 match l,h with
 | [],_=>rfl
 | [_],_=>rfl
 | [_,_],_=>rfl
 |_::_::_::_::_,_=>rfl
theorem Iy {G:GL}(t:Bool)(key:ByteArray)(st:List UInt8×List UInt8)(ops:List OP)(n:Nat)(o:OP)(hn:ops.length=n+1)(hx:ops[n]?=some o)(h3:o.k≠3)(hl:n≤1000)(hs:if o.k=5 then n≠3 else n≠2):
  Con prog G 47 [.p 0 0 0,.r (.string key),.ro t 5 (ops.map eO)] [(0,Bp st)] 1 (Is (.tup []) [(0,Bp (CY key st ops))] 1) No:=by
 have hgl:ops.getLast?=some o:=by rw[List.getLast?_eq_getElem?,hn,dF,hx]
 have hU:CY key st ops=st:=by
  rw[CY,D8,hgl];simp only;split at hs
  ·rename_i h5;rw[if_pos h5,Pg (by rw[List.length_dropLast];omega)]
  ·rename_i h5;rw[if_neg h5,Pg (by omega)]
 rw[hU];refine cJ func47 fun E hG hE=>?_;subst hG;simp only[AX]
 have e1:(ops.length:Int) - 1=(n:Nat):=by omega
 have k3:(o.k==3)=false:=by simpa using h3
 by_cases h5:o.k=5
 ·rw[if_pos h5] at hs
  have d1:((n:Int) - 1 !=2)=true:=by simp;omega
  (repeat' (first |refine A0 ?_ |refine A3 ?_ |((refine sR (fun K kp=>?_));simp -implicitDefEqProofs (disch:=omega) only[go_sem,hx,eO,e1,k3,h5,d1];(repeat' (refine K _ ?_;clear K kp))) |refine A2 rfl ?_ |refine A1 rfl ?_ |refine A5 ?_));(refine rJ results47 ?_;refine(BS hE [0] rfl ?_ ?_).s<;>simp[A8,AY,lk,ren,renL,AA,AU,Bp])
 ·rw[if_neg h5] at hs
  have d1:((n:Int) !=2)=true:=by simp;omega
  have k5:(o.k==5)=false:=by simpa using h5
  (repeat' (first |refine A0 ?_ |refine A3 ?_ |((refine sR (fun K kp=>?_));simp -implicitDefEqProofs (disch:=omega) only[go_sem,hx,eO,e1,k3,k5,d1];(repeat' (refine K _ ?_;clear K kp))) |refine A2 rfl ?_ |refine A1 rfl ?_ |refine A5 ?_));(refine rJ results47 ?_;refine(BS hE [0] rfl ?_ ?_).s<;>simp[A8,AY,lk,ren,renL,AA,AU,Bp])
theorem KK {l:List UInt8}(h:l≠[]):EK l= .ro true 1 (l.map AC):=by
 cases l with
 |nil=>exact(h rfl).elim
 |cons x r=>rfl
@[go_sem] theorem HH (st:AS) (l:List UInt8):FE st (EK l)=some (EK l):=by
  cases l<;>rfl
theorem LI (G:GL)(t:Bool)(l m:List UInt8):Con prog G 97 [.ro t 1 (l.map AC),EK m] [] 0 (Is (.r (.int .i64 (Lib.compareBytes l m))) [] 0) No:=by
 cases m with
 |nil=>exact(DF G t true l []).weak (by simp[Gb,wk,EK])
 |cons x r=>exact DF G t true l (x::r)
theorem Mk (G:GL)(t:Bool)(l:List UInt8)(h:l≠[])(hl:l.length≤1048576):Con prog G 98 [.ro t 1 (l.map AC)] [] 0 (Is (.ro true 1 (l.map AC)) [] 0) No:=by
 cases l with
 |nil=>exact(h rfl).elim
 |cons x r=>exact Ml G t x r (by simp at hl;omega)
theorem JX {key:ByteArray}{st:List UInt8×List UInt8}{nt:Bool}{a b c o:OP}(ho:o.k=5)(hc:nt=false->c.k≠5):CY key st (if nt then [a,b,c,o] else [a,b,c])=match Cu key nt [a,b,c] with
  |none=>st
  |some (w,v)=>(if w≤0/\Op.bytesLess st.1 (CL v)=true then CL v else st.1,if 0≤w/\(st.2=[]\/Op.bytesLess (CL v) st.2=true) then CL v else st.2):=by
 cases nt
 ·show CY key st [a,b,c]=_
  rw[CY,D8];simp only[eX,eY,if_neg (hc rfl)]
  rfl
 ·show CY key st [a,b,c,o]=_
  rw[CY,D8];simp only[eX,eY,if_pos ho]
  rfl
theorem LC {key:ByteArray}{o:OP}(h:Az key o=true):o.k=2:=by
 simp[Az] at h;exact h.1
theorem Su {o:OP}(h:Be o=true):o.k=1/\o.vk≠0:=by
 simpa[Be] using h
theorem KL {G:GL}(t:Bool)(key:ByteArray)(st:List UInt8×List UInt8)(nt:Bool)(a b c o:OP)(ho:o.k=5)(hc:nt=false->c.k≠5/\c.k≠3)
  (hno:(nt=false/\c.k≠6/\c.k≠7)\/(nt=true/\c.k≠7)\/((Az key a=false/\Az key b=false)\/(Be a=false/\Be b=false))):
  Con prog G 47 [.p 0 0 0,.r (.string key),.ro t 5 ((if nt then [a,b,c,o] else [a,b,c]).map eO)] [(0,Bp st)] 1 (Is (.tup []) [(0,Bp (CY key st (if nt then [a,b,c,o] else [a,b,c])))] 1) No:=by
 have hS:Cu key nt [a,b,c]=none:=by
  rw[Cu]
  rcases hno with ⟨rfl,h6,h7⟩ |⟨rfl,h7⟩ |⟨h1,h2⟩ |⟨h1,h2⟩
  ·simp[h6,h7]
  ·simp[h7]
  ·simp[h1,h2]
  ·have n1:a.k=1->a.vk=0:=fun h=>by
    cases h0:(a.vk !=0)
    ·simpa using h0
    ·rw[Be,h,h0] at h1;simp at h1
   have n2:b.k=1->b.vk=0:=fun h=>by
    cases h0:(b.vk !=0)
    ·simpa using h0
    ·rw[Be,h,h0] at h2;simp at h2
   repeat' split
   all_goals first |rfl |skip
   all_goals simp_all
 rw[JX ho (fun h=>(hc h).1),hS];simp only;have ic:=fun H=>CK H t [a,b] 95 [.re false [.r (.string key)] 0] (Az key) (by simp) (by simp[C0,FE]) (by simp[renL,ren]) (fun G x=>Gt false key G x);have il:=fun H=>CK H t [a,b] 96 [] Be (by simp) (by simp[C0]) (by simp[renL]) (fun G x=>Gs G x);simp only[List.map_cons,List.map_nil,eO] at ic il;refine cJ func47 fun E hG hE=>?_;subst hG;simp only[AX];have ic:=ic E.G;have il:=il E.G;cases nt
 ·obtain⟨h5,h3⟩:=hc rfl
  have k3:(c.k==3)=false:=by simpa using h3
  have k5:(c.k==5)=false:=by simpa using h5
  simp only[if_neg (show ¬(false=true) by decide),List.map_cons,List.map_nil]
  by_cases h67:c.k=6\/c.k=7
  ·have hcl:(Az key a=false/\Az key b=false)\/(Be a=false/\Be b=false):=by
    rcases hno with ⟨_,h6,h7⟩ |⟨h,_⟩ |h
    ·rcases h67 with h |h
     ·exact(h6 h).elim
     ·exact(h7 h).elim
    ·cases h
    ·exact h
   rcases h67 with h6 |h6
   all_goals
    rcases hcl with ⟨h1,h2⟩ |⟨h1,h2⟩
    ·have hI:B9 (Az key) [a,b] 0= -1:=by simp[B9,h1,h2]
     rw[hI] at ic;(repeat' (first |refine A0 ?_ |refine A3 ?_ |((first |refine sR (fun K kp=>?_) |refine cR ic ?_ |refine cR il ?_);simp only[go_sem,eO,k3,k5,h6];(repeat' (refine K _ ?_;clear K kp))) |refine A2 rfl ?_ |refine A1 rfl ?_ |refine A5 ?_));(refine rJ results47 ?_;refine(BS hE [0] rfl ?_ ?_).s<;>simp[A8,AY,lk,ren,renL,AA,AU,Bp])
    ·have hL:B9 Be [a,b] 0= -1:=by simp[B9,h1,h2]
     rw[hL] at il;cases hd:decide (B9 (Az key) [a,b] 0<0)
     all_goals
      (repeat' (first |refine A0 ?_ |refine A3 ?_ |((first |refine sR (fun K kp=>?_) |refine cR ic ?_ |refine cR il ?_);simp only[go_sem,eO,hd,k3,k5,h6];(repeat' (refine K _ ?_;clear K kp))) |refine A2 rfl ?_ |refine A1 rfl ?_ |refine A5 ?_));(refine rJ results47 ?_;refine(BS hE [0] rfl ?_ ?_).s<;>simp[A8,AY,lk,ren,renL,AA,AU,Bp])
  ·have k6:(c.k !=6)=true:=by simp;exact fun h=>h67 (.inl h)
   have k7:(c.k !=7)=true:=by simp;exact fun h=>h67 (.inr h)
   (repeat' (first |refine A0 ?_ |refine A3 ?_ |((refine sR (fun K kp=>?_));simp only[go_sem,eO,k3,k5,k6,k7];(repeat' (refine K _ ?_;clear K kp))) |refine A2 rfl ?_ |refine A1 rfl ?_ |refine A5 ?_));(refine rJ results47 ?_;refine(BS hE [0] rfl ?_ ?_).s<;>simp[A8,AY,lk,ren,renL,AA,AU,Bp])
 ·simp only[if_true,List.map_cons,List.map_nil]
  by_cases h7:c.k=7
  ·have hcl:(Az key a=false/\Az key b=false)\/(Be a=false/\Be b=false):=by
    rcases hno with ⟨h,_⟩ |⟨_,h⟩ |h
    ·cases h
    ·exact(h h7).elim
    ·exact h
   rcases hcl with ⟨h1,h2⟩ |⟨h1,h2⟩
   ·have hI:B9 (Az key) [a,b] 0= -1:=by simp[B9,h1,h2]
    rw[hI] at ic;(repeat' (first |refine A0 ?_ |refine A3 ?_ |((first |refine sR (fun K kp=>?_) |refine cR ic ?_ |refine cR il ?_);simp only[go_sem,eO,ho,h7];(repeat' (refine K _ ?_;clear K kp))) |refine A2 rfl ?_ |refine A1 rfl ?_ |refine A5 ?_));(refine rJ results47 ?_;refine(BS hE [0] rfl ?_ ?_).s<;>simp[A8,AY,lk,ren,renL,AA,AU,Bp])
   ·have hL:B9 Be [a,b] 0= -1:=by simp[B9,h1,h2]
    rw[hL] at il;cases hd:decide (B9 (Az key) [a,b] 0<0)
    all_goals
     (repeat' (first |refine A0 ?_ |refine A3 ?_ |((first |refine sR (fun K kp=>?_) |refine cR ic ?_ |refine cR il ?_);simp only[go_sem,eO,hd,ho,h7];(repeat' (refine K _ ?_;clear K kp))) |refine A2 rfl ?_ |refine A1 rfl ?_ |refine A5 ?_));(refine rJ results47 ?_;refine(BS hE [0] rfl ?_ ?_).s<;>simp[A8,AY,lk,ren,renL,AA,AU,Bp])
  ·have k7:(c.k !=7)=true:=by simpa using h7
   (repeat' (first |refine A0 ?_ |refine A3 ?_ |((refine sR (fun K kp=>?_));simp only[go_sem,eO,ho,k7];(repeat' (refine K _ ?_;clear K kp))) |refine A2 rfl ?_ |refine A1 rfl ?_ |refine A5 ?_));(refine rJ results47 ?_;refine(BS hE [0] rfl ?_ ?_).s<;>simp[A8,AY,lk,ren,renL,AA,AU,Bp])
theorem U5 {G:GL}(HR:Ch G)(t:Bool)(key:ByteArray)(lo hi:List UInt8)(nt:Bool)(a b c o:OP)(ho:o.k=5)(hk:(c.k=6/\nt=false)\/c.k=7)(h1:Az key a=true)(h2:Be b=true)(hgy:gV (Aw b))(hvy:AW b.vk b.vn b.vs=0):
  Con prog G 47 [.p 0 0 0,.r (.string key),.ro t 5 ((if nt then [a,b,c,o] else [a,b,c]).map eO)] [(0,Bp (lo,hi))] 1 (Is (.tup []) [(0,Bp (CY key (lo,hi) (if nt then [a,b,c,o] else [a,b,c])))] 1) No:=by
 have kx:=LC h1;obtain⟨ky,ny⟩:=Su h2
 have l1:Be a=false:=by simp[Be,kx]
 have c1:Az key b=false:=by simp[Az,ky]
 have hS:Cu key nt [a,b,c]=some (if c.k=6 then 0 else if nt=false then 1 else -1,Aw b):=by
  rw[Cu]
  rcases hk with ⟨h6,rfl⟩ |h7
  ·simp[h1,c1,ky,kx,ny,h6]
  ·cases nt<;>simp[h1,c1,ky,kx,ny,h7]
 rw[JX ho (fun _=>by rcases hk with h |h<;>omega),hS];simp only;have hc:=fun H=>GJ (G:=H) (t:=false) (l:=[Aw b])
 have hI:B9 (Az key) [a,b] 0=0:=by simp[B9,h1,c1]
 have hL:B9 Be [a,b] 0=1:=by simp[B9,h2,l1]
 have ic:=fun H=>CK H t [a,b] 95 [.re false [.r (.string key)] 0] (Az key) (by simp) (by simp[C0,FE]) (by simp[renL,ren]) (fun G x=>Gt false key G x);have il:=fun H=>CK H t [a,b] 96 [] Be (by simp) (by simp[C0]) (by simp[renL]) (fun G x=>Gs G x);simp only[hI,hL] at ic il;simp only[List.map_cons,List.map_nil,eO] at ic il;have hlen:=Dg (v:=Aw b) hvy;obtain⟨kb,hkb⟩: ∃kb,CL (Aw b)=kb:=⟨_,rfl⟩
 have hne:kb≠[]:=by rw[<-hkb];simp[CL]
 rw[hkb] at hlen;rw[hkb];have hkn:=KK hne;refine cJ func47 fun E hG hE=>?_;subst hG;simp only[AX];have ic:=ic E.G;have il:=il E.G;have hc:=hc E.G HR (by simp) (fun v hv=>by simp only[aW] at hv;subst hv;exact hgy);rw[LF (v:=Aw b) hvy,hkb] at hc;simp only[List.map_cons,List.map_nil,FW,eV,Aw] at hc;have kc:=Mk E.G true kb hne (by omega);have bl:=LI E.G true kb lo;have bh:=LI E.G true kb hi;have g1:=WB kb lo;have g3:=WA kb hi
 by_cases hz:hi=[]
 ·subst hz
  have hzn:EK []= .r (.slice none 0 0):=rfl;rw[hzn] at bh;cases hb1:Op.bytesLess lo kb
  all_goals
   rw[hb1] at g1
   rcases hk with ⟨h6,rfl⟩ |h7
   ·simp only[if_neg (show ¬(false=true) by decide),List.map_cons,List.map_nil]
    (repeat' (first |refine A0 ?_ |refine A3 ?_ |((first |refine sR (fun K kp=>?_) |refine cR ic ?_ |refine cR il ?_ |refine cR hc ?_ |refine cR kc ?_ |refine cR bl ?_);simp -implicitDefEqProofs (disch:=omega) only[go_sem,eO,h6,kx,ky,Bp,HH,g1,hzn];(repeat' (refine K _ ?_;clear K kp))) |refine A2 rfl ?_ |refine A1 rfl ?_));refine C1 ?_;(refine rJ results47 ?_;refine(BS hE [0] rfl ?_ ?_).s<;>simp[A8,AY,lk,ren,renL,AA,AU,Bp,hkn,hb1,h6,hzn])
   ·cases nt
    all_goals
     simp only[if_neg (show ¬(false=true) by decide),if_true,List.map_cons,List.map_nil];(repeat' (first |refine A0 ?_ |refine A3 ?_ |((first |refine sR (fun K kp=>?_) |refine cR ic ?_ |refine cR il ?_ |refine cR hc ?_ |refine cR kc ?_ |refine cR bl ?_);simp -implicitDefEqProofs (disch:=omega) only[go_sem,eO,h7,ho,kx,ky,Bp,HH,g1,hzn];(repeat' (refine K _ ?_;clear K kp))) |refine A2 rfl ?_ |refine A1 rfl ?_));refine C1 ?_;(refine rJ results47 ?_;refine(BS hE [0] rfl ?_ ?_).s<;>simp[A8,AY,lk,ren,renL,AA,AU,Bp,hkn,hb1,h7,hzn])
 ·have g2:((hi.length:Int)==0)=false:=by simp[hz]
  have hzn:=KK hz;rw[hzn] at bh;cases hb1:Op.bytesLess lo kb
  all_goals
   rw[hb1] at g1;cases hb3:Op.bytesLess kb hi
   all_goals
    rw[hb3] at g3
    rcases hk with ⟨h6,rfl⟩ |h7
    ·simp only[if_neg (show ¬(false=true) by decide),List.map_cons,List.map_nil]
     (repeat' (first |refine A0 ?_ |refine A3 ?_ |((first |refine sR (fun K kp=>?_) |refine cR ic ?_ |refine cR il ?_ |refine cR hc ?_ |refine cR kc ?_ |refine cR bl ?_ |refine cR bh ?_);simp -implicitDefEqProofs (disch:=omega) only[go_sem,eO,h6,kx,ky,Bp,HH,g1,g2,g3,hzn];(repeat' (refine K _ ?_;clear K kp))) |refine A2 rfl ?_ |refine A1 rfl ?_));refine C1 ?_;(refine rJ results47 ?_;refine(BS hE [0] rfl ?_ ?_).s<;>simp[A8,AY,lk,ren,renL,AA,AU,Bp,hkn,hb1,h6,hz,hb3,hzn])
    ·cases nt
     all_goals
      simp only[if_neg (show ¬(false=true) by decide),if_true,List.map_cons,List.map_nil];(repeat' (first |refine A0 ?_ |refine A3 ?_ |((first |refine sR (fun K kp=>?_) |refine cR ic ?_ |refine cR il ?_ |refine cR hc ?_ |refine cR kc ?_ |refine cR bl ?_ |refine cR bh ?_);simp -implicitDefEqProofs (disch:=omega) only[go_sem,eO,h7,ho,kx,ky,Bp,HH,g1,g2,g3,hzn];(repeat' (refine K _ ?_;clear K kp))) |refine A2 rfl ?_ |refine A1 rfl ?_));refine C1 ?_;(refine rJ results47 ?_;refine(BS hE [0] rfl ?_ ?_).s<;>simp[A8,AY,lk,ren,renL,AA,AU,Bp,hkn,hb1,h7,hz,hb3,hzn])
theorem U4 {G:GL}(HR:Ch G)(t:Bool)(key:ByteArray)(lo hi:List UInt8)(nt:Bool)(a b c o:OP)(ho:o.k=5)(hk:(c.k=6/\nt=false)\/c.k=7)(h1:Az key b=true)(h2:Be a=true)(hgy:gV (Aw a))(hvy:AW a.vk a.vn a.vs=0):
  Con prog G 47 [.p 0 0 0,.r (.string key),.ro t 5 ((if nt then [a,b,c,o] else [a,b,c]).map eO)] [(0,Bp (lo,hi))] 1 (Is (.tup []) [(0,Bp (CY key (lo,hi) (if nt then [a,b,c,o] else [a,b,c])))] 1) No:=by
 have kx:=LC h1;obtain⟨ky,ny⟩:=Su h2
 have l1:Be b=false:=by simp[Be,kx]
 have c1:Az key a=false:=by simp[Az,ky]
 have hS:Cu key nt [a,b,c]=some (if c.k=6 then 0 else if nt=true then 1 else -1,Aw a):=by
  rw[Cu]
  rcases hk with ⟨h6,rfl⟩ |h7
  ·simp[h1,c1,ky,kx,ny,h6]
  ·cases nt<;>simp[h1,c1,ky,kx,ny,h7]
 rw[JX ho (fun _=>by rcases hk with h |h<;>omega),hS];simp only;have hc:=fun H=>GJ (G:=H) (t:=false) (l:=[Aw a])
 have hI:B9 (Az key) [a,b] 0=1:=by simp[B9,h1,c1]
 have hL:B9 Be [a,b] 0=0:=by simp[B9,h2,l1]
 have ic:=fun H=>CK H t [a,b] 95 [.re false [.r (.string key)] 0] (Az key) (by simp) (by simp[C0,FE]) (by simp[renL,ren]) (fun G x=>Gt false key G x);have il:=fun H=>CK H t [a,b] 96 [] Be (by simp) (by simp[C0]) (by simp[renL]) (fun G x=>Gs G x);simp only[hI,hL] at ic il;simp only[List.map_cons,List.map_nil,eO] at ic il;have hlen:=Dg (v:=Aw a) hvy;obtain⟨kb,hkb⟩: ∃kb,CL (Aw a)=kb:=⟨_,rfl⟩
 have hne:kb≠[]:=by rw[<-hkb];simp[CL]
 rw[hkb] at hlen;rw[hkb];have hkn:=KK hne;refine cJ func47 fun E hG hE=>?_;subst hG;simp only[AX];have ic:=ic E.G;have il:=il E.G;have hc:=hc E.G HR (by simp) (fun v hv=>by simp only[aW] at hv;subst hv;exact hgy);rw[LF (v:=Aw a) hvy,hkb] at hc;simp only[List.map_cons,List.map_nil,FW,eV,Aw] at hc;have kc:=Mk E.G true kb hne (by omega);have bl:=LI E.G true kb lo;have bh:=LI E.G true kb hi;have g1:=WB kb lo;have g3:=WA kb hi
 by_cases hz:hi=[]
 ·subst hz
  have hzn:EK []= .r (.slice none 0 0):=rfl;rw[hzn] at bh;cases hb1:Op.bytesLess lo kb
  all_goals
   rw[hb1] at g1
   rcases hk with ⟨h6,rfl⟩ |h7
   ·simp only[if_neg (show ¬(false=true) by decide),List.map_cons,List.map_nil]
    (repeat' (first |refine A0 ?_ |refine A3 ?_ |((first |refine sR (fun K kp=>?_) |refine cR ic ?_ |refine cR il ?_ |refine cR hc ?_ |refine cR kc ?_ |refine cR bl ?_);simp -implicitDefEqProofs (disch:=omega) only[go_sem,eO,h6,kx,ky,Bp,HH,g1,hzn];(repeat' (refine K _ ?_;clear K kp))) |refine A2 rfl ?_ |refine A1 rfl ?_));refine C1 ?_;(refine rJ results47 ?_;refine(BS hE [0] rfl ?_ ?_).s<;>simp[A8,AY,lk,ren,renL,AA,AU,Bp,hkn,hb1,h6,hzn])
   ·cases nt
    all_goals
     simp only[if_neg (show ¬(false=true) by decide),if_true,List.map_cons,List.map_nil];(repeat' (first |refine A0 ?_ |refine A3 ?_ |((first |refine sR (fun K kp=>?_) |refine cR ic ?_ |refine cR il ?_ |refine cR hc ?_ |refine cR kc ?_ |refine cR bl ?_);simp -implicitDefEqProofs (disch:=omega) only[go_sem,eO,h7,ho,kx,ky,Bp,HH,g1,hzn];(repeat' (refine K _ ?_;clear K kp))) |refine A2 rfl ?_ |refine A1 rfl ?_));refine C1 ?_;(refine rJ results47 ?_;refine(BS hE [0] rfl ?_ ?_).s<;>simp[A8,AY,lk,ren,renL,AA,AU,Bp,hkn,hb1,h7,hzn])
 ·have g2:((hi.length:Int)==0)=false:=by simp[hz]
  have hzn:=KK hz;rw[hzn] at bh;cases hb1:Op.bytesLess lo kb
  all_goals
   rw[hb1] at g1;cases hb3:Op.bytesLess kb hi
   all_goals
    rw[hb3] at g3
    rcases hk with ⟨h6,rfl⟩ |h7
    ·simp only[if_neg (show ¬(false=true) by decide),List.map_cons,List.map_nil]
     (repeat' (first |refine A0 ?_ |refine A3 ?_ |((first |refine sR (fun K kp=>?_) |refine cR ic ?_ |refine cR il ?_ |refine cR hc ?_ |refine cR kc ?_ |refine cR bl ?_ |refine cR bh ?_);simp -implicitDefEqProofs (disch:=omega) only[go_sem,eO,h6,kx,ky,Bp,HH,g1,g2,g3,hzn];(repeat' (refine K _ ?_;clear K kp))) |refine A2 rfl ?_ |refine A1 rfl ?_));refine C1 ?_;(refine rJ results47 ?_;refine(BS hE [0] rfl ?_ ?_).s<;>simp[A8,AY,lk,ren,renL,AA,AU,Bp,hkn,hb1,h6,hz,hb3,hzn])
    ·cases nt
     all_goals
      simp only[if_neg (show ¬(false=true) by decide),if_true,List.map_cons,List.map_nil];(repeat' (first |refine A0 ?_ |refine A3 ?_ |((first |refine sR (fun K kp=>?_) |refine cR ic ?_ |refine cR il ?_ |refine cR hc ?_ |refine cR kc ?_ |refine cR bl ?_ |refine cR bh ?_);simp -implicitDefEqProofs (disch:=omega) only[go_sem,eO,h7,ho,kx,ky,Bp,HH,g1,g2,g3,hzn];(repeat' (refine K _ ?_;clear K kp))) |refine A2 rfl ?_ |refine A1 rfl ?_));refine C1 ?_;(refine rJ results47 ?_;refine(BS hE [0] rfl ?_ ?_).s<;>simp[A8,AY,lk,ren,renL,AA,AU,Bp,hkn,hb1,h7,hz,hb3,hzn])
theorem Iw {G:GL}(HR:Ch G)(t:Bool)(key:ByteArray)(st:List UInt8×List UInt8)(nt:Bool)(a b c o:OP)(ho:o.k=5)(hc:nt=false->c.k≠5/\c.k≠3)(hg:okL [a,b]):
  Con prog G 47 [.p 0 0 0,.r (.string key),.ro t 5 ((if nt then [a,b,c,o] else [a,b,c]).map eO)] [(0,Bp st)] 1 (Is (.tup []) [(0,Bp (CY key st (if nt then [a,b,c,o] else [a,b,c])))] 1) No:=by
 obtain⟨ga,va⟩:=hg a (by simp);obtain⟨gb,vb⟩:=hg b (by simp);obtain⟨lo,hi⟩:=st
 by_cases hk:(c.k=6/\nt=false)\/c.k=7
 ·by_cases h1:Az key a=true/\Be b=true
  ·exact U5 HR t key lo hi nt a b c o ho hk h1.1 h1.2 gb vb
  by_cases h2:Az key b=true/\Be a=true
  ·exact U4 HR t key lo hi nt a b c o ho hk h2.1 h2.2 ga va
  refine KL t key (lo,hi) nt a b c o ho hc (.inr (.inr ?_));cases ca:Az key a
  ·cases cb:Az key b
   ·exact .inl ⟨rfl,rfl⟩
   ·have lb:Be b=false:=by have:=LC cb;simp[Be,this]
    refine .inr ⟨?_,lb⟩;cases la:Be a
    ·rfl
    ·exact(h2 ⟨cb,la⟩).elim
  ·have la:Be a=false:=by have:=LC ca;simp[Be,this]
   refine .inr ⟨la,?_⟩;cases lb:Be b
   ·rfl
   ·exact(h1 ⟨ca,lb⟩).elim
 ·refine KL t key (lo,hi) nt a b c o ho hc ?_
  have h7:c.k≠7:=fun h=>hk (.inr h);cases nt
  ·exact .inl ⟨rfl,fun h=>hk (.inl ⟨h,rfl⟩),h7⟩
  ·exact .inr (.inl ⟨rfl,h7⟩)
theorem Gr {G:GL}(HR:Ch G)(t:Bool)(key:ByteArray)(st:List UInt8×List UInt8)(ops:List OP)(n:Nat)(o:OP)(hn:ops.length=n+1)(hx:ops[n]?=some o)(h3:o.k≠3)(hl:n≤1000)(hg:okL ops):
  Con prog G 47 [.p 0 0 0,.r (.string key),.ro t 5 (ops.map eO)] [(0,Bp st)] 1 (Is (.tup []) [(0,Bp (CY key st ops))] 1) No:=by
 by_cases h5:o.k=5
 ·by_cases h:n=3
  ·subst h
   match ops,hn,hx with
   | [a,b,c,d],_,hx=>
     obtain rfl:d=o:=by simpa using hx
     exact Iw HR t key st true a b c d h5 (fun h=>by cases h) (fun x hx=>hg x (by simp at hx ⊢;rcases hx with rfl |rfl<;>simp))
  ·exact Iy t key st ops n o hn hx h3 hl (by rw[if_pos h5];exact h)
 ·by_cases h:n=2
  ·subst h
   match ops,hn,hx with
   | [a,b,c],_,hx=>
     obtain rfl:c=o:=by simpa using hx
     exact Iw HR t key st false a b c ⟨5,0,0,⟨#[]⟩,⟨#[]⟩⟩ rfl (fun _=>⟨h5,h3⟩) (fun x hx=>hg x (by simp at hx ⊢;rcases hx with rfl |rfl<;>simp))
  ·exact Iy t key st ops n o hn hx h3 hl (by rw[if_neg h5];exact h)
theorem IL {G:GL}(HR:Ch G)(t:Bool)(key:ByteArray): ∀(tr:RT OP)(st:List UInt8×List UInt8),tr.wf BN->(∀o ∈ tr.flat,1≤o.k/\o.k≤11)->okL tr.flat->tr.flat.length≤1000->
  Con prog G 47 [.p 0 0 0,.r (.string key),.ro t 5 (tr.flat.map eO)] [(0,Bp st)] 1 (Is (.tup []) [(0,Bp (CM key st tr))] 1) No
 | .l o,st,hw,hk,hg,hn=>by
   have k0:=hk o (by simp[RT.flat]);have:CM key st (.l o)=CY key st (RT.l o).flat:=rfl;rw[this];exact Gr HR t key st _ 0 o (by simp[RT.flat]) (by simp[RT.flat]) (by rcases(I9 k0.1 k0.2).1 hw with h |h<;>omega) (by omega) hg
 | .u o s,st,hw,hk,hg,hn=>by
   have k0:=hk o (by simp[RT.flat]);have:CM key st (.u o s)=CY key st (RT.u o s).flat:=rfl;rw[this];exact Gr HR t key st _ s.flat.length o (by simp[RT.flat]) (by simp[RT.flat]) (by rcases(I9 k0.1 k0.2).2.1 hw.1 with h |h<;>omega) (by simp[RT.flat] at hn;omega) hg
 | .b o p q,st,hw,hk,hg,hn=>by
   obtain⟨hw1,hw2,hw3⟩:=hw;obtain⟨k1,k11⟩:=hk o (by simp[RT.flat])
   have hln0:(RT.b o p q).flat.length=p.flat.length+q.flat.length+1:=by simp[RT.flat];omega
   by_cases h3:o.k=3
   ·have hB:CM key st (.b o p q)=CM key (CM key st p) q:=by
     rw[CM,BD,if_pos h3,List.foldl_append];rfl
    rw[hB];have ihp:=IL HR t key p st hw2 (fun x hx=>hk x (by simp[RT.flat,hx])) (fun x hx=>hg x (by simp[RT.flat,hx])) (by omega);have ihq:=IL HR t key q (CM key st p) hw3 (fun x hx=>hk x (by simp[RT.flat,hx])) (fun x hx=>hg x (by simp[RT.flat,hx])) (by omega);obtain⟨ops,hops⟩: ∃ops,ops=(RT.b o p q).flat:=⟨_,rfl⟩;rw[<-hops];obtain⟨m,hme⟩: ∃m,m=p.flat.length:=⟨_,rfl⟩;obtain⟨n,hne⟩: ∃n,n=p.flat.length+q.flat.length:=⟨_,rfl⟩
    have hln:ops.length=n+1:=by rw[hops,hne];simp[RT.flat];omega
    have hx:ops[n]?=some o:=by rw[hops,hne,<-List.length_append];simp only[RT.flat];exact dG
    have htk:ops.take n=p.flat++q.flat:=by rw[hops,hne,<-List.length_append];simp only[RT.flat];exact gB
    have htm:ops.take m=p.flat:=by rw[hops,hme];simp[RT.flat]
    have e1:(ops.length:Int) - 1=(n:Nat):=by omega
    have hle:n≤1000:=by rw[<-hops] at hn;omega
    have hmr:p.flat.map eO=(ops.map eO).take m:=by rw[<-List.map_take,htm]
    have hms:q.flat.map eO=((ops.map eO).take n).drop m:=by rw[<-List.map_take,<-List.map_drop,htk,hme];simp
    rw[hmr] at ihp;rw[hms] at ihq
    have hbe:Hq BN ops n=m:=by rw[hops,hne,hme];have:=Hk (ar:=BN) p.flat q [o] hw3;simpa[RT.flat] using this
    have bc:=Qj G t ops n (by rw[hops];exact hn) (by omega) (by rw[hops];exact hk) (by
     intro i k hi hc
     rcases gA i with rfl |h0
     ·exfalso
      have hp:=RT.flat_pos p;unfold Hq at hbe;simp only[List.take_zero,eR,cnt,Nat.add_zero,Nat.sub_zero] at hc;omega
     ·exact h0)
    rw[hbe] at bc;refine cJ func47 fun E hG hE=>?_;subst hG;simp only[AX];(repeat' (first |refine A0 ?_ |((first |refine sR (fun K kp=>?_) |refine sI (id:=4) mixed 5 (fun K kp=>?_) |refine cR bc ?_);simp -implicitDefEqProofs (disch:=omega) only[go_sem,hx,eO,e1,h3];(repeat' (refine K _ ?_;clear K kp))) |refine A2 rfl ?_));refine Ek [0] ihp ?_ ?_ ?_ ?_ ?_ ?_ ?_ ?_ rfl rfl ?_
    ·simp[Gl,L3,Qq]
    ·simp[AY,lk,Bp,AA,renL,AU]
    ·intro i hi
     obtain rfl:i=0:=by simp at hi;omega
     exact⟨_,rfl⟩
    ·simp
    ·simp
    ·simp
    ·simp
    ·simp[Bp]
    simp only[DA,fw,N_,rm,List.map_cons,List.map_nil,List.foldl_cons,List.foldl_nil,List.getElem?_cons_zero,List.length_cons,List.length_nil,Nat.zero_add,eF,Nat.add_zero,if_true,if_neg (show ¬1=0 by decide),List.cons_append,List.nil_append,ren,renL,AA,Bp,RF];(simp -implicitDefEqProofs (disch:=omega) only[go_sem];(repeat' (refine K _ ?_;clear K kp)));(repeat' (first |refine A0 ?_ |((refine sI (id:=5) mixed 6 (fun K kp=>?_));simp -implicitDefEqProofs (disch:=omega) only[go_sem,hx,eO,e1,h3];(repeat' (omega)))));refine Ek [0] ihq ?_ ?_ ?_ ?_ ?_ ?_ ?_ ?_ rfl rfl ?_
    ·simp[Gl,L3,Qq]
    ·simp[AY,lk,Bp,AA,renL,AU]
    ·intro i hi
     obtain rfl:i=0:=by simp at hi;omega
     exact⟨_,rfl⟩
    ·simp
    ·simp
    ·simp
    ·simp
    ·simp[Bp]
    simp only[DA,fw,N_,rm,List.map_cons,List.map_nil,List.foldl_cons,List.foldl_nil,List.getElem?_cons_zero,List.length_cons,List.length_nil,Nat.zero_add,eF,Nat.add_zero,if_true,if_neg (show ¬1=0 by decide),List.cons_append,List.nil_append,ren,renL,AA,Bp,RF];(simp -implicitDefEqProofs (disch:=omega) only[go_sem];(repeat' (refine K _ ?_;clear K kp)));(repeat' (refine A5 ?_));(refine rJ results47 ?_;refine(BS hE [0] rfl ?_ ?_).s<;>simp[A8,AY,lk,ren,renL,AA,AU,Bp])
   ·have:CM key st (.b o p q)=CY key st (RT.b o p q).flat:=by rw[CM,BD,if_neg h3];rfl
    rw[this];exact Gr HR t key st _ (p.flat.length+q.flat.length) o hln0 (by simp only[RT.flat];rw[<-List.length_append];exact dG) h3 (by omega) hg
open Go.Proofs.YtmohnlbeiaifhaaGreatDoor (OP AH Bc AZ B0 DN BR)
theorem Rq {l:List CO}{tr:RT OP}(h:tr.wf BN):Nz (D4 BN (Ac l) 0 tr.flat [])=A_ (Fr (Ac l) 0 tr):=by
 have:=F5 BN (Ac l) 0 tr [] [] h;rw[List.append_nil] at this;rw[this]
 cases Fr (Ac l) 0 tr<;>rfl
theorem Vx {tr:RT OP}{ops:List OP}(he:AZ ops=0):hgt BN ops 0=some 1:=by
 unfold AZ at he;split at he
 ·cases he
 ·exact FO ops 0 he
theorem Q8 (G:GL)(t:Bool)(l:List CO)(ops:List OP)(tr:RT OP)(hl:l.length≤1048576)(he:AZ ops=0)(hw:tr.wf BN)(hf:tr.flat=ops):
  Con prog G 92 [.ro true 2 (l.map eC),.ro t 5 (ops.map eO)] [] 0 (Is (A_ (Fr (Ac l) 0 tr)) [] 0) No:=by
 obtain⟨h40,hk,_⟩:=CU he;refine cJ func92 fun E hG hE=>?_;subst hG;simp only[AX];have fc:=Vs E.G false t l ops hl h40 (fun o ho=>⟨(hk o ho).1,(hk o ho).2.1⟩) (Vx (tr:=tr) he);rw[<-hf,Rq hw,hf] at fc
 cases hm:Fr (Ac l) 0 tr with
 |error e=>
  rw[hm] at fc;simp only[A_] at fc ⊢;(repeat' (first |refine A0 ?_ |((first |refine sR (fun K kp=>?_) |refine cR fc ?_);simp -implicitDefEqProofs (disch:=omega) only[go_sem];(repeat' (refine K _ ?_;clear K kp))) |refine A5 ?_));(refine rJ results92 ?_;exact eQ hE)
 |ok k=>
  rw[hm] at fc;simp only[A_] at fc ⊢;(repeat' (first |refine A0 ?_ |((first |refine sR (fun K kp=>?_) |refine cR fc ?_);simp -implicitDefEqProofs (disch:=omega) only[go_sem];(repeat' (refine K _ ?_;clear K kp))) |refine A5 ?_));(refine rJ results92 ?_;exact eQ hE)
def EH (l:List CO)(ops:List OP):Int:=if Ag l≠0 then Ag l else AZ ops
theorem Qe {G:GL}(T:Tabs G)(l:List CO)(ops:List OP)(hl:l.length≤1048576)(ho:ops.length≤1048576)(hs: ∀c ∈ l,FG c.nm)(hv: ∀o ∈ ops,IK o):Con prog G 91 [.ro true 2 (l.map eC),.ro true 5 (ops.map eO)] [] 0 (Is (.r (.int .i64 (EH l ops))) [] 0) No:=by
 refine cJ func91 fun E hG hE=>?_;subst hG;simp only[AX];have cc:=Ea T true l hl hs;have ec:=F6 T true ops ho hv
 by_cases h0:Ag l=0
 ·rw[h0] at cc
  (repeat' (first |refine A0 ?_ |refine A3 ?_ |((first |refine sR (fun K kp=>?_) |refine cR cc ?_ |refine cR ec ?_);simp -implicitDefEqProofs (disch:=omega) only[go_sem];(repeat' (refine K _ ?_;clear K kp))) |refine A1 rfl ?_ |refine A5 ?_));(refine rJ results91 ?_;refine eN hE ?_;simp[A8,ren,renL,EH,h0])
 ·have b0:(Ag l !=0)=true:=by simpa using h0
  (repeat' (first |refine A0 ?_ |((first |refine sR (fun K kp=>?_) |refine cR cc ?_);simp -implicitDefEqProofs (disch:=omega) only[go_sem,b0];(repeat' (refine K _ ?_;clear K kp))) |refine A2 rfl ?_ |refine A5 ?_));(refine rJ results91 ?_;refine eN hE ?_;simp[A8,ren,renL,EH,h0])
def Bm (l:List CO)(ops:List OP)(tr:RT OP):Except Int Int:=if EH l ops≠0 then .error (EH l ops) else Fr (Ac l) 0 tr
theorem Q7 {G:GL}(T:Tabs G)(l:List CO)(ops:List OP)(tr:RT OP)(hl:l.length≤1048576)(ho:ops.length≤1048576)(hs: ∀c ∈ l,FG c.nm)(hv: ∀o ∈ ops,IK o)(ht:AZ ops=0->tr.wf BN/\tr.flat=ops):
  Con prog G 45 [.ro true 2 (l.map eC),.ro true 5 (ops.map eO)] [] 0 (Is (A_ (Bm l ops tr)) [] 0) No:=by
 refine cJ func45 fun E hG hE=>?_;subst hG;simp only[AX];have cc:=Qe T l ops hl ho hs hv
 by_cases h0:EH l ops=0
 ·rw[h0] at cc
  have he:AZ ops=0:=by
   unfold EH at h0;split at h0
   ·rename_i h;exact(h h0).elim
   ·exact h0
  obtain⟨hw,hf⟩:=ht he;have kc:=Q8 E.G true l ops tr hl he hw hf
  have hR:Bm l ops tr=Fr (Ac l) 0 tr:=by rw[Bm,if_neg (by simpa using h0)]
  rw[hR]
  cases hm:Fr (Ac l) 0 tr with
  |error e=>
   rw[hm] at kc;simp only[A_] at kc ⊢;(repeat' (first |refine A0 ?_ |refine A3 ?_ |((first |refine sR (fun K kp=>?_) |refine cR cc ?_ |refine cR kc ?_);simp -implicitDefEqProofs (disch:=omega) only[go_sem];(repeat' (refine K _ ?_;clear K kp))) |refine A1 rfl ?_ |refine A5 ?_));(refine rJ results45 ?_;exact eQ hE)
  |ok k=>
   rw[hm] at kc;simp only[A_] at kc ⊢;(repeat' (first |refine A0 ?_ |refine A3 ?_ |((first |refine sR (fun K kp=>?_) |refine cR cc ?_ |refine cR kc ?_);simp -implicitDefEqProofs (disch:=omega) only[go_sem];(repeat' (refine K _ ?_;clear K kp))) |refine A1 rfl ?_ |refine A5 ?_));(refine rJ results45 ?_;exact eQ hE)
 ·have b0:(EH l ops !=0)=true:=by simpa using h0
  have hR:Bm l ops tr= .error (EH l ops):=by rw[Bm,if_pos h0]
  rw[hR];simp only[A_];(repeat' (first |refine A0 ?_ |((first |refine sR (fun K kp=>?_) |refine cR cc ?_);simp -implicitDefEqProofs (disch:=omega) only[go_sem,b0];(repeat' (refine K _ ?_;clear K kp))) |refine A2 rfl ?_ |refine A5 ?_));(refine rJ results45 ?_;exact eQ hE)
end Go.AM
namespace Go.AM
open Go Go.RowKit
open Go.Proofs.YtmohnlbeiaifhaaGreatDoor (OP AH Bc AZ B0 DN BR)
theorem MA {l:List CO}{ops:List OP}{tr:RT OP}{k:Int}(h:Bm l ops tr= .ok k):AZ ops=0/\Fr (Ac l) 0 tr= .ok k:=by
 unfold Bm at h;split at h
 ·cases h
 ·rename_i h0
  refine⟨?_,h⟩
  have h0:EH l ops=0:=by simpa using h0
  unfold EH at h0;split at h0
  ·rename_i h;exact(h h0).elim
  ·exact h0
theorem Jm {l:List CO}{ops:List OP}{tr:RT OP}{e:Int}(h:Bm l ops tr= .error e):e≠0:=by
 unfold Bm at h;split at h
 ·cases h;assumption
 ·exact FP h
open Go.Proofs.YtmohnlbeiaifhaaGreatDoor (OP AH Bc AZ B0 DN BR AW)
attribute [local irreducible] AWP DU
def AN (l:List CO)(ops:List OP)(tr:RT OP):Except Int (List UInt8×List UInt8):=
 if Ag l≠0 then .error (Ag l) else match ops with
 | []=> .ok ([],[])
 |_::_=>match Bm l ops tr with
  | .error e=> .error e
  | .ok k=>if k≠1/\k≠0 then .error 4 else match l with
    | []=> .error 4
    |c::_=> .ok (CM c.nm ([],[]) tr)
def CG:Except Int (List UInt8×List UInt8)->AV
 | .error e=> .tup [.r (.slice none 0 0),.r (.slice none 0 0),.r (.int .i64 e)]
 | .ok (a,b)=> .tup [EK a,EK b,.r (.int .i64 0)]
theorem Ha {k n:Int}{s:ByteArray}(h:Bc k n s=0):AW k n s=0:=by
 unfold Bc at h;split at h
 ·cases h
 ·exact h
theorem Fu {l:List CO}(h:Ag l=0): ∃c r,l=c::r:=by
 cases l with
 |nil=>simp[Ag] at h
 |cons c r=>exact⟨c,r,rfl⟩
theorem GQ {G:GL}(T:Tabs G)(HR:Ch G)(l:List CO)(ops:List OP)(tr:RT OP)(hl:l.length≤1048576)(ho:ops.length≤1048576)(hs: ∀c ∈ l,FG c.nm)(hv: ∀o ∈ ops,IK o)(hgo: ∀o ∈ ops,gV ⟨o.vk,o.vn,o.vs⟩)(ht:AZ ops=0->tr.wf BN/\tr.flat=ops):
  Con prog G 17 [.ro true 2 (l.map eC),.ro true 5 (ops.map eO)] [] 0 (Is (CG (AN l ops tr)) [] 0) No:=by
 refine cJ func17 fun E hG hE=>?_;subst hG;simp only[AX];have cc:=Ea T true l hl hs
 by_cases h0:Ag l=0
 ·rw[h0] at cc
  obtain⟨c,r,hlc⟩:=Fu h0
  by_cases hz:ops=[]
  ·have hR:AN l ops tr= .ok ([],[]):=by unfold AN;rw[if_neg (by simpa using h0),hz]
   rw[hR];simp only[CG,EK];subst hz;(repeat' (first |refine A0 ?_ |refine A3 ?_ |((first |refine sR (fun K kp=>?_) |refine cR cc ?_);simp only[go_sem];(repeat' (refine K _ ?_;clear K kp))) |refine A2 rfl ?_ |refine A1 rfl ?_ |refine A5 ?_));(refine rJ results17 ?_;exact eQ hE)
  ·have d1:((ops.length:Int)==0)=false:=by simp;exact hz
   have hR:AN l ops tr=match Bm l ops tr with
    | .error e=> .error e
    | .ok k=>if k≠1/\k≠0 then .error 4 else .ok (CM c.nm ([],[]) tr):=by
    unfold AN;rw[if_neg (by simpa using h0),hlc]
    cases ops with
    |nil=>exact(hz rfl).elim
    |cons x y=>rfl
   have kc:=Q7 T l ops tr hl ho hs hv ht
   cases hm:Bm l ops tr with
   |error e=>
    have he:(e !=0)=true:=by simp[Jm hm]
    rw[hm] at kc hR;rw[hR];simp only[A_,CG] at kc ⊢;(repeat' (first |refine A0 ?_ |refine A3 ?_ |((first |refine sR (fun K kp=>?_) |refine cR cc ?_ |refine cR kc ?_);simp only[go_sem,d1,he];(repeat' (refine K _ ?_;clear K kp))) |refine A2 rfl ?_ |refine A1 rfl ?_ |refine A5 ?_));(refine rJ results17 ?_;exact eQ hE)
   |ok k=>
    obtain⟨e1,e2⟩:=MA hm;obtain⟨hw,hf⟩:=ht e1;obtain⟨h40,hk,_⟩:=CU e1;rw[hm] at kc hR;simp only[A_] at kc hR
    by_cases hkk:k=1\/k=0
    ·have hR2:AN l ops tr= .ok (CM c.nm ([],[]) tr):=by rw[hR,if_neg (by rcases hkk with h |h<;>simp[h])]
     have nc:=IL HR true c.nm tr ([],[]) hw (by rw[hf];exact fun o ho=>⟨(hk o ho).1,(hk o ho).2.1⟩) (by rw[hf];exact fun o ho=>⟨hgo o ho,Ha (hk o ho).2.2.1⟩) (by rw[hf];omega);rw[hf] at nc;rw[hR2];obtain⟨lo,hi,hlh⟩: ∃lo hi,CM c.nm ([],[]) tr=(lo,hi):=⟨_,_,rfl⟩;rw[hlh] at nc ⊢;simp only[CG];subst hlc
     rcases hkk with rfl |rfl
     all_goals
      (repeat' (first |refine A0 ?_ |refine A3 ?_ |((first |refine sR (fun K kp=>?_) |refine cR cc ?_ |refine cR kc ?_);simp only[go_sem,d1,eC];(repeat' (refine K _ ?_;clear K kp))) |refine A1 rfl ?_));refine Ek [0] nc ?_ ?_ ?_ ?_ ?_ ?_ ?_ ?_ rfl rfl ?_
      ·simp[Gl,L3,Qq]
      ·simp[AY,lk,Bp,AA,renL,ren,AU,EK]
      ·intro i hi
       obtain rfl:i=0:=by simp at hi;omega
       exact⟨_,rfl⟩
      ·simp
      ·simp
      ·simp
      ·simp
      ·simp[Bp]
      simp only[DA,fw,N_,rm,List.map_cons,List.map_nil,List.foldl_cons,List.foldl_nil,List.getElem?_cons_zero,List.length_cons,List.length_nil,Nat.zero_add,eF,Nat.add_zero,if_true,if_neg (show ¬1=0 by decide),List.cons_append,List.nil_append,ren,renL,AA,Bp,RF];(simp only[go_sem];(repeat' (refine K _ ?_;clear K kp)));(repeat' (first |refine A0 ?_ |((refine sI (id:=13) mixed 11 (fun K kp=>?_));simp only[go_sem,d1,eC];(repeat' (refine K _ ?_;clear K kp))) |refine A5 ?_));(refine rJ results17 ?_;exact eQ hE)
    ·have k1:(k !=1)=true:=by simp;exact fun h=>hkk (.inl h)
     have k0:(k !=0)=true:=by simp;exact fun h=>hkk (.inr h)
     have hR2:AN l ops tr= .error 4:=by rw[hR,if_pos ⟨fun h=>hkk (.inl h),fun h=>hkk (.inr h)⟩]
     rw[hR2];simp only[CG];(repeat' (first |refine A0 ?_ |refine A3 ?_ |((first |refine sR (fun K kp=>?_) |refine cR cc ?_ |refine cR kc ?_);simp only[go_sem,d1,k1,k0];(repeat' (refine K _ ?_;clear K kp))) |refine A2 rfl ?_ |refine A1 rfl ?_ |refine A5 ?_));(refine rJ results17 ?_;exact eQ hE)
 ·have b0:(Ag l !=0)=true:=by simpa using h0
  have hR:AN l ops tr= .error (Ag l):=by unfold AN;rw[if_pos h0]
  rw[hR];simp only[CG];(repeat' (first |refine A0 ?_ |((first |refine sR (fun K kp=>?_) |refine cR cc ?_);simp only[go_sem,b0];(repeat' (refine K _ ?_;clear K kp))) |refine A2 rfl ?_ |refine A5 ?_));(refine rJ results17 ?_;exact eQ hE)
theorem Mj (G:GL)(l:List CO)(ops:List OP)(hl:l.length≤1048576)(ho:ops.length≤1048576)(hs: ∀c ∈ l,FG c.nm)(hv: ∀o ∈ ops,IK o):Con prog G 115 [.ro true 2 (l.map eC),.ro true 5 (ops.map eO)] [] 0 (Is (.r (.int .i64 (EH l ops))) [] 0) No:=by
 refine cJ func115 fun E hG hE=>?_;subst hG;simp only[AX];have cc:=E6 E.G l hl hs;have ec:=D5 E.G true ops ho hv;(repeat' (first |refine A0 ?_ |refine A3 ?_ |((first |refine sR (fun K kp=>?_) |refine cR cc ?_ |refine cR ec ?_);simp -implicitDefEqProofs (disch:=omega) only[go_sem];(repeat' (refine K _ ?_;clear K kp))) |((refine A6 rfl (fun h=>?_) (fun h=>?_)<;>try simp only[Af] at h)<;>(try (exfalso;omega))) |refine A5 ?_))
 all_goals (refine rJ results115 ?_;refine(AE hE (by simp) ?_).s;clear hE cc ec;simp_all [A8,ren,renL,EH])
theorem I2 (G:GL)(l:List CO)(ops:List OP)(tr:RT OP)(hl:l.length≤1048576)(ho:ops.length≤1048576)(hs: ∀c ∈ l,FG c.nm)(hv: ∀o ∈ ops,IK o)(ht:AZ ops=0->tr.wf BN/\tr.flat=ops):
  Con prog G 62 [.ro true 2 (l.map eC),.ro true 5 (ops.map eO)] [] 0 (Is (A_ (Bm l ops tr)) [] 0) No:=by
 refine cJ func62 fun E hG hE=>?_;subst hG;simp only[AX];have cc:=Mj E.G l ops hl ho hs hv
 by_cases h0:EH l ops=0
 ·rw[h0] at cc
  have he:AZ ops=0:=by
   unfold EH at h0;split at h0
   ·rename_i h;exact(h h0).elim
   ·exact h0
  obtain⟨hw,hf⟩:=ht he;obtain⟨h40,hk,_⟩:=CU he;have kc:=FM E.G true true l hl tr hw (by rw[hf];exact fun o ho=>⟨(hk o ho).1,(hk o ho).2.1⟩) (by rw[hf];omega);rw[hf] at kc
  have hR:Bm l ops tr=Fr (Ac l) 0 tr:=by rw[Bm,if_neg (by simpa using h0)]
  rw[hR]
  cases hm:Fr (Ac l) 0 tr with
  |error e=>
   rw[hm] at kc;simp only[A_] at kc ⊢;(repeat' (first |refine A0 ?_ |refine A3 ?_ |((first |refine sR (fun K kp=>?_) |refine cR cc ?_ |refine cR kc ?_);simp -implicitDefEqProofs (disch:=omega) only[go_sem];(repeat' (refine K _ ?_;clear K kp))) |refine A1 rfl ?_ |refine A5 ?_));(refine rJ results62 ?_;exact eQ hE)
  |ok k=>
   rw[hm] at kc;simp only[A_] at kc ⊢;(repeat' (first |refine A0 ?_ |refine A3 ?_ |((first |refine sR (fun K kp=>?_) |refine cR cc ?_ |refine cR kc ?_);simp -implicitDefEqProofs (disch:=omega) only[go_sem];(repeat' (refine K _ ?_;clear K kp))) |refine A1 rfl ?_ |refine A5 ?_));(refine rJ results62 ?_;exact eQ hE)
 ·have b0:(EH l ops !=0)=true:=by simpa using h0
  have hR:Bm l ops tr= .error (EH l ops):=by rw[Bm,if_pos h0]
  rw[hR];simp only[A_];(repeat' (first |refine A0 ?_ |((first |refine sR (fun K kp=>?_) |refine cR cc ?_);simp -implicitDefEqProofs (disch:=omega) only[go_sem,b0];(repeat' (refine K _ ?_;clear K kp))) |refine A2 rfl ?_ |refine A5 ?_));(refine rJ results62 ?_;exact eQ hE)
theorem YG (G:GL)(t:Bool)(l m:List UInt8):Con prog G 36 [EK l,.ro t 1 (m.map AC)] [] 0 (Is (.r (.bool (Op.bytesLess l m))) [] 0) No:=by
 cases l with
 |nil=>exact(Ar G true t [] m).weak (by simp[Gb,wk,EK])
 |cons x r=>exact Ar G true t (x::r) m
theorem Vk (G:GL)(t:Bool)(l m:List UInt8):Con prog G 36 [.ro t 1 (l.map AC),EK m] [] 0 (Is (.r (.bool (Op.bytesLess l m))) [] 0) No:=by
 cases m with
 |nil=>exact(Ar G t true l []).weak (by simp[Gb,wk,EK])
 |cons x r=>exact Ar G t true l (x::r)
def okPt (ops:List OP):Prop:=okL ops/\ ∃n o,ops.length=n+1/\ops[n]?=some o/\n≤1000
theorem Io: ∀ {tr:RT OP},okL tr.flat->tr.flat.length≤1000-> ∀x ∈ BD tr,okPt x
 | .l o,hg,hn,x,hx=>by
   simp only[BD,aW] at hx;subst hx;exact⟨hg,0,o,by simp[RT.flat],by simp[RT.flat],by omega⟩
 | .u o s,hg,hn,x,hx=>by
   simp only[BD,aW] at hx;subst hx;exact⟨hg,s.flat.length,o,by simp[RT.flat],by simp[RT.flat],by simp[RT.flat] at hn;omega⟩
 | .b o p q,hg,hn,x,hx=>by
   have hln0:(RT.b o p q).flat.length=p.flat.length+q.flat.length+1:=by simp[RT.flat];omega
   rw[BD] at hx;split at hx
   ·rcases cK.1 hx with h |h
    ·exact Io (fun y hy=>hg y (by simp[RT.flat,hy])) (by omega) x h
    ·exact Io (fun y hy=>hg y (by simp[RT.flat,hy])) (by omega) x h
   ·simp only[aW] at hx;subst hx
    exact⟨hg,p.flat.length+q.flat.length,o,hln0,by simp only[RT.flat];rw[<-List.length_append];exact dG,by omega⟩
theorem Se {key:ByteArray}{nt:Bool}{l:List OP}{w:Int}{v:V}(h:Cu key nt l=some (w,v)): ∃o ∈ l,v=Aw o:=by
 match l,h with
 | [a,b,c],h=>
   rw[Cu] at h
   repeat' split at h
   all_goals first
    |(cases h;done)
    |(cases h;exact⟨a,by simp,rfl⟩)
    |(cases h;exact⟨b,by simp,rfl⟩)
theorem Pc {key:ByteArray}{l:List OP}{w:Int}{v:V}(h:D8 key l=some (w,v)): ∃o ∈ l,v=Aw o:=by
 rw[D8] at h;split at h
 ·cases h
 split at h
 ·obtain⟨o,ho,e⟩:=Se h
  exact⟨o,List.dropLast_subset _ ho,e⟩
 ·exact Se h
theorem Y9 {key:ByteArray}{nt:Bool}{l:List OP}{w:Int}{v:V}(h:Cu key nt l=some (w,v)):w=0\/w=1\/w= -1:=by
 match l,h with
 | [a,b,c],h=>
   rw[Cu] at h
   repeat' split at h
   all_goals first
    |(cases h;done)
    |(cases h;simp;done)
theorem VC {key:ByteArray}{l:List OP}{w:Int}{v:V}(h:D8 key l=some (w,v)):w=0\/w=1\/w= -1:=by
 rw[D8] at h;split at h
 ·cases h
 split at h
 ·exact Y9 h
 ·exact Y9 h
theorem P0 (G:GL)(l:List CO)(ops:List OP)(tr:RT OP)(c:CO)(r:List CO)(hlc:l=c::r)(hl:l.length≤1048576)(hgo: ∀o ∈ ops,gV ⟨o.vk,o.vn,o.vs⟩)(hz0:ops≠[])
  (cc:Con prog G 64 [.ro true 2 (l.map eC)] [] 0 (Is (.r (.int .i64 0)) [] 0) No) (kc:Con prog G 62 [.ro true 2 (l.map eC),.ro true 5 (ops.map eO)] [] 0 (Is (.tup [.r (.int .i64 1),.r (.int .i64 0)]) [] 0) No)
  (h40:ops.length≤40) (hk: ∀o ∈ ops,1≤o.k/\o.k≤11/\Bc o.vk o.vn o.vs=0/\(o.k=2->AH o.nm=0)) (hw:tr.wf BN) (hf:tr.flat=ops):
  Con prog G 34 [.ro true 2 (l.map eC),.ro true 5 (ops.map eO)] [] 0 (Is (CG (.ok (CM c.nm ([],[]) tr))) [] 0) No:=by
 refine cJ func34 fun E hG hE=>?_;subst hG;simp only[AX]
 have d1:((ops.length:Int)==0)=false:=by simp;exact hz0
 have mc:=HY E.G tr hw (by rw[hf];exact fun o ho=>⟨(hk o ho).1,(hk o ho).2.1⟩) (by rw[hf];omega);have pok:=Io (tr:=tr) (by rw[hf];exact fun o ho=>⟨hgo o ho,Ha (hk o ho).2.2.1⟩) (by rw[hf];omega);have plen:=Eh tr;rw[hf] at mc plen;rw[CM];generalize BD tr=ps at mc pok plen ⊢;subst hlc;(repeat' (first |refine A0 ?_ |refine A4 ?_ |refine A3 ?_ |((first |refine sR (fun K kp=>?_) |refine cR cc ?_ |refine cR kc ?_ |refine cR mc ?_);simp -implicitDefEqProofs (disch:=omega) only[go_sem,d1,eC];(repeat' (refine K _ ?_;clear K kp))) |refine A1 rfl ?_));refine AB (fun q:Nat×List UInt8×List UInt8=>⟨[(12,.r (.int .i64 q.1)),(9,EK q.2.1),(10,EK q.2.2),(11,.s 0 0 ps.length),(0,.ro true 2 ((c::r).map eC))],[(0,.lst 28 1 (ps.map S3))],1⟩) (fun q=>q.1≤ps.length/\(ps.drop q.1).foldl (CY c.nm) q.2=ps.foldl (CY c.nm) ([],[])) (fun q=>ps.length - q.1) (0,[],[]) ?_ ?_ ?_
 ·exact⟨by simp,rfl⟩
 ·(refine AJ hE [0] rfl ?_ ?_<;>simp[Ai,AY,lk,ren,renL,AA,AU,EK,eC]<;>(try omega))
 rintro⟨i,lo,hi⟩ ⟨hil,hno⟩;simp only at hil hno ⊢
 by_cases hlt:i<ps.length
 ·obtain⟨x,hx⟩: ∃x,ps[i]?=some x:=⟨ps[i],by simp[hlt]⟩
  obtain⟨gl,n,o,hn,hxo,hnl⟩:=pok x (aB hx);have sc:=Pd E.G true c.nm x n o hn hxo hnl;have hci:((i:Int)<(ps.length:Int))=True:=aK (by omega);rw[Am hx,List.foldl_cons] at hno
  cases hsd:D8 c.nm x with
  |none=>
   have hU:CY c.nm (lo,hi) x=(lo,hi):=by rw[CY,hsd]
   rw[hU] at hno;rw[hsd] at sc;simp only[BB,Ax,eV] at sc;(repeat' (first |refine A0 ?_ |refine A4 ?_ |refine A3 ?_ |refine A7 ?_ |((first |refine sR (fun K kp=>?_) |refine rU (id:=17) mixed 15 [⟨0,0,[],[(0,1)]⟩,⟨0,0,[0],[(0,1)]⟩,⟨0,0,[0,1],[(0,1)]⟩,⟨0,0,[0,1,2],[(0,1)]⟩,⟨0,0,[],[(0,1)]⟩,⟨0,0,[],[(0,1)]⟩,⟨0,0,[4,5],[(0,1)]⟩,⟨0,0,[4,5,6],[(0,1)]⟩,⟨0,0,[0,1,2,3,4,5,6,7],[(0,1)]⟩,⟨0,0,[0,1,2,3,4,5,6,7,8],[(0,1)]⟩,⟨0,0,[0,1,2,3,4,5,6,7,8,9],[(0,1)]⟩,⟨0,0,[0,1,2,3,4,5,6,7,8,9],[(0,1)]⟩,⟨0,0,[0,1,2,3,4,5,6,7,8,9],[(0,1)]⟩,⟨0,1,[],[]⟩,⟨1,0,[0,1,2,3,4,5,6,7,8,9,10,13],[]⟩] 1 [54,55,56,57,58,59,60,61,62,53,63,64,65,14,13] [12] (fun _ _ K kp=>?_) |refine cU sc ?_);simp -implicitDefEqProofs (disch:=omega) only[go_sem,hx,hci,S3,eC];(repeat' (refine K _ ?_;clear K kp))) |refine A2 rfl ?_));(refine BF ((i+1,lo,hi)) ?_ ?_;rotate_left;(·(refine AJ hE [0] rfl ?_ ?_<;>simp[Ai,AY,lk,ren,renL,AA,AU,eC]<;>(try omega))));exact⟨by omega,hno⟩
  |some wv=>
   obtain⟨w,v⟩:=wv;rw[hsd] at sc;simp only[BB,eV] at sc;obtain⟨oo,hoo,hvo⟩:=Pc hsd;obtain⟨gvo,vco⟩:=gl oo hoo;rw[<-hvo] at gvo
   have hvc:AW v.k v.n v.s=0:=by rw[hvo];exact vco
   have kbc:=GA E.G false [v] (by simp) (fun u hu=>by simp only[aW] at hu;subst hu;exact gvo);have hlen:=Dg hvc;rw[LF hvc] at kbc;obtain⟨kb,hkb⟩: ∃kb,CL v=kb:=⟨_,rfl⟩
   have hne:kb≠[]:=by rw[<-hkb];simp[CL]
   rw[hkb] at hlen kbc;simp only[List.map_cons,List.map_nil,FW,eV] at kbc;have hkn:=KK hne
   have hU:CY c.nm (lo,hi) x=(if w≤0/\Op.bytesLess lo kb=true then kb else lo,if 0≤w/\(hi=[]\/Op.bytesLess kb hi=true) then kb else hi):=by rw[CY,hsd,<-hkb]
   have b1:=YG E.G true lo kb;have b2:=Vk E.G true kb hi;have cp:=DE E.G true kb (by omega);have hw3:=VC hsd;clear hsd
   by_cases hz:hi=[]
   ·subst hz
    have hzn:EK []= .r (.slice none 0 0):=rfl;rw[hzn] at b2
    rcases hw3 with rfl |rfl |rfl
    all_goals
     (repeat' (first |refine A0 ?_ |refine A4 ?_ |refine A3 ?_ |((first |refine sR (fun K kp=>?_) |refine rU (id:=17) mixed 15 [⟨0,0,[],[(0,1)]⟩,⟨0,0,[0],[(0,1)]⟩,⟨0,0,[0,1],[(0,1)]⟩,⟨0,0,[0,1,2],[(0,1)]⟩,⟨0,0,[],[(0,1)]⟩,⟨0,0,[],[(0,1)]⟩,⟨0,0,[4,5],[(0,1)]⟩,⟨0,0,[4,5,6],[(0,1)]⟩,⟨0,0,[0,1,2,3,4,5,6,7],[(0,1)]⟩,⟨0,0,[0,1,2,3,4,5,6,7,8],[(0,1)]⟩,⟨0,0,[0,1,2,3,4,5,6,7,8,9],[(0,1)]⟩,⟨0,0,[0,1,2,3,4,5,6,7,8,9],[(0,1)]⟩,⟨0,0,[0,1,2,3,4,5,6,7,8,9],[(0,1)]⟩,⟨0,1,[],[]⟩,⟨1,0,[0,1,2,3,4,5,6,7,8,9,10,13],[]⟩] 1 [54,55,56,57,58,59,60,61,62,53,63,64,65,14,13] [12] (fun _ _ K kp=>?_) |refine cU sc ?_ |refine cR kbc ?_ |refine cR b1 ?_ |refine cR cp ?_);simp -implicitDefEqProofs (disch:=omega) only[go_sem,hx,hci,S3,eC,hzn];(repeat' (refine K _ ?_;clear K kp))) |refine A2 rfl ?_ |refine A1 rfl ?_ |((refine A6 rfl (fun h=>?_) (fun h=>?_)<;>try simp only[Af] at h)<;>(try (exfalso;omega)))))
    all_goals clear sc kbc b1 b2 cp mc kc cc gl pok
    all_goals ((refine Dl ((i+1,CY c.nm (lo,[]) x)) ?_ ?_ ?_);rotate_left;(·(try dsimp only);(omega));(·(refine AJ hE [0] rfl ?_ ?_<;>simp[Ai,AY,lk,ren,renL,AA,AU,eC,hkn,hzn,hU, *]<;>(try omega))))
    all_goals exact⟨by omega,hno⟩
   ·have hzn:=KK hz
    rw[hzn] at b2
    have g2:((hi.length:Int)==0)=false:=by simp[hz]
    rcases hw3 with rfl |rfl |rfl
    all_goals
     (repeat' (first |refine A0 ?_ |refine A4 ?_ |refine A3 ?_ |((first |refine sR (fun K kp=>?_) |refine rU (id:=17) mixed 15 [⟨0,0,[],[(0,1)]⟩,⟨0,0,[0],[(0,1)]⟩,⟨0,0,[0,1],[(0,1)]⟩,⟨0,0,[0,1,2],[(0,1)]⟩,⟨0,0,[],[(0,1)]⟩,⟨0,0,[],[(0,1)]⟩,⟨0,0,[4,5],[(0,1)]⟩,⟨0,0,[4,5,6],[(0,1)]⟩,⟨0,0,[0,1,2,3,4,5,6,7],[(0,1)]⟩,⟨0,0,[0,1,2,3,4,5,6,7,8],[(0,1)]⟩,⟨0,0,[0,1,2,3,4,5,6,7,8,9],[(0,1)]⟩,⟨0,0,[0,1,2,3,4,5,6,7,8,9],[(0,1)]⟩,⟨0,0,[0,1,2,3,4,5,6,7,8,9],[(0,1)]⟩,⟨0,1,[],[]⟩,⟨1,0,[0,1,2,3,4,5,6,7,8,9,10,13],[]⟩] 1 [54,55,56,57,58,59,60,61,62,53,63,64,65,14,13] [12] (fun _ _ K kp=>?_) |refine cU sc ?_ |refine cR kbc ?_ |refine cR b1 ?_ |refine cR b2 ?_ |refine cR cp ?_);simp -implicitDefEqProofs (disch:=omega) only[go_sem,hx,hci,S3,eC,hzn,g2];(repeat' (refine K _ ?_;clear K kp))) |refine A2 rfl ?_ |refine A1 rfl ?_ |((refine A6 rfl (fun h=>?_) (fun h=>?_)<;>try simp only[Af] at h)<;>(try (exfalso;omega)))))
    all_goals clear sc kbc b1 b2 cp mc kc cc gl pok
    all_goals ((refine Dl ((i+1,CY c.nm (lo,hi) x)) ?_ ?_ ?_);rotate_left;(·(try dsimp only);(omega));(·(refine AJ hE [0] rfl ?_ ?_<;>simp[Ai,AY,lk,ren,renL,AA,AU,eC,hkn,hzn,hU, *]<;>(try omega))))
    all_goals exact⟨by omega,hno⟩
 ·rw[aR (by omega),List.foldl_nil] at hno
  rw[<-hno];simp only[CG];(repeat' (first |refine A0 ?_ |refine A7 ?_ |((refine sR (fun K kp=>?_));simp -implicitDefEqProofs (disch:=omega) only[go_sem,eC];(repeat' (refine K _ ?_;clear K kp))) |((refine A6 rfl (fun h=>?_) (fun h=>?_)<;>try simp only[Af] at h)<;>(try (exfalso;omega))) |refine A5 ?_));(refine rJ results34 ?_;exact eQ hE)
theorem Kp (G:GL)(l:List CO)(ops:List OP)(tr:RT OP)(c:CO)(r:List CO)(hlc:l=c::r)(hl:l.length≤1048576)(hgo: ∀o ∈ ops,gV ⟨o.vk,o.vn,o.vs⟩)(hz0:ops≠[])
  (cc:Con prog G 64 [.ro true 2 (l.map eC)] [] 0 (Is (.r (.int .i64 0)) [] 0) No) (kc:Con prog G 62 [.ro true 2 (l.map eC),.ro true 5 (ops.map eO)] [] 0 (Is (.tup [.r (.int .i64 0),.r (.int .i64 0)]) [] 0) No)
  (h40:ops.length≤40) (hk: ∀o ∈ ops,1≤o.k/\o.k≤11/\Bc o.vk o.vn o.vs=0/\(o.k=2->AH o.nm=0)) (hw:tr.wf BN) (hf:tr.flat=ops):
  Con prog G 34 [.ro true 2 (l.map eC),.ro true 5 (ops.map eO)] [] 0 (Is (CG (.ok (CM c.nm ([],[]) tr))) [] 0) No:=by
 refine cJ func34 fun E hG hE=>?_;subst hG;simp only[AX]
 have d1:((ops.length:Int)==0)=false:=by simp;exact hz0
 have mc:=HY E.G tr hw (by rw[hf];exact fun o ho=>⟨(hk o ho).1,(hk o ho).2.1⟩) (by rw[hf];omega);have pok:=Io (tr:=tr) (by rw[hf];exact fun o ho=>⟨hgo o ho,Ha (hk o ho).2.2.1⟩) (by rw[hf];omega);have plen:=Eh tr;rw[hf] at mc plen;rw[CM];generalize BD tr=ps at mc pok plen ⊢;subst hlc;(repeat' (first |refine A0 ?_ |refine A4 ?_ |refine A3 ?_ |((first |refine sR (fun K kp=>?_) |refine cR cc ?_ |refine cR kc ?_ |refine cR mc ?_);simp -implicitDefEqProofs (disch:=omega) only[go_sem,d1,eC];(repeat' (refine K _ ?_;clear K kp))) |refine A1 rfl ?_));refine AB (fun q:Nat×List UInt8×List UInt8=>⟨[(12,.r (.int .i64 q.1)),(9,EK q.2.1),(10,EK q.2.2),(11,.s 0 0 ps.length),(0,.ro true 2 ((c::r).map eC))],[(0,.lst 28 1 (ps.map S3))],1⟩) (fun q=>q.1≤ps.length/\(ps.drop q.1).foldl (CY c.nm) q.2=ps.foldl (CY c.nm) ([],[])) (fun q=>ps.length - q.1) (0,[],[]) ?_ ?_ ?_
 ·exact⟨by simp,rfl⟩
 ·(refine AJ hE [0] rfl ?_ ?_<;>simp[Ai,AY,lk,ren,renL,AA,AU,EK,eC]<;>(try omega))
 rintro⟨i,lo,hi⟩ ⟨hil,hno⟩;simp only at hil hno ⊢
 by_cases hlt:i<ps.length
 ·obtain⟨x,hx⟩: ∃x,ps[i]?=some x:=⟨ps[i],by simp[hlt]⟩
  obtain⟨gl,n,o,hn,hxo,hnl⟩:=pok x (aB hx);have sc:=Pd E.G true c.nm x n o hn hxo hnl;have hci:((i:Int)<(ps.length:Int))=True:=aK (by omega);rw[Am hx,List.foldl_cons] at hno
  cases hsd:D8 c.nm x with
  |none=>
   have hU:CY c.nm (lo,hi) x=(lo,hi):=by rw[CY,hsd]
   rw[hU] at hno;rw[hsd] at sc;simp only[BB,Ax,eV] at sc;(repeat' (first |refine A0 ?_ |refine A4 ?_ |refine A3 ?_ |refine A7 ?_ |((first |refine sR (fun K kp=>?_) |refine rU (id:=17) mixed 15 [⟨0,0,[],[(0,1)]⟩,⟨0,0,[0],[(0,1)]⟩,⟨0,0,[0,1],[(0,1)]⟩,⟨0,0,[0,1,2],[(0,1)]⟩,⟨0,0,[],[(0,1)]⟩,⟨0,0,[],[(0,1)]⟩,⟨0,0,[4,5],[(0,1)]⟩,⟨0,0,[4,5,6],[(0,1)]⟩,⟨0,0,[0,1,2,3,4,5,6,7],[(0,1)]⟩,⟨0,0,[0,1,2,3,4,5,6,7,8],[(0,1)]⟩,⟨0,0,[0,1,2,3,4,5,6,7,8,9],[(0,1)]⟩,⟨0,0,[0,1,2,3,4,5,6,7,8,9],[(0,1)]⟩,⟨0,0,[0,1,2,3,4,5,6,7,8,9],[(0,1)]⟩,⟨0,1,[],[]⟩,⟨1,0,[0,1,2,3,4,5,6,7,8,9,10,13],[]⟩] 1 [54,55,56,57,58,59,60,61,62,53,63,64,65,14,13] [12] (fun _ _ K kp=>?_) |refine cU sc ?_);simp -implicitDefEqProofs (disch:=omega) only[go_sem,hx,hci,S3,eC];(repeat' (refine K _ ?_;clear K kp))) |refine A2 rfl ?_));(refine BF ((i+1,lo,hi)) ?_ ?_;rotate_left;(·(refine AJ hE [0] rfl ?_ ?_<;>simp[Ai,AY,lk,ren,renL,AA,AU,eC]<;>(try omega))));exact⟨by omega,hno⟩
  |some wv=>
   obtain⟨w,v⟩:=wv;rw[hsd] at sc;simp only[BB,eV] at sc;obtain⟨oo,hoo,hvo⟩:=Pc hsd;obtain⟨gvo,vco⟩:=gl oo hoo;rw[<-hvo] at gvo
   have hvc:AW v.k v.n v.s=0:=by rw[hvo];exact vco
   have kbc:=GA E.G false [v] (by simp) (fun u hu=>by simp only[aW] at hu;subst hu;exact gvo);have hlen:=Dg hvc;rw[LF hvc] at kbc;obtain⟨kb,hkb⟩: ∃kb,CL v=kb:=⟨_,rfl⟩
   have hne:kb≠[]:=by rw[<-hkb];simp[CL]
   rw[hkb] at hlen kbc;simp only[List.map_cons,List.map_nil,FW,eV] at kbc;have hkn:=KK hne
   have hU:CY c.nm (lo,hi) x=(if w≤0/\Op.bytesLess lo kb=true then kb else lo,if 0≤w/\(hi=[]\/Op.bytesLess kb hi=true) then kb else hi):=by rw[CY,hsd,<-hkb]
   have b1:=YG E.G true lo kb;have b2:=Vk E.G true kb hi;have cp:=DE E.G true kb (by omega);have hw3:=VC hsd;clear hsd
   by_cases hz:hi=[]
   ·subst hz
    have hzn:EK []= .r (.slice none 0 0):=rfl;rw[hzn] at b2
    rcases hw3 with rfl |rfl |rfl
    all_goals
     (repeat' (first |refine A0 ?_ |refine A4 ?_ |refine A3 ?_ |((first |refine sR (fun K kp=>?_) |refine rU (id:=17) mixed 15 [⟨0,0,[],[(0,1)]⟩,⟨0,0,[0],[(0,1)]⟩,⟨0,0,[0,1],[(0,1)]⟩,⟨0,0,[0,1,2],[(0,1)]⟩,⟨0,0,[],[(0,1)]⟩,⟨0,0,[],[(0,1)]⟩,⟨0,0,[4,5],[(0,1)]⟩,⟨0,0,[4,5,6],[(0,1)]⟩,⟨0,0,[0,1,2,3,4,5,6,7],[(0,1)]⟩,⟨0,0,[0,1,2,3,4,5,6,7,8],[(0,1)]⟩,⟨0,0,[0,1,2,3,4,5,6,7,8,9],[(0,1)]⟩,⟨0,0,[0,1,2,3,4,5,6,7,8,9],[(0,1)]⟩,⟨0,0,[0,1,2,3,4,5,6,7,8,9],[(0,1)]⟩,⟨0,1,[],[]⟩,⟨1,0,[0,1,2,3,4,5,6,7,8,9,10,13],[]⟩] 1 [54,55,56,57,58,59,60,61,62,53,63,64,65,14,13] [12] (fun _ _ K kp=>?_) |refine cU sc ?_ |refine cR kbc ?_ |refine cR b1 ?_ |refine cR cp ?_);simp -implicitDefEqProofs (disch:=omega) only[go_sem,hx,hci,S3,eC,hzn];(repeat' (refine K _ ?_;clear K kp))) |refine A2 rfl ?_ |refine A1 rfl ?_ |((refine A6 rfl (fun h=>?_) (fun h=>?_)<;>try simp only[Af] at h)<;>(try (exfalso;omega)))))
    all_goals clear sc kbc b1 b2 cp mc kc cc gl pok
    all_goals ((refine Dl ((i+1,CY c.nm (lo,[]) x)) ?_ ?_ ?_);rotate_left;(·(try dsimp only);(omega));(·(refine AJ hE [0] rfl ?_ ?_<;>simp[Ai,AY,lk,ren,renL,AA,AU,eC,hkn,hzn,hU, *]<;>(try omega))))
    all_goals exact⟨by omega,hno⟩
   ·have hzn:=KK hz
    rw[hzn] at b2
    have g2:((hi.length:Int)==0)=false:=by simp[hz]
    rcases hw3 with rfl |rfl |rfl
    all_goals
     (repeat' (first |refine A0 ?_ |refine A4 ?_ |refine A3 ?_ |((first |refine sR (fun K kp=>?_) |refine rU (id:=17) mixed 15 [⟨0,0,[],[(0,1)]⟩,⟨0,0,[0],[(0,1)]⟩,⟨0,0,[0,1],[(0,1)]⟩,⟨0,0,[0,1,2],[(0,1)]⟩,⟨0,0,[],[(0,1)]⟩,⟨0,0,[],[(0,1)]⟩,⟨0,0,[4,5],[(0,1)]⟩,⟨0,0,[4,5,6],[(0,1)]⟩,⟨0,0,[0,1,2,3,4,5,6,7],[(0,1)]⟩,⟨0,0,[0,1,2,3,4,5,6,7,8],[(0,1)]⟩,⟨0,0,[0,1,2,3,4,5,6,7,8,9],[(0,1)]⟩,⟨0,0,[0,1,2,3,4,5,6,7,8,9],[(0,1)]⟩,⟨0,0,[0,1,2,3,4,5,6,7,8,9],[(0,1)]⟩,⟨0,1,[],[]⟩,⟨1,0,[0,1,2,3,4,5,6,7,8,9,10,13],[]⟩] 1 [54,55,56,57,58,59,60,61,62,53,63,64,65,14,13] [12] (fun _ _ K kp=>?_) |refine cU sc ?_ |refine cR kbc ?_ |refine cR b1 ?_ |refine cR b2 ?_ |refine cR cp ?_);simp -implicitDefEqProofs (disch:=omega) only[go_sem,hx,hci,S3,eC,hzn,g2];(repeat' (refine K _ ?_;clear K kp))) |refine A2 rfl ?_ |refine A1 rfl ?_ |((refine A6 rfl (fun h=>?_) (fun h=>?_)<;>try simp only[Af] at h)<;>(try (exfalso;omega)))))
    all_goals clear sc kbc b1 b2 cp mc kc cc gl pok
    all_goals ((refine Dl ((i+1,CY c.nm (lo,hi) x)) ?_ ?_ ?_);rotate_left;(·(try dsimp only);(omega));(·(refine AJ hE [0] rfl ?_ ?_<;>simp[Ai,AY,lk,ren,renL,AA,AU,eC,hkn,hzn,hU, *]<;>(try omega))))
    all_goals exact⟨by omega,hno⟩
 ·rw[aR (by omega),List.foldl_nil] at hno
  rw[<-hno];simp only[CG];(repeat' (first |refine A0 ?_ |refine A7 ?_ |((refine sR (fun K kp=>?_));simp -implicitDefEqProofs (disch:=omega) only[go_sem,eC];(repeat' (refine K _ ?_;clear K kp))) |((refine A6 rfl (fun h=>?_) (fun h=>?_)<;>try simp only[Af] at h)<;>(try (exfalso;omega))) |refine A5 ?_));(refine rJ results34 ?_;exact eQ hE)
theorem Ef (G:GL)(l:List CO)(ops:List OP)(tr:RT OP)(hl:l.length≤1048576)(ho:ops.length≤1048576)(hs: ∀c ∈ l,FG c.nm)(hv: ∀o ∈ ops,IK o)(hgo: ∀o ∈ ops,gV ⟨o.vk,o.vn,o.vs⟩)(ht:AZ ops=0->tr.wf BN/\tr.flat=ops):
  Con prog G 34 [.ro true 2 (l.map eC),.ro true 5 (ops.map eO)] [] 0 (Is (CG (AN l ops tr)) [] 0) No:=by
 have cc:=E6 G l hl hs
 by_cases h0:Ag l=0
 ·rw[h0] at cc
  obtain⟨c,r,hlc⟩:=Fu h0
  by_cases hz:ops=[]
  ·have hR:AN l ops tr= .ok ([],[]):=by unfold AN;rw[if_neg (by simpa using h0),hz]
   rw[hR];simp only[CG,EK];subst hz;refine cJ func34 fun E hG hE=>?_;subst hG;simp only[AX];(repeat' (first |refine A0 ?_ |refine A3 ?_ |((first |refine sR (fun K kp=>?_) |refine cR cc ?_);simp -implicitDefEqProofs (disch:=omega) only[go_sem];(repeat' (refine K _ ?_;clear K kp))) |refine A2 rfl ?_ |refine A1 rfl ?_ |refine A5 ?_));(refine rJ results34 ?_;exact eQ hE)
  ·have d1:((ops.length:Int)==0)=false:=by simp;exact hz
   have hR:AN l ops tr=match Bm l ops tr with
    | .error e=> .error e
    | .ok k=>if k≠1/\k≠0 then .error 4 else .ok (CM c.nm ([],[]) tr):=by
    unfold AN;rw[if_neg (by simpa using h0),hlc]
    cases ops with
    |nil=>exact(hz rfl).elim
    |cons x y=>rfl
   have kc:=I2 G l ops tr hl ho hs hv ht
   cases hm:Bm l ops tr with
   |error e=>
    have he:(e !=0)=true:=by simp[Jm hm]
    have he2:(e==0)=false:=by simp[Jm hm]
    rw[hm] at kc hR;rw[hR];simp only[A_,CG] at kc ⊢;refine cJ func34 fun E hG hE=>?_;subst hG;simp only[AX];(repeat' (first |refine A0 ?_ |refine A3 ?_ |((first |refine sR (fun K kp=>?_) |refine cR cc ?_ |refine cR kc ?_);simp -implicitDefEqProofs (disch:=omega) only[go_sem,d1,he,he2];(repeat' (refine K _ ?_;clear K kp))) |refine A2 rfl ?_ |refine A1 rfl ?_ |refine A5 ?_));(refine rJ results34 ?_;exact eQ hE)
   |ok k=>
    obtain⟨e1,e2⟩:=MA hm;obtain⟨hw,hf⟩:=ht e1;obtain⟨h40,hk,_⟩:=CU e1;rw[hm] at kc hR;simp only[A_] at kc hR
    by_cases hkk:k=1\/k=0
    ·have hR2:AN l ops tr= .ok (CM c.nm ([],[]) tr):=by rw[hR,if_neg (by rcases hkk with h |h<;>simp[h])]
     rw[hR2]
     rcases hkk with rfl |rfl
     ·exact P0 G l ops tr c r hlc hl hgo hz cc kc h40 hk hw hf
     ·exact Kp G l ops tr c r hlc hl hgo hz cc kc h40 hk hw hf
    ·have k1:(k !=1)=true:=by simp;exact fun h=>hkk (.inl h)
     have k0:(k !=0)=true:=by simp;exact fun h=>hkk (.inr h)
     have hR2:AN l ops tr= .error 4:=by rw[hR,if_pos ⟨fun h=>hkk (.inl h),fun h=>hkk (.inr h)⟩]
     rw[hR2];simp only[CG];refine cJ func34 fun E hG hE=>?_;subst hG;simp only[AX];(repeat' (first |refine A0 ?_ |refine A3 ?_ |((first |refine sR (fun K kp=>?_) |refine cR cc ?_ |refine cR kc ?_);simp -implicitDefEqProofs (disch:=omega) only[go_sem,d1,k1,k0];(repeat' (refine K _ ?_;clear K kp))) |refine A2 rfl ?_ |refine A1 rfl ?_ |refine A5 ?_));(refine rJ results34 ?_;exact eQ hE)
 ·have b0:(Ag l !=0)=true:=by simpa using h0
  have hR:AN l ops tr= .error (Ag l):=by unfold AN;rw[if_pos h0]
  rw[hR];simp only[CG];refine cJ func34 fun E hG hE=>?_;subst hG;simp only[AX];(repeat' (first |refine A0 ?_ |((first |refine sR (fun K kp=>?_) |refine cR cc ?_);simp -implicitDefEqProofs (disch:=omega) only[go_sem,b0];(repeat' (refine K _ ?_;clear K kp))) |refine A2 rfl ?_ |refine A5 ?_));(refine rJ results34 ?_;exact eQ hE)
open Go.Proofs.YtmohnlbeiaifhaaGreatDoor (OP AH Bc AZ str)
structure NE where
 th:ByteArray
 md:Int
def DR (x:NE):List AV:=[.r (.string x.th),.r (.int .i64 x.md)]
@[simp] theorem X4 (a:NE):(∀x,x ∈ DR a->PT x)=True:=aK (by intro x hx;simp[DR] at hx;rcases hx with rfl |rfl<;>exact .r _)
instance:PTf DR:=⟨fun a=>of_eq_true (X4 a)⟩
def An (s:ByteArray):ByteArray:=(⟨#[116]⟩:ByteArray)++s
def Ko (s:ByteArray):ByteArray:=(⟨#[101]⟩:ByteArray)++s
def EW (s:ByteArray)(k:Ky):ByteArray:=(⟨#[107]⟩:ByteArray)++s++⟨#[58]⟩++⟨k.toArray⟩
theorem sz1 (a:UInt8):(⟨#[a]⟩:ByteArray).size=1:=rfl
theorem Ws {s:ByteArray}(hs:s.size≤1048576)(a:UInt8):((#[a]:Array UInt8).size+s.size≤9223372036854775807)=True:=aK (by show 1+_≤_;omega)
theorem szB {s:ByteArray}(hs:s.size≤1048576)(a b:UInt8):((#[a]:Array UInt8).size+s.size+(#[b]:Array UInt8).size≤9223372036854775807)=True:=aK (by show 1+_+1≤_;omega)
theorem szC {s:ByteArray}(hs:s.size≤1048576)(a b:UInt8){k:Ky}(hk:k.length≤1048576):((#[a]:Array UInt8).size+s.size+(#[b]:Array UInt8).size+k.toArray.size≤9223372036854775807)=True:=aK (by show 1+_+1+_≤_;simp only[gD];omega)
theorem IC (G:GL)(s:ByteArray)(hs:s.size≤1048576):Con prog G 20 [.r (.string s)] [] 0 (Is (.r (.string (An s))) [] 0) No:=by
 have z1:=Ws hs 116;unfold An;refine cJ func20 fun E hG hE=>?_;subst hG;simp only[AX];(repeat' (first |refine A0 ?_ |((refine sR (fun K kp=>?_));simp -implicitDefEqProofs (disch:=omega) only[go_sem,z1];(repeat' (refine K _ ?_;clear K kp))) |refine A5 ?_));(refine rJ results20 ?_;exact eQ hE)
theorem QQ (G:GL)(s:ByteArray)(hs:s.size≤1048576):Con prog G 53 [.r (.string s)] [] 0 (Is (.r (.string (Ko s))) [] 0) No:=by
 have z1:=Ws hs 101;unfold Ko;refine cJ func53 fun E hG hE=>?_;subst hG;simp only[AX];(repeat' (first |refine A0 ?_ |((refine sR (fun K kp=>?_));simp -implicitDefEqProofs (disch:=omega) only[go_sem,z1];(repeat' (refine K _ ?_;clear K kp))) |refine A5 ?_));(refine rJ results53 ?_;exact eQ hE)
theorem Ly (G:GL)(u:Bool)(s:ByteArray)(k:Ky)(hs:s.size≤1048576)(hk:k.length≤1048576):Con prog G 21 [.r (.string s),.ro u 1 (k.map AC)] [] 0 (Is (.r (.string (EW s k))) [] 0) No:=by
 have z1:=Ws hs 107;have z2:=szB hs 107 58;have z3:=szC hs 107 58 hk;unfold EW;refine cJ func21 fun E hG hE=>?_;subst hG;simp only[AX];(repeat' (first |refine A0 ?_ |((refine sR (fun K kp=>?_));simp -implicitDefEqProofs (disch:=omega) only[go_sem,z1,z2,z3,Fz];(repeat' (refine K _ ?_;clear K kp))) |refine A5 ?_));(refine rJ results21 ?_;exact eQ hE)
def CH (s:ByteArray):List Et->ByteArray
 | []=>Ko s
 |e::_=>EW s e.1
theorem Cy (G:GL)(u:Bool)(s:ByteArray)(l:List Et)(hs:s.size≤1048576)(hk: ∀e ∈ l,e.1.length≤1048576):Con prog G 33 [.r (.string s),.ro u 2 (l.map Cf)] [] 0 (Is (.r (.string (CH s l))) [] 0) No:=by
 cases l with
 |nil=>
  have z1:=Ws hs 101;unfold CH Ko;refine cJ func33 fun E hG hE=>?_;subst hG;simp only[AX];(repeat' (first |refine A0 ?_ |((refine sR (fun K kp=>?_));simp -implicitDefEqProofs (disch:=omega) only[go_sem,z1];(repeat' (refine K _ ?_;clear K kp))) |refine A2 rfl ?_ |refine A5 ?_));(refine rJ results33 ?_;exact eQ hE)
 |cons e r=>
  have z1:=Ws hs 107;have z2:=szB hs 107 58;have z3:=szC hs 107 58 (hk e (by simp))
  have d1:(((r.length+1:Nat):Int)==0)=false:=by simp only[aT,ne_eq];omega
  unfold CH EW;refine cJ func33 fun E hG hE=>?_;subst hG;simp only[AX];(repeat' (first |refine A0 ?_ |refine A3 ?_ |((refine sR (fun K kp=>?_));simp -implicitDefEqProofs (disch:=omega) only[go_sem,z1,z2,z3,d1,Cf,Fz];(repeat' (refine K _ ?_;clear K kp))) |refine A1 rfl ?_ |refine A5 ?_));(refine rJ results33 ?_;exact eQ hE)
@[reducible] def Nn (t:TB) (n len:Nat):Nd:= .box 53 [.r (.string t.nm),.ro true 2 (t.cols.map eC),.ro true 1 (t.rows.map LG),.ro true 5 (t.ps.map eP),.r (.int .i64 t.root),.s n 0 len]
@[reducible] def Gu (l:List NE):Nd:= .lst 50 2 (l.map DR)
theorem EI (G:GL)(t:TB)(l:List NE)(th:ByteArray)(md:Int)(hl:l.length≤1000):Con prog G 13 [.p 0 0 0,.r (.string th),.r (.int .i64 md)] [(0,Nn t 1 l.length),(1,Gu l)] 2
  (Is (.tup []) [(0,Nn t 2 (l++[NE.mk th md]).length),(2,Gu (l++[NE.mk th md]))] 3) No:=by
 unfold Nn Gu;refine cJ func13 fun E hG hE=>?_;subst hG;simp only[AX];(repeat' ((refine sR (fun K kp=>?_));simp -implicitDefEqProofs (disch:=omega) only[go_sem];(repeat' (first |(refine K _ ?_;clear K kp) |(with_reducible refine And.intro ?_ ?_) |omega))));(refine C1 ?_;(refine rJ results13 ?_;refine(BS hE [0,1,3] rfl ?_ ?_).s<;>simp[A8,AY,lk,ren,renL,AA,AU,DR]))
theorem Qa (u:Bool)(n:ByteArray)(G:GL)(x:CO):Con prog G 49 [.agg (eC x),.re u [.r (.string n)] 0] [] 0 (Is (.r (.bool (KS n x))) [] 0) No:=by
 refine cJ func49 fun E hG hE=>?_;subst hG;simp only[AX];(repeat' (first |refine A0 ?_ |((refine sR (fun K kp=>?_));simp(disch:=omega) only[go_sem,eC];(repeat' (refine K _ ?_;clear K kp))) |refine A5 ?_));(refine rJ results49 ?_;refine eN hE ?_;simp[A8,ren,renL,KS])
theorem FA (G:GL)(t:TB)(n:ByteArray)(hl:t.cols.length≤1048576):Con prog G 18 [.agg (Ad t),.r (.string n)] [] 0 (Is (.r (.int .i64 (Ab t.cols n))) [] 0) No:=by
 have ic:=F3 G true t.cols 49 [.re false [.r (.string n)] 0] (KS n) hl (fun st=>by simp[C0,FE]) (fun f=>by simp[renL,ren]) (fun G x=>Qa false n G x);refine cJ func18 fun E hG hE=>?_;subst hG;simp only[AX];(repeat' (first |refine A0 ?_ |((first |refine sR (fun K kp=>?_) |refine cR ic ?_);simp(disch:=omega) only[go_sem,Ad];(repeat' (refine K _ ?_;clear K kp))) |refine A5 ?_));(refine rJ results18 ?_;refine eN hE ?_;simp[A8,ren,renL,Ab])
theorem Hw (G:GL)(t t':Bool)(l:List NE)(hl:l.length≤1048576):Con prog G 8 [.ro t 2 (l.map DR),.ro t' 2 (l.map DR)] [] 0 (Is (.r (.bool true)) [] 0) No:=by
 refine cJ func8 fun E hG hE=>?_;subst hG;simp only[AX];(repeat' (first |refine A0 ?_ |refine A4 ?_ |refine A3 ?_ |((refine sR (fun K kp=>?_));simp(disch:=omega) only[go_sem,bY];(repeat' (refine K _ ?_;clear K kp))) |refine A1 rfl ?_));refine AB (fun k:Nat=>⟨[(5,.r (.int .i64 k)),(0,.ro t 2 (l.map DR)),(1,.ro t' 2 (l.map DR))],[],0⟩) (fun k=>k≤l.length) (fun k=>l.length - k) 0 ?_ ?_ ?_
 ·simp
 ·(exact iK hE [])
 intro k hk
 by_cases hlt:k<l.length
 ·obtain⟨x,hx⟩: ∃x,l[k]?=some x:=⟨l[k],by simp[hlt]⟩
  have d1:decide ((k:Int)<(l.length:Int))=true:=aE (by omega);(repeat' (first |refine A0 ?_ |refine A4 ?_ |refine A3 ?_ |((first |refine sR (fun K kp=>?_) |refine sI (id:=6) mixed 9 (fun K kp=>?_));simp(disch:=omega) only[go_sem,hx,DR,d1,beq_self_eq_true,Bool.and_self,Bool.and_true,Bool.not_true];(repeat' (refine K _ ?_;clear K kp))) |refine A2 rfl ?_ |refine A1 rfl ?_));(refine BF (k+1) ?_ (iK hE []));omega
 ·have d1:decide ((k:Int)<(l.length:Int))=false:=aC (by omega)
  (repeat' (first |refine A0 ?_ |refine A7 ?_ |((refine sR (fun K kp=>?_));simp(disch:=omega) only[go_sem,d1];(repeat' (refine K _ ?_;clear K kp))) |refine A1 rfl ?_ |refine A5 ?_));(refine rJ results8 ?_;exact eQ hE)
def Ku (k:Ky)(l:List Et):List Et:=l.dropWhile fun e=> !BI k e.1
theorem SX (k:Ky): ∀l:List Et,Zd k l=(Ku k l).head?
 | []=>rfl
 |e::r=>by
  rw[Zd,Ku,fO];cases h:BI k e.1
  ·simp only[Bool.not_false,if_true,bU,if_false];exact SX k r
  ·simp
theorem Hg {ps:List PG}{r d:Nat}(ho:Dk ps){e:Et}(he:e ∈ BG ps d r):e.1.length≤1048576:=by
 obtain⟨x,_,hk⟩:=MZ he
 by_cases hx:x<ps.length
 ·have e1:pg ps x=ps[x]:=by simp[pg,hx]
  rw[e1] at hk;exact(ho.2 _ (fL hx)).2.2.2 _ hk
 ·have e1:pg ps x=default:=by simp[pg,hx]
  rw[e1] at hk;cases hk
theorem GO {ps:List PG}{root:Int}(h:Dj ps root=0):ChkOK ps root:=by
 by_cases hc:ChkOK ps root
 ·exact hc
 ·rw[IS hc] at h;cases h
theorem Qu (G:GL)(t u:Bool)(ps:List PG)(root:Int)(k:Ky)(ho:Dk ps)(hc:Dj ps root=0):Con prog G 32 [.agg [.ro t 5 (ps.map eP),.r (.int .i64 root)],.ro u 1 (k.map AC)] [] 0 (Is (.ro true 2 ((Ku k (AT ps root)).map Cf)) [] 0) No:=by
 obtain⟨r,d,rfl,h⟩:=Eo (GO hc);rw[BJ h];have ec:=E5 G t h ho;have hlen:=Ej h.ok (Cj ps d [r]);have:=h.many
 have hlen:(BG ps d r).length≤16000:=by rw[BG];omega
 generalize BG ps d r=l at *;refine cJ func32 fun E hG hE=>?_;subst hG;simp only[AX];(repeat' (first |refine A0 ?_ |refine A4 ?_ |((first |refine sR (fun K kp=>?_) |refine cR ec ?_);simp(disch:=omega) only[go_sem];(repeat' (refine K _ ?_;clear K kp)))));refine AB (fun j:Nat=>⟨[(5,.ro true 2 ((l.drop j).map Cf)),(1,.ro u 1 (k.map AC))],[],0⟩) (fun j=>j≤l.length/\Ku k (l.drop j)=Ku k l) (fun j=>l.length - j) 0 ?_ ?_ ?_
 ·simp
 ·(exact iK hE [])
 intro j ⟨hj,hu⟩
 by_cases hlt:j<l.length
 ·obtain⟨x,hx⟩: ∃x,l[j]?=some x:=⟨l[j],by simp[hlt]⟩
  rw[Am hx] at hu ⊢;rw[Ku,fO] at hu;have d1:decide ((((l.drop (j+1)).length+1:Nat):Int)>0)=true:=aE (by omega);have kc:=Ar E.G u true k x.1;cases hb:BI k x.1
  ·rw[hb] at hu
   simp only[Bool.not_false,if_true] at hu;rw[show Op.bytesLess k x.1=false from hb] at kc;(repeat' (first |refine A0 ?_ |refine A4 ?_ |refine A3 ?_ |((first |refine sR (fun K kp=>?_) |refine cR kc ?_);simp(disch:=omega) only[go_sem,d1,Cf];(repeat' (refine K _ ?_;clear K kp))) |refine A2 rfl ?_));(refine XB (j+1) ?_ (iK hE []));exact⟨by omega,hu⟩
  ·rw[hb] at hu
   simp only[Bool.not_true,bU,if_false] at hu;rw[show Op.bytesLess k x.1=true from hb] at kc;rw[<-hu];(repeat' (first |refine A0 ?_ |refine A7 ?_ |((first |refine sR (fun K kp=>?_) |refine cR kc ?_);simp(disch:=omega) only[go_sem,d1,Cf];(repeat' (refine K _ ?_;clear K kp))) |refine A1 rfl ?_ |refine A5 ?_));(refine rJ results32 ?_;refine eN hE ?_;simp[A8,ren,renL,Cf])
 ·obtain rfl:j=l.length:=by omega
  rw[cS] at hu ⊢;rw[<-hu];(repeat' (first |refine A0 ?_ |refine A7 ?_ |((refine sR (fun K kp=>?_));simp(disch:=omega) only[go_sem];(repeat' (refine K _ ?_;clear K kp))) |refine A1 rfl ?_ |refine A5 ?_));(refine rJ results32 ?_;refine eN hE ?_;simp[A8,ren,renL,Ku])
theorem Nj (G:GL)(t:TB)(l:List NE)(k:Ky)(md:Int)(ho:Dk t.ps)(hc:Dj t.ps t.root=0)(hn:t.nm.size≤1048576)(hk:k.length≤100)(hl:l.length≤900):
  Con prog G 22 [.p 0 0 0,.ro true 1 (k.map AC),.r (.int .i64 md)] [(0,Nn t 1 l.length),(1,Gu l)] 2
   (Is (.tup []) [(0,Nn t 2 (l++[NE.mk (CH t.nm (Ku k (AT t.ps t.root))) md]).length),(2,Gu (l++[NE.mk (CH t.nm (Ku k (AT t.ps t.root))) md]))] 3) No:=by
 have ac:=Ul G t.ps t.root k ho (Zd k (AT t.ps t.root)) (fun _ r d e h=>by rw[e,BJ h])
 have hq:Ql t.ps t.root k=0:=by rw[Ql,if_neg (by simpa using hc),if_pos hk]
 obtain⟨r,d,hr,h⟩:=Eo (GO hc)
 have hkk: ∀e ∈ AT t.ps t.root,e.1.length≤1048576:=by rw[hr,BJ h];exact fun e he=>Hg ho he
 rw[hq,SX] at ac;simp only[Zc,if_true] at ac;generalize AT t.ps t.root=en at *;have hsub: ∀e ∈ Ku k en,e.1.length≤1048576:=fun e he=>hkk e ((List.dropWhile_suffix _).subset he)
 cases hm:Ku k en with
 |nil=>
  rw[hm] at ac;simp only[List.head?_nil] at ac;have bc:=QQ G t.nm hn;have dc:=EI G t l (Ko t.nm) md (by omega);simp only[CH];generalize l++[NE.mk (Ko t.nm) md]=l2 at dc ⊢;unfold Nn Gu at *;refine cJ func22 fun E hG hE=>?_;subst hG;simp only[AX];(repeat' (first |refine A0 ?_ |refine A3 ?_ |((first |refine sR (fun K kp=>?_) |refine oR [0,1] dc ?_ |refine cR ac ?_ |refine cR bc ?_);simp(disch:=omega) only[go_sem];(repeat' (refine K _ ?_;clear K kp))) |refine A1 rfl ?_));(refine C1 ?_;(refine rJ results22 ?_;refine(BS hE [0,1,3] rfl ?_ ?_).s<;>simp[A8,AY,lk,ren,renL,AA,AU]))
 |cons e q=>
  rw[hm] at ac;simp only[List.head?_cons] at ac;have bc:=Ly G true t.nm e.1 hn (hsub e (by rw[hm];simp));have dc:=EI G t l (EW t.nm e.1) md (by omega);simp only[CH,Cf] at ac ⊢;generalize l++[NE.mk (EW t.nm e.1) md]=l2 at dc ⊢;unfold Nn Gu at *;refine cJ func22 fun E hG hE=>?_;subst hG;simp only[AX];(repeat' (first |refine A0 ?_ |((first |refine sR (fun K kp=>?_) |refine sD (id:=2) mixed 10 [0,1,2,3,4,5,6,7,9,8] (fun K kp=>?_) |refine oR [0,1] dc ?_ |refine cR ac ?_ |refine cD bc ?_);simp(disch:=omega) only[go_sem];(repeat' (refine K _ ?_;clear K kp))) |refine A2 rfl ?_ |refine A5 ?_));(refine rJ results22 ?_;refine(BS hE [0,1,3] rfl ?_ ?_).s<;>simp[A8,AY,lk,ren,renL,AA,AU])
def Fc (nm:ByteArray)(md:Int)(en:List Et)(low high:Ky):List NE:=(Er en low high).map (fun e=>NE.mk (EW nm e.1) md)++[NE.mk (if high.length=0 then Ko nm else CH nm (Ku high en)) md]
theorem NV (G:GL)(t:TB)(l:List NE)(low high:Ky)(md:Int)(ho:Dk t.ps)(hc:Dj t.ps t.root=0)(hn:t.nm.size≤1048576)(hlo:low.length≤100)(hhi:high.length≤100)(hl:l.length≤100)(hen:(AT t.ps t.root).length≤100):
  Con prog G 23 [.p 0 0 0,.ro true 1 (low.map AC),.ro true 1 (high.map AC),.r (.int .i64 md)] [(0,Nn t 1 l.length),(1,Gu l)] 2
   (Is (.tup []) [(0,Nn t 2 (l++Fc t.nm md (AT t.ps t.root) low high).length),(2,Gu (l++Fc t.nm md (AT t.ps t.root) low high))] 3) No:=by
 have sc:=Pf G true t.ps t.root low high ho (Er (AT t.ps t.root) low high) (fun _ r d e h=>by rw[e,BJ h])
 have hq:NK t.ps t.root low high=0:=by rw[NK,if_neg (by simpa using hc),if_pos ⟨hlo,hhi⟩]
 obtain⟨r,d,hr,h⟩:=Eo (GO hc)
 have hkk: ∀e ∈ AT t.ps t.root,e.1.length≤1048576:=by rw[hr,BJ h];exact fun e he=>Hg ho he
 rw[hq] at sc;simp only[Sc,if_true] at sc;have hsl:(Er (AT t.ps t.root) low high).length≤100:=bL (gK _ _) hen;have hsk: ∀e ∈ Er (AT t.ps t.root) low high,e.1.length≤1048576:=fun e he=>hkk e (List.mem_filter.1 he).1;unfold Fc;rw[<-bB];have nc: ∀G (q:List NE),q.length≤900->_:=fun G q hq=>Nj G t q high md ho hc hn hhi hq;generalize CH t.nm (Ku high (AT t.ps t.root))=th at nc ⊢;generalize Er (AT t.ps t.root) low high=R at *;unfold Nn Gu at *;refine cJ func23 fun E hG hE=>?_;subst hG;simp only[AX];(repeat' (first |refine A0 ?_ |refine A4 ?_ |((first |refine sR (fun K kp=>?_) |refine cR sc ?_);simp(disch:=omega) only[go_sem];(repeat' (refine K _ ?_;clear K kp)))));refine AB (fun z:Nat×List NE=>⟨[(25,.r (.int .i64 z.1)),(24,.r (.int .i64 R.length)),(23,.ro true 2 (R.map Cf)),(0,.p 0 0 0),(2,.ro true 1 (high.map AC)),(3,.r (.int .i64 md))],[(0,Nn t 2 z.2.length),(2,Gu z.2)],3⟩) (fun z=>z.1≤R.length/\z.2=l++(R.take z.1).map (fun e=>NE.mk (EW t.nm e.1) md)) (fun z=>R.length - z.1) (0,l) ?_ ?_ ?_
 ·simp
 ·unfold Nn Gu
  (refine ZK [0,1,1] ?_ ?_ rfl ?_ ?_ ?_ ?_<;>simp[MF,Ai,AY,lk,ren,renL,AA,AU,hE]<;>(try omega)<;>(try (intro i hi;first |(rcases i with _ |_ |i;rfl;rfl;(exfalso;omega)) |(rcases i with _ |_ |_ |i;rfl;rfl;rfl;(exfalso;omega)) |(rcases i with _ |_ |_ |_ |i;rfl;rfl;rfl;rfl;(exfalso;omega)) |(rcases i with _ |_ |_ |_ |_ |i;rfl;rfl;rfl;rfl;rfl;(exfalso;omega)) |(rcases i with _ |_ |_ |_ |_ |_ |i;rfl;rfl;rfl;rfl;rfl;rfl;(exfalso;omega)))))
 rintro⟨j,q⟩ ⟨hj,hq⟩;dsimp only at hj hq ⊢
 have hql:q.length≤200:=by rw[hq,List.length_append,List.length_map,aS];omega
 unfold Nn Gu
 by_cases hlt:j<R.length
 ·obtain⟨x,hx⟩: ∃x,R[j]?=some x:=⟨R[j],by simp[hlt]⟩
  have d1:decide ((j:Int)<(R.length:Int))=true:=aE (by omega);have bc:=Ly E.G true t.nm x.1 hn (hsk x (aB hx));have dc:=EI E.G t q (EW t.nm x.1) md (by omega);obtain⟨q2,hq2⟩: ∃q2,q2=q++[NE.mk (EW t.nm x.1) md]:=⟨_,rfl⟩;rw[<-hq2] at dc;unfold Nn Gu at dc;(repeat' (first |refine A0 ?_ |refine A4 ?_ |refine A3 ?_ |((first |refine sR (fun K kp=>?_) |refine sD (id:=4) mixed 10 [0,1,2,3,4,5,6,7,9,8] (fun K kp=>?_) |refine oR [0,2] dc ?_ |refine cD bc ?_);simp(disch:=omega) only[go_sem,d1,hx,Cf];(repeat' (refine K _ ?_;clear K kp))) |refine A2 rfl ?_));(refine BF ((j+1,q2)) ?_ (iK hE [0,1,4]));refine⟨by omega,?_⟩;rw[hq2,hq,aV,hx,List.map_append,bB]
  rfl
 ·obtain rfl:j=R.length:=by omega
  have d1:decide ((R.length:Int)<(R.length:Int))=false:=aC (by omega);rw[bZ] at hq;rw[<-hq]
  by_cases hh:high.length=0
  ·have d2:decide ((high.length:Int)>0)=false:=aC (by omega)
   rw[if_pos hh];have bc:=QQ E.G t.nm hn;have dc:=EI E.G t q (Ko t.nm) md (by omega);generalize q++[NE.mk (Ko t.nm) md]=q2 at dc ⊢;unfold Nn Gu at dc;(repeat' (first |refine A0 ?_ |refine A3 ?_ |refine A7 ?_ |((first |refine sR (fun K kp=>?_) |refine oR [0,2] dc ?_ |refine cR bc ?_);simp(disch:=omega) only[go_sem,d1,d2];(repeat' (refine K _ ?_;clear K kp))) |refine A1 rfl ?_));(refine C1 ?_;(refine rJ results23 ?_;refine(BS hE [0,1,3] rfl ?_ ?_).s<;>simp[A8,AY,lk,ren,renL,AA,AU]))
  ·have d2:decide ((high.length:Int)>0)=true:=aE (by omega)
   rw[if_neg hh];have nc:=nc E.G q (by omega);generalize q++[NE.mk th md]=q2 at nc ⊢;(repeat' (first |refine A0 ?_ |refine A7 ?_ |((first |refine sR (fun K kp=>?_) |refine oR [0,2] nc ?_);simp(disch:=omega) only[go_sem,d1,d2];(repeat' (refine K _ ?_;clear K kp))) |refine A2 rfl ?_ |refine A1 rfl ?_ |refine A5 ?_));(refine rJ results23 ?_;refine(BS hE [0,1,3] rfl ?_ ?_).s<;>simp[A8,AY,lk,ren,renL,AA,AU])
def Ga:Except Int (List UInt8×List UInt8)->Ky
 | .error _=>[]
 | .ok (a,_)=>a
def GR:Except Int (List UInt8×List UInt8)->Ky
 | .error _=>[]
 | .ok (_,b)=>b
def WO:Except Int (List UInt8×List UInt8)->Int
 | .error e=>e
 | .ok _=>0
theorem Cr (x:Except Int (List UInt8×List UInt8)):CG x= .tup [EK (Ga x),EK (GR x),.r (.int .i64 (WO x))]:=by
 cases x with
 |error e=>rfl
 |ok ab=>rfl
def XO:Except Int Int->Int
 | .error _=>0
 | .ok k=>k
def Zq:Except Int Int->Int
 | .error e=>e
 | .ok _=>0
theorem Px (x:Except Int Int):A_ x= .tup [.r (.int .i64 (XO x)),.r (.int .i64 (Zq x))]:=by cases x<;>rfl
def S5 (l:List CO)(n:ByteArray):Int:=((l[(Ab l n).toNat]?).map CO.k).getD 0
def Bl (t:TB)(s:ST)(trW trT:RT OP):Bool:=
 if s.k=3 then Bb t.cols s.row !=0
 else if s.k=4/\(s.names.any (fun n=>decide (Ab t.cols n<0))=true\/Oo s.ord=false/\Ab t.cols s.ord<0) then true
 else if s.k=5/\(Ab t.cols s.set<0\/Zq (Bm t.cols s.to trT)≠0\/XO (Bm t.cols s.to trT)≠0/\XO (Bm t.cols s.to trT)≠S5 t.cols s.set) then true
 else WO (AN t.cols s.wh trW) !=0
@[simp,go_sem] theorem A1b (f:Nat->Nat) (l:Ky):ren f (EK l)=EK l:=by
  cases l with
  |nil=>rfl
  |cons x r=>rfl
structure LostOK (t:TB)(s:ST)(trW trT:RT OP):Prop where
 ot:okTB t
 os:okST s
 g: ∀o ∈ s.wh,gV ⟨o.vk,o.vn,o.vs⟩
 w:AZ s.wh=0->trW.wf BN/\trW.flat=s.wh
 tt:AZ s.to=0->trT.wf BN/\trT.flat=s.to
theorem M7 {t:TB}{s:ST}{trW trT:RT OP}(h:s.k=3):Bl t s trW trT=(Bb t.cols s.row !=0):=by rw[Bl,if_pos h]
theorem Nq {t:TB}{s:ST}{trW trT:RT OP}(h:s.k=4){n:ByteArray}{j:Nat}(hn:s.names[j]?=some n)(hf:Ab t.cols n<0):Bl t s trW trT=true:=by
 rw[Bl,if_neg (by omega),if_pos ⟨h,.inl (dJ.2 ⟨n,aB hn,aE hf⟩)⟩]
theorem Q0 {t:TB}{s:ST}{trW trT:RT OP}(h:s.k=4)(he:Oo s.ord=false)(hf:Ab t.cols s.ord<0):Bl t s trW trT=true:=by
 rw[Bl,if_neg (by omega),if_pos ⟨h,.inr ⟨he,hf⟩⟩]
theorem J1 {t:TB}{s:ST}{trW trT:RT OP}(h:s.k=4)(hall: ∀i n,i<s.names.length->s.names[i]?=some n-> ¬Ab t.cols n<0)(ho:Oo s.ord=true\/ ¬Ab t.cols s.ord<0):Bl t s trW trT=(WO (AN t.cols s.wh trW) !=0):=by
 rw[Bl,if_neg (by omega),if_neg,if_neg (by omega)];rintro⟨_,h1 |⟨h1,h2⟩⟩
 ·obtain⟨n,hn,hf⟩:=dJ.1 h1
  obtain⟨i,hi⟩:=aO.1 hn;exact hall i n (aA.1 hi).1 hi (by simpa using hf)
 ·rcases ho with h |h
  ·rw[h] at h1;cases h1
  ·exact h h2
theorem J0 {t:TB}{s:ST}{trW trT:RT OP}(h:s.k=5)(hf:Ab t.cols s.set<0\/Zq (Bm t.cols s.to trT)≠0\/XO (Bm t.cols s.to trT)≠0/\XO (Bm t.cols s.to trT)≠S5 t.cols s.set):Bl t s trW trT=true:=by
 rw[Bl,if_neg (by omega),if_neg (by omega),if_pos ⟨h,hf⟩]
theorem Pz {t:TB}{s:ST}{trW trT:RT OP}(h:s.k=5)(h1: ¬Ab t.cols s.set<0)(h2:Zq (Bm t.cols s.to trT)=0)(h3:XO (Bm t.cols s.to trT)=0\/XO (Bm t.cols s.to trT)=S5 t.cols s.set):Bl t s trW trT=(WO (AN t.cols s.wh trW) !=0):=by
 rw[Bl,if_neg (by omega),if_neg (by omega),if_neg];rintro⟨_,h4 |h4 |⟨h4,h5⟩⟩
 ·exact h1 h4
 ·exact h4 h2
 ·exact h3.elim h4 h5
theorem Nr {t:TB}{s:ST}{trW trT:RT OP}(h3:s.k≠3)(h4:s.k≠4)(h5:s.k≠5):Bl t s trW trT=(WO (AN t.cols s.wh trW) !=0):=by
 rw[Bl,if_neg h3,if_neg (fun h=>h4 h.1),if_neg (fun h=>h5 h.1)]
theorem GH {G:GL}(T:Tabs G)(HR:Ch G){t:TB}{s:ST}{trW trT:RT OP}(o:LostOK t s trW trT):Con prog G 16 [.agg (Ad t),.agg (AI s)] [] 0 (Is (.r (.bool (Bl t s trW trT))) [] 0) No:=by
 by_cases k3:s.k=3
 ·have d3:(s.k==3)=true:=by simpa using k3
  have rc:=KX T t.cols s.row o.ot.cl o.os.lr o.ot.cs o.os.row;rw[M7 k3];refine cJ func16 fun E hG hE=>?_;subst hG;simp only[AX];(repeat' (first |refine A0 ?_ |refine A4 ?_ |((first |refine sR (fun K kp=>?_) |refine cR rc ?_);simp -implicitDefEqProofs (disch:=omega) only[go_sem,d3,Ad,AI];(repeat' (refine K _ ?_;clear K kp))) |refine A2 rfl ?_ |refine A5 ?_));(refine rJ results16 ?_;exact eQ hE)
 have d3:(s.k==3)=false:=by simpa using k3
 have bc:=GQ T HR t.cols s.wh trW o.ot.cl o.os.lw o.ot.cs o.os.wh o.g o.w;rw[Cr] at bc
 by_cases k4:s.k=4
 ·have d4:(s.k==4)=true:=by simpa using k4
  have hln:=o.os.ln;obtain⟨y,hy⟩: ∃y,y=Bl t s trW trT:=⟨_,rfl⟩;rw[<-hy];refine cJ func16 fun E hG hE=>?_;subst hG;simp only[AX];(repeat' (first |refine A0 ?_ |refine A4 ?_ |((refine sR (fun K kp=>?_));simp -implicitDefEqProofs (disch:=omega) only[go_sem,d3,d4,Ad,AI];(repeat' (refine K _ ?_;clear K kp))) |refine A2 rfl ?_ |refine A1 rfl ?_));refine AB (fun j:Nat=>⟨[(28,.r (.int .i64 j)),(27,.r (.int .i64 s.names.length)),(26,.ro true 1 (s.names.map BK)),(2,.p 0 0 0),(3,.p 1 0 0)],[(0,.box 45 (Ad t)),(1,.box 30 (AI s))],2⟩) (fun j=>j≤s.names.length/\ ∀i n,i<j->s.names[i]?=some n-> ¬Ab t.cols n<0) (fun j=>s.names.length - j) 0 ?_ ?_ ?_
  ·exact⟨aU _,fun i n h=>by omega⟩
  ·(refine AJ hE [0,1] rfl ?_ ?_<;>simp[Ai,AY,lk,ren,renL,AA,AU,Ad,AI]<;>(try omega))
  rintro j ⟨hj,hall⟩
  by_cases hlt:j<s.names.length
  ·obtain⟨x,hx⟩: ∃x,s.names[j]?=some x:=⟨s.names[j],by simp[hlt]⟩
   have d1:decide ((j:Int)<(s.names.length:Int))=true:=aE (by omega);have cc:=FA E.G t x o.ot.cl;simp only[Ad] at cc
   by_cases hf:Ab t.cols x<0
   ·have d5:decide (Ab t.cols x<0)=true:=aE hf
    rw[Nq k4 hx hf] at hy;subst hy;(repeat' (first |refine A0 ?_ |refine A4 ?_ |refine A3 ?_ |((first |refine sR (fun K kp=>?_) |refine cR cc ?_);simp -implicitDefEqProofs (disch:=omega) only[go_sem,d1,hx,BK,Ad,AI,d5];(repeat' (refine K _ ?_;clear K kp))) |refine A2 rfl ?_ |refine A5 ?_));(refine rJ results16 ?_;exact eQ hE)
   ·have d5:decide (Ab t.cols x<0)=false:=aC hf
    (repeat' (first |refine A0 ?_ |refine A4 ?_ |refine A3 ?_ |((first |refine sR (fun K kp=>?_) |refine cR cc ?_);simp -implicitDefEqProofs (disch:=omega) only[go_sem,d1,hx,BK,Ad,AI,d5];(repeat' (refine K _ ?_;clear K kp))) |refine A2 rfl ?_ |refine A1 rfl ?_));(refine BF (j+1) ?_ ?_;rotate_left;(·(refine AJ hE [0,1] rfl ?_ ?_<;>simp[Ai,AY,lk,ren,renL,AA,AU,Ad,AI]<;>(try omega))));refine⟨by omega,fun i n hi hn=>?_⟩
    rcases fW i j with h |h
    ·exact hall i n h hn
    ·obtain rfl:i=j:=by omega
     rw[hx] at hn;cases hn;exact hf
  obtain rfl:j=s.names.length:=by omega
  have d1:decide ((s.names.length:Int)<(s.names.length:Int))=false:=aC (by omega);cases ho:Oo s.ord
  ·have e2:(s.ord.toList==ByteArray.toList ⟨#[]⟩)=false:=ho
   have cc:=FA E.G t s.ord o.ot.cl;simp only[Ad] at cc
   by_cases hf:Ab t.cols s.ord<0
   ·have d5:decide (Ab t.cols s.ord<0)=true:=aE hf
    rw[Q0 k4 ho hf] at hy;subst hy;(repeat' (first |refine A0 ?_ |refine A7 ?_ |((first |refine sR (fun K kp=>?_) |refine cR cc ?_);simp -implicitDefEqProofs (disch:=omega) only[go_sem,d1,Ad,AI,Bool.not_false,Bool.not_true,e2,d5];(repeat' (refine K _ ?_;clear K kp))) |refine A2 rfl ?_ |refine A1 rfl ?_ |refine A5 ?_));(refine rJ results16 ?_;exact eQ hE)
   ·have d5:decide (Ab t.cols s.ord<0)=false:=aC hf
    rw[J1 k4 hall (.inr hf)] at hy;subst hy;(repeat' (first |refine A0 ?_ |refine A3 ?_ |refine A7 ?_ |((first |refine sR (fun K kp=>?_) |refine cR cc ?_ |refine cR bc ?_);simp -implicitDefEqProofs (disch:=omega) only[go_sem,d1,Ad,AI,Bool.not_false,Bool.not_true,e2,d5];(repeat' (refine K _ ?_;clear K kp))) |refine A1 rfl ?_ |refine A5 ?_));(refine rJ results16 ?_;exact eQ hE)
  ·have e2:(s.ord.toList==ByteArray.toList ⟨#[]⟩)=true:=ho
   rw[J1 k4 hall (.inl ho)] at hy;subst hy;(repeat' (first |refine A0 ?_ |refine A3 ?_ |refine A7 ?_ |((first |refine sR (fun K kp=>?_) |refine cR bc ?_);simp -implicitDefEqProofs (disch:=omega) only[go_sem,d1,Ad,AI,Bool.not_false,Bool.not_true,e2];(repeat' (refine K _ ?_;clear K kp))) |refine A1 rfl ?_ |refine A5 ?_));(refine rJ results16 ?_;exact eQ hE)
 have d4:(s.k==4)=false:=by simpa using k4
 by_cases k5:s.k=5
 ·have d5:(s.k==5)=true:=by simpa using k5
  have cc:=FA G t s.set o.ot.cl;simp only[Ad] at cc
  by_cases hf:Ab t.cols s.set<0
  ·have d6:decide (Ab t.cols s.set<0)=true:=aE hf
   rw[J0 k5 (.inl hf)];refine cJ func16 fun E hG hE=>?_;subst hG;simp only[AX];(repeat' (first |refine A0 ?_ |refine A4 ?_ |((first |refine sR (fun K kp=>?_) |refine cR cc ?_);simp -implicitDefEqProofs (disch:=omega) only[go_sem,d3,d4,d5,Ad,AI,d6];(repeat' (refine K _ ?_;clear K kp))) |refine A2 rfl ?_ |refine A1 rfl ?_ |refine A5 ?_));(refine rJ results16 ?_;exact eQ hE)
  have kc:=Q7 T t.cols s.to trT o.ot.cl o.os.lt o.ot.cs o.os.to o.tt;rw[Px] at kc;obtain⟨c,hc⟩:=J9 t.cols s.set hf;obtain⟨i,hi⟩: ∃i:Nat,Ab t.cols s.set=(i:Int):=⟨(Ab t.cols s.set).toNat,by omega⟩
  have hcol:S5 t.cols s.set=c.k:=by rw[S5,hc];rfl
  rw[hi,Int.toNat_natCast] at hc;have d6:decide ((i:Int)<0)=false:=aC (by omega);have hlt:=(aA.1 hc).1;have zi:((i:Int)<(t.cols.length:Int))=True:=aK (by omega);have l1:= @J0 t s trW trT k5;have l2:= @Pz t s trW trT k5 hf;rw[hcol] at l1 l2;rw[hi] at cc;generalize Zq (Bm t.cols s.to trT)=ke at kc l1 l2;generalize XO (Bm t.cols s.to trT)=kv at kc l1 l2
  by_cases he:ke=0
  rotate_left
  ·have d7:(ke !=0)=true:=by simpa using he
   rw[l1 (.inr (.inl he))];refine cJ func16 fun E hG hE=>?_;subst hG;simp only[AX];(repeat' (first |refine A0 ?_ |refine A4 ?_ |refine A3 ?_ |((first |refine sR (fun K kp=>?_) |refine cR cc ?_ |refine cR kc ?_);simp -implicitDefEqProofs (disch:=omega) only[go_sem,d3,d4,d5,Ad,AI,d6,d7];(repeat' (refine K _ ?_;clear K kp))) |refine A2 rfl ?_ |refine A1 rfl ?_ |refine A5 ?_));(refine rJ results16 ?_;exact eQ hE)
  have d7:(ke !=0)=false:=by simpa using he
  by_cases hv:kv=0
  ·have d8:(kv !=0)=false:=by simpa using hv
   rw[l2 he (.inl hv)];refine cJ func16 fun E hG hE=>?_;subst hG;simp only[AX];(repeat' (first |refine A0 ?_ |refine A4 ?_ |refine A3 ?_ |((first |refine sR (fun K kp=>?_) |refine cR cc ?_ |refine cR kc ?_ |refine cR bc ?_);simp -implicitDefEqProofs (disch:=omega) only[go_sem,d3,d4,d5,Ad,AI,d6,d7,d8];(repeat' (refine K _ ?_;clear K kp))) |refine A2 rfl ?_ |refine A1 rfl ?_ |refine A5 ?_));(refine rJ results16 ?_;exact eQ hE)
  have d8:(kv !=0)=true:=by simpa using hv
  by_cases hw:kv=c.k
  ·have d9:(kv !=c.k)=false:=by simpa using hw
   rw[l2 he (.inr hw)];refine cJ func16 fun E hG hE=>?_;subst hG;simp only[AX];(repeat' (first |refine A0 ?_ |refine A4 ?_ |refine A3 ?_ |((first |refine sR (fun K kp=>?_) |refine cR cc ?_ |refine cR kc ?_ |refine cR bc ?_);simp -implicitDefEqProofs (disch:=omega) only[go_sem,d3,d4,d5,Ad,AI,d6,d7,d8,d9,hc,eC,zi];(repeat' (refine K _ ?_;clear K kp))) |refine A2 rfl ?_ |refine A1 rfl ?_ |refine A5 ?_));(refine rJ results16 ?_;exact eQ hE)
  ·have d9:(kv !=c.k)=true:=by simpa using hw
   rw[l1 (.inr (.inr ⟨hv,hw⟩))];refine cJ func16 fun E hG hE=>?_;subst hG;simp only[AX];(repeat' (first |refine A0 ?_ |refine A4 ?_ |refine A3 ?_ |((first |refine sR (fun K kp=>?_) |refine cR cc ?_ |refine cR kc ?_);simp -implicitDefEqProofs (disch:=omega) only[go_sem,d3,d4,d5,Ad,AI,d6,d7,d8,d9,hc,eC,zi];(repeat' (refine K _ ?_;clear K kp))) |refine A2 rfl ?_ |refine A1 rfl ?_ |refine A5 ?_));(refine rJ results16 ?_;exact eQ hE)
 ·have d5:(s.k==5)=false:=by simpa using k5
  rw[Nr k3 k4 k5];refine cJ func16 fun E hG hE=>?_;subst hG;simp only[AX];(repeat' (first |refine A0 ?_ |refine A4 ?_ |refine A3 ?_ |((first |refine sR (fun K kp=>?_) |refine cR bc ?_);simp -implicitDefEqProofs (disch:=omega) only[go_sem,d3,d4,d5,Ad,AI];(repeat' (refine K _ ?_;clear K kp))) |refine A1 rfl ?_ |refine A5 ?_));(refine rJ results16 ?_;exact eQ hE)
theorem ED (G:GL){t:TB}{s:ST}{trW trT:RT OP}(o:LostOK t s trW trT):Con prog G 30 [.agg (Ad t),.agg (AI s)] [] 0 (Is (.r (.bool (Bl t s trW trT))) [] 0) No:=by
 by_cases k3:s.k=3
 ·have d3:(s.k==3)=true:=by simpa using k3
  have rc:=Ii (G:=G) t.cols s.row o.ot.cl o.os.lr o.ot.cs o.os.row;rw[M7 k3];refine cJ func30 fun E hG hE=>?_;subst hG;simp only[AX];(repeat' (first |refine A0 ?_ |((first |refine sR (fun K kp=>?_) |refine cR rc ?_);simp(disch:=omega) only[go_sem,d3,Ad,AI];(repeat' (refine K _ ?_;clear K kp))) |refine A2 rfl ?_ |refine A5 ?_));(refine rJ results30 ?_;exact eQ hE)
 have d3:(s.k==3)=false:=by simpa using k3
 have bc:=Ef G t.cols s.wh trW o.ot.cl o.os.lw o.ot.cs o.os.wh o.g o.w;rw[Cr] at bc
 by_cases k4:s.k=4
 ·have d4:(s.k==4)=true:=by simpa using k4
  have d9:(s.k==5)=false:=by rw[k4];rfl
  have hln:=o.os.ln;obtain⟨y,hy⟩: ∃y,y=Bl t s trW trT:=⟨_,rfl⟩;rw[<-hy];refine cJ func30 fun E hG hE=>?_;subst hG;simp only[AX];(repeat' (first |refine A0 ?_ |refine A4 ?_ |refine A3 ?_ |((refine sR (fun K kp=>?_));simp(disch:=omega) only[go_sem,d3,d4,d9,Ad,AI];(repeat' (refine K _ ?_;clear K kp))) |refine A2 rfl ?_ |refine A1 rfl ?_));refine AB (fun j:Nat=>⟨[(5,.r (.int .i64 j)),(2,.p 0 0 0),(3,.p 1 0 0)],[(0,.box 45 (Ad t)),(1,.box 30 (AI s))],2⟩) (fun j=>j≤s.names.length/\ ∀i n,i<j->s.names[i]?=some n-> ¬Ab t.cols n<0) (fun j=>s.names.length - j) 0 ?_ ?_ ?_
  ·exact⟨aU _,fun i n h=>by omega⟩
  ·(refine AJ hE [0,1] rfl ?_ ?_<;>simp[Ai,AY,lk,ren,renL,AA,AU,Ad,AI]<;>(try omega))
  rintro j ⟨hj,hall⟩
  by_cases hlt:j<s.names.length
  ·obtain⟨x,hx⟩: ∃x,s.names[j]?=some x:=⟨s.names[j],by simp[hlt]⟩
   have d1:decide ((j:Int)<(s.names.length:Int))=true:=aE (by omega);have cc:=Hi E.G true t.cols x o.ot.cl
   by_cases hf:Ab t.cols x<0
   ·have d5:decide (Ab t.cols x<0)=true:=aE hf
    rw[Nq k4 hx hf] at hy;subst hy;(repeat' (first |refine A0 ?_ |refine A4 ?_ |refine A3 ?_ |((first |refine sR (fun K kp=>?_) |refine sI (id:=7) mixed 9 (fun K kp=>?_) |refine cD cc ?_);simp(disch:=omega) only[go_sem,d1,d9,hx,BK,Ad,AI,d5];(repeat' (refine K _ ?_;clear K kp))) |refine A2 rfl ?_ |refine A5 ?_));(refine rJ results30 ?_;exact eQ hE)
   ·have d5:decide (Ab t.cols x<0)=false:=aC hf
    (repeat' (first |refine A0 ?_ |refine A4 ?_ |refine A3 ?_ |((first |refine sR (fun K kp=>?_) |refine sI (id:=7) mixed 9 (fun K kp=>?_) |refine cD cc ?_);simp(disch:=omega) only[go_sem,d1,d9,hx,BK,Ad,AI,d5];(repeat' (refine K _ ?_;clear K kp))) |refine A2 rfl ?_ |refine A1 rfl ?_));(refine BF (j+1) ?_ ?_;rotate_left;(·(refine AJ hE [0,1] rfl ?_ ?_<;>simp[Ai,AY,lk,ren,renL,AA,AU,Ad,AI]<;>(try omega))));refine⟨by omega,fun i n hi hn=>?_⟩
    rcases fW i j with h |h
    ·exact hall i n h hn
    ·obtain rfl:i=j:=by omega
     rw[hx] at hn;cases hn;exact hf
  obtain rfl:j=s.names.length:=by omega
  have d1:decide ((s.names.length:Int)<(s.names.length:Int))=false:=aC (by omega);cases ho:Oo s.ord
  ·have e2:(s.ord.toList==ByteArray.toList ⟨#[]⟩)=false:=ho
   have cc:=Hi E.G true t.cols s.ord o.ot.cl
   by_cases hf:Ab t.cols s.ord<0
   ·have d5:decide (Ab t.cols s.ord<0)=true:=aE hf
    rw[Q0 k4 ho hf] at hy;subst hy;(repeat' (first |refine A0 ?_ |refine A7 ?_ |((first |refine sR (fun K kp=>?_) |refine cR cc ?_);simp(disch:=omega) only[go_sem,d1,d9,Ad,AI,Bool.not_false,Bool.not_true,e2,d5];(repeat' (refine K _ ?_;clear K kp))) |refine A2 rfl ?_ |refine A1 rfl ?_ |refine A5 ?_));(refine rJ results30 ?_;exact eQ hE)
   ·have d5:decide (Ab t.cols s.ord<0)=false:=aC hf
    rw[J1 k4 hall (.inr hf)] at hy;subst hy;(repeat' (first |refine A0 ?_ |refine A3 ?_ |refine A7 ?_ |((first |refine sR (fun K kp=>?_) |refine cR cc ?_ |refine cR bc ?_);simp(disch:=omega) only[go_sem,d1,d9,Ad,AI,Bool.not_false,Bool.not_true,e2,d5];(repeat' (refine K _ ?_;clear K kp))) |refine A1 rfl ?_ |refine A5 ?_));(refine rJ results30 ?_;exact eQ hE)
  ·have e2:(s.ord.toList==ByteArray.toList ⟨#[]⟩)=true:=ho
   rw[J1 k4 hall (.inl ho)] at hy;subst hy;(repeat' (first |refine A0 ?_ |refine A3 ?_ |refine A7 ?_ |((first |refine sR (fun K kp=>?_) |refine cR bc ?_);simp(disch:=omega) only[go_sem,d1,d9,Ad,AI,Bool.not_false,Bool.not_true,e2];(repeat' (refine K _ ?_;clear K kp))) |refine A1 rfl ?_ |refine A5 ?_));(refine rJ results30 ?_;exact eQ hE)
 have d4:(s.k==4)=false:=by simpa using k4
 by_cases k5:s.k=5
 ·have d5:(s.k==5)=true:=by simpa using k5
  have cc:=Hi G true t.cols s.set o.ot.cl
  by_cases hf:Ab t.cols s.set<0
  ·have d6:decide (Ab t.cols s.set<0)=true:=aE hf
   rw[J0 k5 (.inl hf)];refine cJ func30 fun E hG hE=>?_;subst hG;simp only[AX];(repeat' (first |refine A0 ?_ |refine A3 ?_ |((first |refine sR (fun K kp=>?_) |refine cR cc ?_);simp(disch:=omega) only[go_sem,d3,d4,d5,Ad,AI,d6];(repeat' (refine K _ ?_;clear K kp))) |refine A2 rfl ?_ |refine A1 rfl ?_ |refine A5 ?_));(refine rJ results30 ?_;exact eQ hE)
  have kc:=I2 G t.cols s.to trT o.ot.cl o.os.lt o.ot.cs o.os.to o.tt;rw[Px] at kc;obtain⟨c,hc⟩:=J9 t.cols s.set hf;obtain⟨i,hi⟩: ∃i:Nat,Ab t.cols s.set=(i:Int):=⟨(Ab t.cols s.set).toNat,by omega⟩
  have hcol:S5 t.cols s.set=c.k:=by rw[S5,hc];rfl
  rw[hi,Int.toNat_natCast] at hc;have d6:decide ((i:Int)<0)=false:=aC (by omega);have hlt:=(aA.1 hc).1;have zi:((i:Int)<(t.cols.length:Int))=True:=aK (by omega);have l1:= @J0 t s trW trT k5;have l2:= @Pz t s trW trT k5 hf;rw[hcol] at l1 l2;rw[hi] at cc;generalize Zq (Bm t.cols s.to trT)=ke at kc l1 l2;generalize XO (Bm t.cols s.to trT)=kv at kc l1 l2
  by_cases he:ke=0
  rotate_left
  ·have d7:(ke !=0)=true:=by simpa using he
   rw[l1 (.inr (.inl he))];refine cJ func30 fun E hG hE=>?_;subst hG;simp only[AX];(repeat' (first |refine A0 ?_ |refine A3 ?_ |((first |refine sR (fun K kp=>?_) |refine cR cc ?_ |refine cR kc ?_);simp(disch:=omega) only[go_sem,d3,d4,d5,Ad,AI,d6,d7];(repeat' (refine K _ ?_;clear K kp))) |refine A2 rfl ?_ |refine A1 rfl ?_ |refine A5 ?_));(refine rJ results30 ?_;exact eQ hE)
  have d7:(ke !=0)=false:=by simpa using he
  by_cases hv:kv=0
  ·have d8:(kv !=0)=false:=by simpa using hv
   rw[l2 he (.inl hv)];refine cJ func30 fun E hG hE=>?_;subst hG;simp only[AX];(repeat' (first |refine A0 ?_ |refine A3 ?_ |((first |refine sR (fun K kp=>?_) |refine cR cc ?_ |refine cR kc ?_ |refine cR bc ?_);simp(disch:=omega) only[go_sem,d3,d4,d5,Ad,AI,d6,d7,d8];(repeat' (refine K _ ?_;clear K kp))) |refine A2 rfl ?_ |refine A1 rfl ?_ |refine A5 ?_));(refine rJ results30 ?_;exact eQ hE)
  have d8:(kv !=0)=true:=by simpa using hv
  by_cases hw:kv=c.k
  ·have d9:(kv !=c.k)=false:=by simpa using hw
   rw[l2 he (.inr hw)];refine cJ func30 fun E hG hE=>?_;subst hG;simp only[AX];(repeat' (first |refine A0 ?_ |refine A3 ?_ |((first |refine sR (fun K kp=>?_) |refine cR cc ?_ |refine cR kc ?_ |refine cR bc ?_);simp(disch:=omega) only[go_sem,d3,d4,d5,Ad,AI,d6,d7,d8,d9,hc,eC,zi];(repeat' (refine K _ ?_;clear K kp))) |refine A2 rfl ?_ |refine A1 rfl ?_ |refine A5 ?_));(refine rJ results30 ?_;exact eQ hE)
  ·have d9:(kv !=c.k)=true:=by simpa using hw
   rw[l1 (.inr (.inr ⟨hv,hw⟩))];refine cJ func30 fun E hG hE=>?_;subst hG;simp only[AX];(repeat' (first |refine A0 ?_ |refine A3 ?_ |((first |refine sR (fun K kp=>?_) |refine cR cc ?_ |refine cR kc ?_);simp(disch:=omega) only[go_sem,d3,d4,d5,Ad,AI,d6,d7,d8,d9,hc,eC,zi];(repeat' (refine K _ ?_;clear K kp))) |refine A2 rfl ?_ |refine A1 rfl ?_ |refine A5 ?_));(refine rJ results30 ?_;exact eQ hE)
 ·have d5:(s.k==5)=false:=by simpa using k5
  rw[Nr k3 k4 k5];refine cJ func30 fun E hG hE=>?_;subst hG;simp only[AX];(repeat' (first |refine A0 ?_ |refine A3 ?_ |((first |refine sR (fun K kp=>?_) |refine cR bc ?_);simp(disch:=omega) only[go_sem,d3,d4,d5,Ad,AI];(repeat' (refine K _ ?_;clear K kp))) |refine A1 rfl ?_ |refine A5 ?_));(refine rJ results30 ?_;exact eQ hE)
end Go.AM
namespace Go.AM
open Go Go.RowKit
open Go.Proofs.YtmohnlbeiaifhaaGreatDoor (OP AH Bc AZ str AW)
theorem Sd {key:ByteArray}{nt:Bool}{ops:List OP}{w:Int}{v:V}(h:Cu key nt ops=some (w,v)): ∃a ∈ ops,v=Aw a:=by
 match ops,h with
 | [a,b,c],h=>
   simp only[Cu] at h
   repeat' split at h
   all_goals first |(cases h;exact⟨b,by simp,rfl⟩) |(cases h;exact⟨a,by simp,rfl⟩) |cases h
theorem VD {key:ByteArray}{ops:List OP}{w:Int}{v:V}(h:D8 key ops=some (w,v)): ∃a ∈ ops,v=Aw a:=by
 unfold D8 at h
 cases hx:ops.getLast? with
 |none=>rw[hx] at h;cases h
 |some o=>
  rw[hx] at h;dsimp only at h;split at h
  ·obtain⟨a,ha,rfl⟩:=Sd h
   exact⟨a,List.dropLast_subset _ ha,rfl⟩
  ·exact Sd h
theorem Wm {key:ByteArray}{st:List UInt8×List UInt8}{ops:List OP}(h1:st.1.length≤100)(h2:st.2.length≤100)(hv: ∀o ∈ ops,AW o.vk o.vn o.vs=0):(CY key st ops).1.length≤100/\(CY key st ops).2.length≤100:=by
 unfold CY
 cases hs:D8 key ops with
 |none=>exact⟨h1,h2⟩
 |some x=>
  obtain⟨w,v⟩:=x;obtain⟨a,ha,rfl⟩:=VD hs;have:=Dg (v:=Aw a) (hv a ha);dsimp only
  constructor
  ·split<;>omega
  ·split<;>omega
theorem Lt: ∀(tr:RT OP)(p:List OP),p ∈ BD tr-> ∀o ∈ p,o ∈ tr.flat
 | .l o,p,hp,x,hx=>by
   simp only[BD,aW] at hp;subst hp;exact hx
 | .u o q,p,hp,x,hx=>by
   simp only[BD,aW] at hp;subst hp;exact hx
 | .b o q r,p,hp,x,hx=>by
   unfold BD at hp;split at hp
   ·simp only[RT.flat,cK]
    rcases cK.1 hp with h |h
    ·exact .inl (.inl (Lt q p h x hx))
    ·exact .inl (.inr (Lt r p h x hx))
   ·rw[aW] at hp
    subst hp;exact hx
theorem QJ (key:ByteArray): ∀(ps:List (List OP))(st:List UInt8×List UInt8),st.1.length≤100->st.2.length≤100->(∀p ∈ ps,∀o ∈ p,AW o.vk o.vn o.vs=0)->(ps.foldl (CY key) st).1.length≤100/\(ps.foldl (CY key) st).2.length≤100
 | [],st,h1,h2,_=>⟨h1,h2⟩
 |p::r,st,h1,h2,hv=>by
  obtain⟨h3,h4⟩:=Wm (key:=key) h1 h2 (hv p (by simp));exact QJ key r _ h3 h4 fun q hq=>hv q (by simp[hq])
theorem P3 {l:List CO}{ops:List OP}{tr:RT OP}(ht:AZ ops=0->tr.wf BN/\tr.flat=ops):(Ga (AN l ops tr)).length≤100/\(GR (AN l ops tr)).length≤100:=by
 unfold AN;split
 ·exact⟨aU _,aU _⟩
 split
 ·exact⟨aU _,aU _⟩
 split
 ·exact⟨aU _,aU _⟩
 ·rename_i hk
  split
  ·exact⟨aU _,aU _⟩
  split
  ·exact⟨aU _,aU _⟩
  ·obtain⟨e1,_⟩:=MA hk
   obtain⟨hw,hf⟩:=ht e1;obtain⟨_,hko,_⟩:=CU e1;exact QJ _ _ _ (aU _) (aU _) fun p hp o ho=>Ha (hko o (by rw[<-hf];exact Lt _ _ hp o ho)).2.2.1
theorem Xt {a b:ByteArray}(h:(a.toList==b.toList)=true):a=b:=by
 have h:a.toList=b.toList:=by simpa using h
 rw[cW,cW] at h;exact ByteArray.ext (gN h)
theorem DJ {s:ByteArray}(h:AH s=0):s.size≤1048576:=by
 unfold AH at h;split at h
 ·cases h
 ·omega
theorem Js {c:CO}{r:List CO}{n:ByteArray}:(Ab (c::r) n=0)↔KS n c=true:=by
 unfold Ab B9
 by_cases h:KS n c=true
 ·simp[h]
 ·rw[if_neg h]
  have key: ∀(q:List CO)(k:Nat),1≤k->B9 (KS n) q k≠0:=by
   intro q
   induction q with
   |nil=>intro k _;simp[B9]
   |cons x q ih=>
    intro k hk;unfold B9;split
    ·omega
    ·exact ih (k+1) (by omega)
  exact⟨fun h2=>absurd h2 (key r 1 (Nat.le_refl _)),fun h2=>absurd h2 h⟩
noncomputable def Hz (t:TB)(s:ST)(lo hi:Ky):List NE:=
 if s.k=3 then [⟨An t.nm,2⟩,⟨EW t.nm (Cg s.row),5⟩,⟨CH t.nm (Ku (Cg s.row) (AT t.ps t.root)),5⟩]
 else if (lo.length=0/\hi.length=0)\/(s.k=5/\Ab t.cols s.set=0) then [⟨An t.nm,if s.k=4 then 3 else 5⟩]
 else ⟨An t.nm,if s.k=4 then 1 else 2⟩::Fc t.nm (if s.k=4 then 3 else 5) (AT t.ps t.root) lo hi
noncomputable def Nk (b:List TB)(s:ST)(trW trT:RT OP):List NE:=
 ⟨⟨#[]⟩,1⟩::if B9 (Bq s.tab) b 0<0 then [] else match b[(B9 (Bq s.tab) b 0).toNat]? with
   |none=>[]
   |some t=>if Bl t s trW trT=true then [] else Hz t s (Ga (AN t.cols s.wh trW)) (GR (AN t.cols s.wh trW))
noncomputable def B6 (b:List TB)(s:ST)(e:Int)(trW trT:RT OP):AV:=
 if B1 b≠0 then .tup [.r (.slice none 0 0),.r (.int .i64 (B1 b))]
 else if e≠0 then .tup [.r (.slice none 0 0),.r (.int .i64 e)]
 else if 7≤s.k then .tup [.r (.slice none 0 0),.r (.int .i64 2)]
 else if s.k≤2 then .tup [.ro true 2 ([NE.mk ⟨#[]⟩ 5].map DR),.r (.int .i64 0)]
 else .tup [.ro true 2 ((Nk b s trW trT).map DR),.r (.int .i64 0)]
theorem QC {α:Type}{p:α->Bool}: ∀ {l:List α}{k:Nat},¬B9 p l k<0-> ∃(j:Nat)(x:α),B9 p l k=((k+j:Nat):Int)/\l[j]?=some x/\p x=true
 | [],k,h=>by unfold B9 at h;omega
 |y::r,k,h=>by
  unfold B9 at h ⊢
  by_cases hp:p y=true
  ·rw[if_pos hp]
   exact⟨0,y,rfl,rfl,hp⟩
  ·rw[if_neg hp] at h ⊢
   obtain⟨j,x,h1,h2,h3⟩:=QC h;exact⟨j+1,x,by rw[h1];congr 1;omega,h2,h3⟩
open Go.Proofs.YtmohnlbeiaifhaaGreatDoor (OP AH Bc AZ BM B4 StrsAt str Ks FI EL digB bt AW)
attribute [local irreducible] AWP DU
def Db:ByteArray:=str [78,85,76,76]
def Id:ByteArray:=str [84,82,85,69]
def GG:ByteArray:=str [70,65,76,83,69]
def B2 (v:V):List TK0:=
 if v.k=0 then [A9 Db] else if v.k=1 then (if v.n=1 then [A9 Id] else [A9 GG]) else if v.k=3 then [⟨3,v.s,0⟩] else if v.n<0 then [AP (str [45]),⟨2,str [],-v.n⟩] else [⟨2,str [],v.n⟩]
inductive GoodV (v:V):Prop
 |null (h:v.k=0)
 |bool (h:v.k=1) (h1:v.n=0\/v.n=1) (hs:v.s=str [])
 |int (h:v.k=2) (h1: -9223372036854775808<v.n)
 |text (h:v.k=3)
theorem R4 {s:ByteArray}(h:s.toList=[]):s=str []:=by rw[Go.Proofs.YtmohnlbeiaifhaaGreatDoor.Cp s,h]
theorem QE {v:V}(hw: -9223372036854775808≤v.n)(h:Bc v.k v.n v.s=0):GoodV v:=by
 unfold Bc at h;split at h
 ·cases h
 rename_i h1;unfold AW at h;split at h
 ·exact .null (by assumption)
 split at h
 ·rename_i hk
  split at h
  ·cases h
  ·rename_i h2
   have h3:v.s.toList=[]:=cG fun h=>h2 (.inr (.inr h));exact .bool hk (by omega) (R4 h3)
 split at h
 ·rename_i hk;exact .int hk (by omega)
 split at h
 ·rename_i hk;exact .text hk
 ·cases h
theorem Ia (v:V):(B2 v).length≤2:=by
 unfold B2
 repeat' split
 all_goals simp
theorem Hv (G:GL)(v:V)(hv:GoodV v)(hb:v.n≤9223372036854775807):Con prog G 85 [.agg (eV v)] [] 0 (Is (.ro true 3 ((B2 v).map eT)) [] 0) No:=by
 refine cJ func85 fun E hG hE=>?_;subst hG;simp only[AX];have mc:=Dc E.G (str [45]);simp only[eT,AP,str] at mc
 rcases hv with h |⟨h,h1,hs⟩ |⟨h,h1⟩ |h
 ·have ac:=E7 E.G false [Db] (by simp)
  simp only[List.map_cons,List.map_nil,BK,eT,A9,Db,str] at ac;(repeat' (first |refine A0 ?_ |refine A4 ?_ |refine A3 ?_ |refine A7 ?_ |((first |refine sR (fun K kp=>?_) |refine sD (id:=8) mixed 7 [1,2,3,4,0,5,6] (fun K kp=>?_) |refine cR ac ?_ |refine cD ac ?_ |refine iG ?_ |refine iD ?_);simp only[go_sem,eV,h];(repeat' (first |(refine K _ ?_;clear K kp) |(with_reducible refine And.intro ?_ ?_) |omega))) |((first |refine aG (fun h=>?_) (fun h=>?_) |refine aD (fun h=>?_) (fun h=>?_) |refine aX (fun h=>?_) (fun h=>?_))<;>simp only[h]) |refine A2 rfl ?_ |refine A1 rfl ?_ |((refine A6 rfl (fun h=>?_) (fun h=>?_)<;>try simp only[Af] at h)) |refine A5 ?_));(refine rJ results85 ?_;refine AG (by simp only[A8];simp only[go_sem,B2,h,eT,A9,Db,str];rfl) ?_;refine(AE hE (by simp) ?_).s;simp[A8,ren,renL,B2,h,eT,A9,Db,str])
 ·rcases h1 with h1 |h1
  ·have ac:=E7 E.G false [GG] (by simp)
   simp only[List.map_cons,List.map_nil,BK,eT,A9,GG,str] at ac;(repeat' (first |refine A0 ?_ |refine A4 ?_ |refine A3 ?_ |refine A7 ?_ |((first |refine sR (fun K kp=>?_) |refine sD (id:=8) mixed 7 [1,2,3,4,0,5,6] (fun K kp=>?_) |refine cR ac ?_ |refine cD ac ?_ |refine iG ?_ |refine iD ?_);simp only[go_sem,eV,h,h1];(repeat' (first |(refine K _ ?_;clear K kp) |(with_reducible refine And.intro ?_ ?_) |omega))) |((first |refine aG (fun h=>?_) (fun h=>?_) |refine aD (fun h=>?_) (fun h=>?_) |refine aX (fun h=>?_) (fun h=>?_))<;>simp only[h]) |refine A2 rfl ?_ |refine A1 rfl ?_ |((refine A6 rfl (fun h=>?_) (fun h=>?_)<;>try simp only[Af] at h)) |refine A5 ?_));(refine rJ results85 ?_;refine AG (by simp only[A8];simp only[go_sem,B2,h,h1,eT,A9,GG,str];rfl) ?_;refine(AE hE (by simp) ?_).s;simp[A8,ren,renL,B2,h,h1,eT,A9,GG,str])
  ·have ac:=E7 E.G false [Id] (by simp)
   simp only[List.map_cons,List.map_nil,BK,eT,A9,Id,str] at ac;(repeat' (first |refine A0 ?_ |refine A4 ?_ |refine A3 ?_ |refine A7 ?_ |((first |refine sR (fun K kp=>?_) |refine sD (id:=8) mixed 7 [1,2,3,4,0,5,6] (fun K kp=>?_) |refine cR ac ?_ |refine cD ac ?_ |refine iG ?_ |refine iD ?_);simp only[go_sem,eV,h,h1];(repeat' (first |(refine K _ ?_;clear K kp) |(with_reducible refine And.intro ?_ ?_) |omega))) |((first |refine aG (fun h=>?_) (fun h=>?_) |refine aD (fun h=>?_) (fun h=>?_) |refine aX (fun h=>?_) (fun h=>?_))<;>simp only[h]) |refine A2 rfl ?_ |refine A1 rfl ?_ |((refine A6 rfl (fun h=>?_) (fun h=>?_)<;>try simp only[Af] at h)) |refine A5 ?_));(refine rJ results85 ?_;refine AG (by simp only[A8];simp only[go_sem,B2,h,h1,eT,A9,Id,str];rfl) ?_;refine(AE hE (by simp) ?_).s;simp[A8,ren,renL,B2,h,h1,eT,A9,Id,str])
 ·by_cases hn:v.n<0
  ·have d1:decide (v.n<0)=true:=aE hn
   have wr:IntKind.i64.wrap (0 - v.n)= -v.n:=by rw[Ur (by omega) (by omega)];omega
   (repeat' (first |refine A0 ?_ |refine A4 ?_ |refine A3 ?_ |refine A7 ?_ |((first |refine sR (fun K kp=>?_) |refine sD (id:=8) mixed 7 [1,2,3,4,0,5,6] (fun K kp=>?_) |refine cR mc ?_ |refine cD mc ?_ |refine iG ?_ |refine iD ?_);simp only[go_sem,eV,h,d1,wr];(repeat' (first |(refine K _ ?_;clear K kp) |(with_reducible refine And.intro ?_ ?_) |omega))) |((first |refine aG (fun h=>?_) (fun h=>?_) |refine aD (fun h=>?_) (fun h=>?_) |refine aX (fun h=>?_) (fun h=>?_))<;>simp only[h]) |refine A2 rfl ?_ |refine A1 rfl ?_ |((refine A6 rfl (fun h=>?_) (fun h=>?_)<;>try simp only[Af] at h)) |refine A5 ?_));(refine rJ results85 ?_;refine AG (by simp only[A8];simp only[go_sem,B2,h,hn,eT,AP,str];rfl) ?_;refine(AE hE (by simp) ?_).s;simp[A8,ren,renL,B2,h,hn,eT,AP,str])
  ·have d1:decide (v.n<0)=false:=aC hn
   (repeat' (first |refine A0 ?_ |refine A4 ?_ |refine A3 ?_ |refine A7 ?_ |((first |refine sR (fun K kp=>?_) |refine sD (id:=8) mixed 7 [1,2,3,4,0,5,6] (fun K kp=>?_) |refine cR mc ?_ |refine cD mc ?_ |refine iG ?_ |refine iD ?_);simp only[go_sem,eV,h,d1];(repeat' (first |(refine K _ ?_;clear K kp) |(with_reducible refine And.intro ?_ ?_) |omega))) |((first |refine aG (fun h=>?_) (fun h=>?_) |refine aD (fun h=>?_) (fun h=>?_) |refine aX (fun h=>?_) (fun h=>?_))<;>simp only[h]) |refine A2 rfl ?_ |refine A1 rfl ?_ |((refine A6 rfl (fun h=>?_) (fun h=>?_)<;>try simp only[Af] at h)) |refine A5 ?_));(refine rJ results85 ?_;refine AG (by simp only[A8];simp only[go_sem,B2,h,hn,eT,AP,str];rfl) ?_;refine(AE hE (by simp) ?_).s;simp[A8,ren,renL,B2,h,hn,eT,AP,str])
 ·(repeat' (first |refine A0 ?_ |refine A4 ?_ |refine A3 ?_ |refine A7 ?_ |((first |refine sR (fun K kp=>?_) |refine sD (id:=8) mixed 7 [1,2,3,4,0,5,6] (fun K kp=>?_) |refine cR mc ?_ |refine cD mc ?_ |refine iG ?_ |refine iD ?_);simp only[go_sem,eV,h];(repeat' (first |(refine K _ ?_;clear K kp) |(with_reducible refine And.intro ?_ ?_) |omega))) |((first |refine aG (fun h=>?_) (fun h=>?_) |refine aD (fun h=>?_) (fun h=>?_) |refine aX (fun h=>?_) (fun h=>?_))<;>simp only[h]) |refine A2 rfl ?_ |refine A1 rfl ?_ |((refine A6 rfl (fun h=>?_) (fun h=>?_)<;>try simp only[Af] at h)) |refine A5 ?_))
  (refine rJ results85 ?_;refine AG (by simp only[A8];simp only[go_sem,B2,h,eT,str];rfl) ?_;refine(AE hE (by simp) ?_).s;simp[A8,ren,renL,B2,h,eT,str])
theorem SW (G:GL)(b:Bool):Con prog G 152 [.r (.bool b)] [] 0 (Is (.agg [.r (.int .i64 1),.r (.int .i64 (if b=true then 1 else 0)),.r (.string ⟨#[]⟩)]) [] 0) No:=by
 refine cJ func152 fun E hG hE=>?_;subst hG;simp only[AX];cases b
 ·(repeat' (first |refine A0 ?_ |refine A4 ?_ |refine A3 ?_ |refine A7 ?_ |((first |refine sR (fun K kp=>?_) |refine iG ?_);simp only[go_sem];(repeat' (first |(refine K _ ?_;clear K kp) |(with_reducible refine And.intro ?_ ?_) |omega))) |((first |refine aG (fun h=>?_) (fun h=>?_) |refine aD (fun h=>?_) (fun h=>?_) |refine aX (fun h=>?_) (fun h=>?_))<;>simp only[h]) |refine A2 rfl ?_ |refine A1 rfl ?_ |((refine A6 rfl (fun h=>?_) (fun h=>?_)<;>try simp only[Af] at h)) |refine A5 ?_))
  (refine rJ results152 ?_;exact eQ hE)
 ·(repeat' (first |refine A0 ?_ |refine A4 ?_ |refine A3 ?_ |refine A7 ?_ |((first |refine sR (fun K kp=>?_) |refine iG ?_);simp only[go_sem];(repeat' (first |(refine K _ ?_;clear K kp) |(with_reducible refine And.intro ?_ ?_) |omega))) |((first |refine aG (fun h=>?_) (fun h=>?_) |refine aD (fun h=>?_) (fun h=>?_) |refine aX (fun h=>?_) (fun h=>?_))<;>simp only[h]) |refine A2 rfl ?_ |refine A1 rfl ?_ |((refine A6 rfl (fun h=>?_) (fun h=>?_)<;>try simp only[Af] at h)) |refine A5 ?_))
  (refine rJ results152 ?_;exact eQ hE)
theorem TP:Au [78,85,76,76]=[A9 Db]:=rfl
theorem TN:Au [84,82,85,69]=[A9 Id]:=rfl
theorem R1:Au [70,65,76,83,69]=[A9 GG]:=rfl
theorem R0:Au [45]=[AP (str [45])]:=rfl
theorem Hs (G:GL)(v:V)(hv:GoodV v)(hb:v.n≤9223372036854775807):Con prog G 110 [.agg (eV v)] [] 0 (Is (.ro true 3 ((B2 v).map eT)) [] 0) No:=by
 refine cJ func110 fun E hG hE=>?_;subst hG;simp only[AX];have yt:=SW E.G true;have yf:=SW E.G false;simp only[if_true,bU,if_false] at yt yf;have t0:=Ao E.G [78,85,76,76] (by simp);have t1:=Ao E.G [84,82,85,69] (by simp);have t2:=Ao E.G [70,65,76,83,69] (by simp);have t3:=Ao E.G [45] (by simp);rw[TP] at t0;rw[TN] at t1;rw[R1] at t2;rw[R0] at t3;simp only[str,List.map_cons,List.map_nil,List.length_cons,List.length_nil,eT,A9,AP,Db,Id,GG] at t0 t1 t2 t3
 rcases hv with h |⟨h,h1,hs⟩ |⟨h,h1⟩ |h
 ·(repeat' (first |refine A0 ?_ |refine A4 ?_ |refine A3 ?_ |refine A7 ?_ |((first |refine sR (fun K kp=>?_) |refine sI (id:=3) mixed 3 (fun K kp=>?_) |refine sI (id:=5) mixed 3 (fun K kp=>?_) |refine cR t0 ?_ |refine cD t0 ?_ |refine iG ?_ |refine iD ?_);simp only[go_sem,eV,h];(repeat' (first |(refine K _ ?_;clear K kp) |(with_reducible refine And.intro ?_ ?_) |omega))) |((first |refine aG (fun h=>?_) (fun h=>?_) |refine aD (fun h=>?_) (fun h=>?_) |refine aX (fun h=>?_) (fun h=>?_))<;>simp only[h]) |refine A2 rfl ?_ |refine A1 rfl ?_ |((refine A6 rfl (fun h=>?_) (fun h=>?_)<;>try simp only[Af] at h)) |refine A5 ?_))
  (refine rJ results110 ?_;refine AG (by simp only[A8];simp only[go_sem,B2,h,eT,A9,Db,str];rfl) ?_;refine(AE hE (by simp) ?_).s;simp[A8,ren,renL,B2,h,eT,A9,Db,str])
 ·have e1:((str []).toList==ByteArray.toList ⟨#[]⟩)=true:=by simp[str]
  rcases h1 with h1 |h1
  ·(repeat' (first |refine A0 ?_ |refine A4 ?_ |refine A3 ?_ |refine A7 ?_ |((first |refine sR (fun K kp=>?_) |refine sI (id:=3) mixed 3 (fun K kp=>?_) |refine sI (id:=5) mixed 3 (fun K kp=>?_) |refine cR t1 ?_ |refine cD t1 ?_ |refine cR t2 ?_ |refine cD t2 ?_ |refine cR yt ?_ |refine cD yt ?_ |refine cR yf ?_ |refine cD yf ?_ |refine iG ?_ |refine iD ?_);simp only[go_sem,eV,h,h1,hs,e1];(repeat' (first |(refine K _ ?_;clear K kp) |(with_reducible refine And.intro ?_ ?_) |omega))) |((first |refine aG (fun h=>?_) (fun h=>?_) |refine aD (fun h=>?_) (fun h=>?_) |refine aX (fun h=>?_) (fun h=>?_))<;>simp only[h]) |refine A2 rfl ?_ |refine A1 rfl ?_ |((refine A6 rfl (fun h=>?_) (fun h=>?_)<;>try simp only[Af] at h)) |refine A5 ?_))
   (refine rJ results110 ?_;refine AG (by simp only[A8];simp only[go_sem,B2,h,h1,eT,A9,GG,str];rfl) ?_;refine(AE hE (by simp) ?_).s;simp[A8,ren,renL,B2,h,h1,eT,A9,GG,str])
  ·(repeat' (first |refine A0 ?_ |refine A4 ?_ |refine A3 ?_ |refine A7 ?_ |((first |refine sR (fun K kp=>?_) |refine sI (id:=3) mixed 3 (fun K kp=>?_) |refine sI (id:=5) mixed 3 (fun K kp=>?_) |refine cR t1 ?_ |refine cD t1 ?_ |refine cR t2 ?_ |refine cD t2 ?_ |refine cR yt ?_ |refine cD yt ?_ |refine cR yf ?_ |refine cD yf ?_ |refine iG ?_ |refine iD ?_);simp only[go_sem,eV,h,h1,hs,e1];(repeat' (first |(refine K _ ?_;clear K kp) |(with_reducible refine And.intro ?_ ?_) |omega))) |((first |refine aG (fun h=>?_) (fun h=>?_) |refine aD (fun h=>?_) (fun h=>?_) |refine aX (fun h=>?_) (fun h=>?_))<;>simp only[h]) |refine A2 rfl ?_ |refine A1 rfl ?_ |((refine A6 rfl (fun h=>?_) (fun h=>?_)<;>try simp only[Af] at h)) |refine A5 ?_))
   (refine rJ results110 ?_;refine AG (by simp only[A8];simp only[go_sem,B2,h,h1,eT,A9,Id,str];rfl) ?_;refine(AE hE (by simp) ?_).s;simp[A8,ren,renL,B2,h,h1,eT,A9,Id,str])
 ·by_cases hn:v.n<0
  ·have d1:decide (v.n<0)=true:=aE hn
   have wr:IntKind.i64.wrap (0 - v.n)= -v.n:=by rw[Ur (by omega) (by omega)];omega
   (repeat' (first |refine A0 ?_ |refine A4 ?_ |refine A3 ?_ |refine A7 ?_ |((first |refine sR (fun K kp=>?_) |refine sI (id:=3) mixed 3 (fun K kp=>?_) |refine sI (id:=5) mixed 3 (fun K kp=>?_) |refine rU (id:=10) mixed 6 [⟨0,1,[],[(1,1)]⟩,⟨1,0,[],[(0,1),(1,1)]⟩,⟨1,0,[1],[(0,1),(1,1)]⟩,⟨1,0,[1,2],[(0,1),(1,1)]⟩,⟨1,0,[1,2,3],[(0,1),(1,1)]⟩,⟨1,1,[1,2,3,4],[(0,1)]⟩] 2 [25,26,27,28,29,30] [] (fun _ _ K kp=>?_) |refine cR t3 ?_ |refine cD t3 ?_ |refine cU t3 ?_ |refine cR yt ?_ |refine cD yt ?_ |refine cU yt ?_ |refine cR yf ?_ |refine cD yf ?_ |refine cU yf ?_ |refine iG ?_ |refine iD ?_);simp only[go_sem,eV,h,d1,wr];(repeat' (first |(refine K _ ?_;clear K kp) |(with_reducible refine And.intro ?_ ?_) |omega))) |((first |refine aG (fun h=>?_) (fun h=>?_) |refine aD (fun h=>?_) (fun h=>?_) |refine aX (fun h=>?_) (fun h=>?_))<;>simp only[h]) |refine A2 rfl ?_ |refine A1 rfl ?_ |((refine A6 rfl (fun h=>?_) (fun h=>?_)<;>try simp only[Af] at h)) |refine A5 ?_));(refine rJ results110 ?_;refine AG (by simp only[A8];simp only[go_sem,B2,h,hn,eT,AP,str];rfl) ?_;refine(AE hE (by simp) ?_).s;simp[A8,ren,renL,B2,h,hn,eT,AP,str])
  ·have d1:decide (v.n<0)=false:=aC hn
   (repeat' (first |refine A0 ?_ |refine A4 ?_ |refine A3 ?_ |refine A7 ?_ |((first |refine sR (fun K kp=>?_) |refine sI (id:=3) mixed 3 (fun K kp=>?_) |refine sI (id:=5) mixed 3 (fun K kp=>?_) |refine cR yt ?_ |refine cD yt ?_ |refine cR yf ?_ |refine cD yf ?_ |refine iG ?_ |refine iD ?_);simp only[go_sem,eV,h,d1];(repeat' (first |(refine K _ ?_;clear K kp) |(with_reducible refine And.intro ?_ ?_) |omega))) |((first |refine aG (fun h=>?_) (fun h=>?_) |refine aD (fun h=>?_) (fun h=>?_) |refine aX (fun h=>?_) (fun h=>?_))<;>simp only[h]) |refine A2 rfl ?_ |refine A1 rfl ?_ |((refine A6 rfl (fun h=>?_) (fun h=>?_)<;>try simp only[Af] at h)) |refine A5 ?_));(refine rJ results110 ?_;refine AG (by simp only[A8];simp only[go_sem,B2,h,hn,eT,AP,str];rfl) ?_;refine(AE hE (by simp) ?_).s;simp[A8,ren,renL,B2,h,hn,eT,AP,str])
 ·(repeat' (first |refine A0 ?_ |refine A4 ?_ |refine A3 ?_ |refine A7 ?_ |((first |refine sR (fun K kp=>?_) |refine sI (id:=3) mixed 3 (fun K kp=>?_) |refine sI (id:=5) mixed 3 (fun K kp=>?_) |refine cR yt ?_ |refine cD yt ?_ |refine cR yf ?_ |refine cD yf ?_ |refine iG ?_ |refine iD ?_);simp only[go_sem,eV,h];(repeat' (first |(refine K _ ?_;clear K kp) |(with_reducible refine And.intro ?_ ?_) |omega))) |((first |refine aG (fun h=>?_) (fun h=>?_) |refine aD (fun h=>?_) (fun h=>?_) |refine aX (fun h=>?_) (fun h=>?_))<;>simp only[h]) |refine A2 rfl ?_ |refine A1 rfl ?_ |((refine A6 rfl (fun h=>?_) (fun h=>?_)<;>try simp only[Af] at h)) |refine A5 ?_))
  (refine rJ results110 ?_;refine AG (by simp only[A8];simp only[go_sem,B2,h,eT,str];rfl) ?_;refine(AE hE (by simp) ?_).s;simp[A8,ren,renL,B2,h,eT,str])
def zT:List AV:=[.r (.int .i64 0),.r (.string ⟨#[]⟩),.r (.int .i64 0)]
@[simp] theorem ptA_zT:(∀x,x ∈ zT->PT x)=True:=aK (by intro x hx;simp[zT] at hx;rcases hx with rfl |rfl |rfl<;>exact .r _)
theorem UN (G:GL)(n:Nat)(hn:0<n)(hb:n≤1000000):Con prog G 133 [.r (.slice none 0 0),.r (.int .i64 n)] [] 0 (Is (.s 0 0 0) [(0,.lst 134 3 (List.replicate n zT))] 1) No:=by
 refine cJ func133 fun E hG hE=>?_;subst hG;simp only[AX];have d1:decide ((n:Int)<0)=false:=aC (by omega);have d2:decide ((n:Int)>0)=true:=aE (by omega);(repeat' (first |refine A0 ?_ |refine A3 ?_ |((refine sR (fun K kp=>?_));simp(disch:=omega) only[go_sem,d1,d2,Int.sub_zero,Value.oneCell',List.all_cons,List.all_nil,Bool.and_self,Int.toNat_natCast];(repeat' (first |(refine K _ ?_;clear K kp) |(with_reducible refine And.intro ?_ ?_) |omega))) |refine A2 rfl ?_ |refine A1 rfl ?_ |refine A5 ?_));(refine rJ results133 ?_;refine(BS hE [0] rfl ?_ ?_).s<;>simp[A8,AY,lk,ren,renL,AA,AU,zT])
theorem Hd {ls:List (List TK0)}{k:Nat}{x:List TK0}(h:ls[k]?=some x):(ls.take (k+1)).flatten=(ls.take k).flatten++x:=by
 rw[aV,h];simp
theorem H3 {ls:List (List TK0)}(h: ∀x ∈ ls,x.length≤1000):ls.flatten.length≤1000 * ls.length:=by
 induction ls with
 |nil=>simp
 |cons x r ih=>
  have:=ih (fun y hy=>h y (by simp[hy]));have:=h x (by simp);rw[dP,List.length_append,List.length_cons];omega
theorem FQ (G:GL)(t:Bool)(ls:List (List TK0))(hl:ls.length≤100)(hs: ∀x ∈ ls,x.length≤1000)(hp:0<ls.flatten.length):Con prog G 87 [.ro t 1 (ls.map Dh)] [] 0 (Is (.ro true 3 (ls.flatten.map eT)) [] 0) No:=by
 refine cJ func87 fun E hG hE=>?_;subst hG;simp only[AX];(repeat' (first |refine A0 ?_ |refine A4 ?_ |((refine sR (fun K kp=>?_));simp(disch:=omega) only[go_sem];(repeat' (refine K _ ?_;clear K kp)))));have hfl:=H3 hs;refine AB (fun k:Nat=>⟨[(11,.r (.int .i64 k)),(10,.r (.int .i64 ls.length)),(9,.ro t 1 (ls.map Dh)),(3,.r (.int .i64 (ls.take k).flatten.length)),(0,.ro t 1 (ls.map Dh))],[],0⟩) (fun k=>k≤ls.length) (fun k=>ls.length - k) 0 ?_ ?_ ?_
 ·simp
 ·(exact iK hE [])
 intro k hk
 have hle:(ls.take k).flatten.length≤1000 * 100:=by
  have:=H3 (ls:=ls.take k) (fun x hx=>hs x (cB hx));simp at this ⊢;omega
 by_cases hk':k<ls.length
 ·obtain⟨x,hx⟩: ∃x,ls[k]?=some x:=⟨ls[k],by simp[hk']⟩
  have hft:=Hd hx;have hxl:=hs x (aB hx);generalize (ls.take k).flatten=q at hft hle ⊢;have d1:decide ((q.length:Int)+(x.length:Int)<0)=false:=aC (by omega);(repeat' (first |refine A0 ?_ |refine A4 ?_ |refine A3 ?_ |((refine sR (fun K kp=>?_));simp(disch:=omega) only[go_sem,hx,Dh,d1];(repeat' (refine K _ ?_;clear K kp))) |refine A1 rfl ?_ |((refine A6 rfl (fun h=>?_) (fun h=>?_)<;>try simp only[Af] at h)<;>(try (exfalso;omega)))));(refine BF (k+1) ?_ ?_;rotate_left;(·(refine AJ hE [] rfl ?_ ?_<;>simp[Ai,AY,lk,ren,renL,AA,AU,hft]<;>(try omega))));omega
 ·obtain rfl:k=ls.length:=by omega
  rw[aN (Nat.le_refl _)] at hle ⊢;have gc:=UN E.G ls.flatten.length hp (by omega);obtain⟨fl,hfe⟩: ∃fl,fl=ls.flatten:=⟨_,rfl⟩;rw[<-hfe] at hp hfl hle gc ⊢;(repeat' (first |refine A0 ?_ |refine A4 ?_ |refine A7 ?_ |((first |refine sR (fun K kp=>?_) |refine cR gc ?_);simp(disch:=omega) only[go_sem];(repeat' (refine K _ ?_;clear K kp))) |((refine A6 rfl (fun h=>?_) (fun h=>?_)<;>try simp only[Af] at h)<;>(try (exfalso;omega)))));refine AB (fun q:Nat×List (List AV)=>⟨[(27,.r (.int .i64 q.1)),(26,.r (.int .i64 ls.length)),(25,.ro t 1 (ls.map Dh)),(6,.s 0 0 (ls.take q.1).flatten.length)],[(0,.lst 134 3 ((ls.take q.1).flatten.map eT++q.2))],1⟩) (fun q=>q.1≤ls.length/\(q.1=0\/q.2=[])) (fun q=>ls.length - q.1) (0,List.replicate fl.length zT) ?_ ?_ ?_
  ·exact⟨by simp,.inl rfl⟩
  ·(exact iK hE [0])
  rintro⟨k,jz⟩ ⟨hkl,hjz⟩;simp only at hkl hjz ⊢
  have hle:(ls.take k).flatten.length≤1000 * 100:=by
   have:=H3 (ls:=ls.take k) (fun x hx=>hs x (cB hx));simp only[aS] at this;omega
  by_cases hlt:k<ls.length
  ·obtain⟨x,hx⟩: ∃x,ls[k]?=some x:=⟨ls[k],by simp[hlt]⟩
   have hft:=Hd hx;have hxl:=hs x (aB hx);generalize (ls.take k).flatten=q at hft hle ⊢;have htk:List.take q.length (List.map eT q++jz)=List.map eT q:=List.take_left' (by simp);(repeat' (first |refine A0 ?_ |refine A4 ?_ |refine A3 ?_ |((refine sR (fun K kp=>?_));simp(disch:=omega) only[go_sem,hx,Dh,htk];(repeat' (first |(refine K _ ?_;clear K kp) |(with_reducible refine And.intro ?_ ?_) |omega))) |((refine A6 rfl (fun h=>?_) (fun h=>?_)<;>try simp only[Af] at h)<;>(try (exfalso;omega)))));(refine BF ((k+1,[])) ?_ ?_;rotate_left;(·(refine AJ hE [1] rfl ?_ ?_<;>simp[Ai,AY,lk,ren,renL,AA,AU,hft]<;>(try omega))));exact⟨by omega,.inr rfl⟩
  ·obtain rfl:k=ls.length:=by omega
   have hjz:jz=[]:=by
    rcases hjz with h0 |h0
    ·rw[bV.1 h0] at hfe;rw[hfe] at hp;simp at hp
    ·exact h0
   subst hjz;rw[aN (Nat.le_refl _),<-hfe];(repeat' (first |refine A0 ?_ |refine A7 ?_ |((refine sR (fun K kp=>?_));simp(disch:=omega) only[go_sem];(repeat' (refine K _ ?_;clear K kp))) |((refine A6 rfl (fun h=>?_) (fun h=>?_)<;>try simp only[Af] at h)<;>(try (exfalso;omega))) |refine A5 ?_));(refine rJ results87 ?_;refine AG (by simp only[A8];simp(disch:=omega) only[go_sem,List.append_nil];rfl) ?_;refine(AE hE (by simp) ?_).s;simp[A8,ren,renL,List.append_nil])
open Go.Proofs.YtmohnlbeiaifhaaGreatDoor (OP AH Bc AZ BM B4 StrsAt str Ks FI EL digB bt AW BR)
def Mu (k:Int):TK0:=
 if k=3 then A9 (str [65,78,68]) else if k=4 then A9 (str [79,82]) else if k=6 then AP (str [61]) else if k=7 then AP (str [60]) else if k=8 then AP (str [43]) else if k=9 then AP (str [45]) else AP (str [42])
theorem Qi (G:GL)(k:Int)(h:k=3\/k=4\/k=6\/k=7\/k=8\/k=9\/k=10):Con prog G 134 [.r (.int .i64 k)] [] 0 (Is (.agg (eT (Mu k))) [] 0) No:=by
 rcases h with rfl |rfl |rfl |rfl |rfl |rfl |rfl
 all_goals
  refine cJ func134 fun E hG hE=>?_;subst hG;simp only[AX];(repeat' (first |refine A0 ?_ |refine A4 ?_ |refine A3 ?_ |((first |refine sR (fun K kp=>?_) |refine cR (CX _ _) ?_ |refine cR (Dc _ _) ?_);simp(disch:=omega) only[go_sem,eT,A9,AP];(repeat' (refine K _ ?_;clear K kp))) |refine A2 rfl ?_ |refine A1 rfl ?_ |refine A5 ?_));(refine rJ results134 ?_;refine eN hE ?_;simp[A8,ren,renL,eT,Mu,A9,AP,str])
def Bz:TK0:=AP (str [40])
def Bx:TK0:=AP (str [41])
def CN (o:OP)(a b:List TK0):List TK0:=
 if o.k=1 then B2 ⟨o.vk,o.vn,o.vs⟩ else if o.k=2 then [A9 o.nm] else if o.k=5 then [Bz,A9 (str [78,79,84])]++a++[Bx]
 else if o.k=11 then [Bz]++a++[A9 (str [73,83]),A9 Db]++[Bx] else [Bz]++a++[Mu o.k]++b++[Bx]
def Fa (o:OP)(a b:List TK0):Except Int (List TK0):= .ok (CN o a b)
theorem Eg (o:OP)(a b:List TK0):(CN o a b).length≤a.length+b.length+4:=by
 unfold CN;split
 ·have:=Ia ⟨o.vk,o.vn,o.vs⟩;omega
 repeat' split
 all_goals (simp<;>omega)
def A0f (o:OP):Prop:=(1≤o.k/\o.k≤11)/\(o.k=1->GoodV ⟨o.vk,o.vn,o.vs⟩/\o.vn≤9223372036854775807)
theorem Ht (st:List (List TK0))(n:Nat):(st.take n).flatten.length+((st.drop n).flatten.length)=st.flatten.length:=by
 rw[<-List.length_append,<-eW,fH]
def Vt (x:Except Int (List (List TK0))):List TK0:=match x with
 | .error _=>[]
 | .ok st=>st.getD 0 []
theorem VS (G:GL)(k:Int):Con prog G 131 [.r (.int .i64 k)] [] 0 (Is (.r (.int .i64 (BR k))) [] 0) No:=
 Al (by kernel_rfl) (fun w z vs hz hr hG=>by
  obtain⟨v,r,rfl,h1,h2⟩:=hr.head;obtain rfl:=h1.r_inv;obtain rfl:=h2.of_nil
  exact(Go.Proofs.YtmohnlbeiaifhaaGreatDoor.Pm k w).mono (fun e w' ⟨he,hw⟩=>by subst hw;exact⟨he,bE _ _⟩))
theorem UL {o:OP}{r:List OP}{n m:Nat}(h:hgt BN (o::r) n=some m):BN o≤n/\hgt BN r (n+1 - BN o)=some m:=by
 unfold hgt at h;split at h
 ·cases h
 ·exact⟨by omega,h⟩
theorem K7 {o:OP}(h1:1≤o.k)(h11:o.k≤11):(BN o=0->o.k=1\/o.k=2)/\(BN o=1->o.k=5\/o.k=11)/\(BN o=2->o.k=3\/o.k=4\/o.k=6\/o.k=7\/o.k=8\/o.k=9\/o.k=10):=by
 obtain h |h |h |h |h |h |h |h |h |h |h:o.k=1\/o.k=2\/o.k=3\/o.k=4\/o.k=5\/o.k=6\/o.k=7\/o.k=8\/o.k=9\/o.k=10\/o.k=11:=by omega
 all_goals simp[BN,BR,h]
theorem KF (G:GL)(t:Bool)(ops:List OP)(ho:ops.length≤40)(hk: ∀o ∈ ops,A0f o)(hh:hgt BN ops 0=some 1):
  Con prog G 89 [.ro t 5 (ops.map eO)] [] 0 (Is (.ro true 3 ((Vt (D4 BN Fa [] ops [])).map eT)) [] 0) No:=by
 refine cJ func89 fun E hG hE=>?_;subst hG;simp only[AX];(repeat' (first |refine A0 ?_ |refine A4 ?_ |((refine sR (fun K kp=>?_));simp(disch:=omega) only[go_sem];(repeat' (refine K _ ?_;clear K kp)))));(refine AWP.emb (BY 3 85 1 ?_) ?_;(·rfl);dsimp only);refine AB (fun q:Nat×List (List TK0)=>⟨[(10,.r (.int .i64 q.1)),(9,.r (.int .i64 ops.length)),(8,.ro t 5 (ops.map eO)),(3,.s 0 0 q.2.length)],[(0,.lst 85 1 (q.2.map Dh))],1⟩)
  (fun q=>q.1≤ops.length/\q.2.length≤q.1/\q.2.flatten.length≤4 * q.1/\D4 BN Fa [] (ops.drop q.1) q.2=D4 BN Fa [] ops []/\hgt BN (ops.drop q.1) q.2.length=some 1) (fun q=>ops.length - q.1) (0,[]) ?_ ?_ ?_
 ·exact⟨by simp,by simp,by simp,by simp,by simpa using hh⟩
 ·(exact iK hE [0])
 rintro⟨k,st⟩ ⟨hkl,hsl,hfl,hno,hg⟩;simp only at hkl hsl hfl hno hg ⊢;have ml:=Dc E.G (str [40]);have mr:=Dc E.G (str [41]);simp only[eT,AP,str] at ml mr
 by_cases hlt:k<ops.length
 ·obtain⟨o,hx⟩: ∃x,ops[k]?=some x:=⟨ops[k],by simp[hlt]⟩
  obtain⟨⟨g1,g11⟩,gv⟩:=hk o (aB hx);rw[Am hx] at hno hg;obtain⟨har,hg2⟩:=UL hg;have wc:=VS E.G o.k;have hpb:=Go.Proofs.YtmohnlbeiaifhaaGreatDoor.EA o.k
  have hpa:BR o.k=(BN o:Nat):=by unfold BN;omega
  rw[hpa] at wc;rw[D4] at hno;have h2:=P7 o
  obtain h0 |h0 |h0:BN o=0\/BN o=1\/BN o=2:=by omega
  ·rw[h0] at wc hno hg2
   simp only[Int.cast_ofNat_Int] at wc
   have em:((st.length:Int) - 0)=(st.length:Int):=by omega
   simp only[fM,if_false,Nat.sub_zero,bZ,show ¬1<0 by omega,Fa] at hno;have hlen:=Eg o [] []
   obtain h |h:=(K7 g1 g11).1 h0
   ·have sc:=Hv E.G ⟨o.vk,o.vn,o.vs⟩ (gv h).1 (gv h).2
    have hst:CN o [] []=B2 ⟨o.vk,o.vn,o.vs⟩:=by simp[CN,h]
    rw[hst] at hno hlen;generalize B2 ⟨o.vk,o.vn,o.vs⟩=vt at *;simp only[eV] at sc;(repeat' (first |refine A0 ?_ |refine A4 ?_ |refine A3 ?_ |((first |refine sR (fun K kp=>?_) |refine cR wc ?_ |refine cR sc ?_);simp(disch:=omega) only[go_sem,hx,eO,h,em];(repeat' (first |(refine K _ ?_;clear K kp) |(with_reducible refine And.intro ?_ ?_) |omega))) |((refine A6 rfl (fun h=>?_) (fun h=>?_)<;>try simp only[Af] at h)<;>(try (exfalso;omega)))));(refine BF ((k+1,st++[vt])) ?_ ?_;rotate_left;(·(refine AJ hE [3] rfl ?_ ?_<;>simp[Ai,AY,lk,ren,renL,AA,AU,Dh]<;>(try omega))));exact⟨by omega,by simp;omega,by simp only[eW,List.length_append,dP,gI,List.length_nil,List.append_nil] at hlen ⊢;omega,hno,by first |(rw[<-hg2];congr 1;simp;done) |(rw[<-hg2];congr 1;simp;omega)⟩
   ·have ac:=E7 E.G false [o.nm] (by simp)
    simp only[List.map_cons,List.map_nil,BK,eT,A9] at ac;obtain⟨vt,hvt⟩: ∃vt,vt=[A9 o.nm]:=⟨_,rfl⟩
    have hst:CN o [] []=vt:=by simp[CN,h,hvt]
    rw[hst] at hno hlen;(repeat' (first |refine A0 ?_ |refine A4 ?_ |refine A3 ?_ |((first |refine sR (fun K kp=>?_) |refine cR wc ?_ |refine cR ac ?_);simp(disch:=omega) only[go_sem,hx,eO,h,em];(repeat' (first |(refine K _ ?_;clear K kp) |(with_reducible refine And.intro ?_ ?_) |omega))) |((refine A6 rfl (fun h=>?_) (fun h=>?_)<;>try simp only[Af] at h)<;>(try (exfalso;omega)))));(refine BF ((k+1,st++[vt])) ?_ ?_;rotate_left;(·(refine AJ hE [4] rfl ?_ ?_<;>simp[Ai,AY,lk,ren,renL,AA,AU,Dh,eT,A9,hvt]<;>(try omega))));exact⟨by omega,by simp;omega,by simp only[eW,List.length_append,dP,gI,List.length_nil,List.append_nil] at hlen ⊢;omega,hno,by first |(rw[<-hg2];congr 1;simp;done) |(rw[<-hg2];congr 1;simp;omega)⟩
  ·rw[h0] at wc hno hg2
   simp only[Int.cast_ofNat_Int] at wc;obtain⟨m,hm0⟩: ∃m,st.length=m+1:=⟨st.length - 1,by omega⟩
   have em:((st.length:Int) - 1)=(m:Int):=by omega
   have em2:st.length - 1=m:=by omega
   obtain⟨a,ha⟩: ∃a,st[m]?=some a:=⟨st[m]'(by omega),by simp⟩;have l1:((m:Int)<(st.length:Int))=True:=aK (by omega);have l2:((m:Int)≤(st.length:Int))=True:=aK (by omega)
   have ga:st.getD m []=a:=by rw[List.getD,ha];rfl
   simp only[em2,show 0<1 by omega,fM,if_true,if_false,ga,Fa] at hno;have hfa:=Ht st m
   have hda:(st.drop m).flatten=a:=by rw[Am ha,aR (by omega)];simp
   rw[hda] at hfa;have hlen:=Eg o a [];obtain⟨vt,hvt⟩: ∃vt,vt=CN o a []:=⟨_,rfl⟩;rw[<-hvt] at hno hlen
   have hal:a.length≤160:=by omega
   have fin:k+1≤ops.length/\(st.take m++[vt]).length≤k+1/\(st.take m++[vt]).flatten.length≤4 * (k+1)/\D4 BN Fa [] (ops.drop (k+1)) (st.take m++[vt])=D4 BN Fa [] ops []/\hgt BN (ops.drop (k+1)) (st.take m++[vt]).length=some 1:=by
    refine⟨by omega,by simp;omega,?_,hno,by first |(rw[<-hg2];congr 1;simp;done) |(rw[<-hg2];congr 1;simp;omega)⟩;simp only[eW,List.length_append,dP,gI,List.length_nil,List.append_nil] at hlen ⊢;omega
   obtain h |h:=(K7 g1 g11).2.1 h0
   ·have cc:=FQ E.G false [[Bz,A9 (str [78,79,84])],a,[Bx]] (by simp) (by intro x hx;simp at hx;rcases hx with rfl |rfl |rfl<;>first |omega |simp) (by simp)
    have hv2:[[Bz,A9 (str [78,79,84])],a,[Bx]].flatten=vt:=by rw[hvt];simp[CN,h]
    rw[hv2] at cc;have wd:=CX E.G (str [78,79,84]);simp only[List.map_cons,List.map_nil,Dh,eT,A9,Bz,Bx,AP,str] at cc wd;clear hv2;(repeat' (first |refine A0 ?_ |refine A4 ?_ |refine A3 ?_ |((first |refine sR (fun K kp=>?_) |refine rU (id:=14) mixed 9 [⟨0,0,[],[(0,1),(1,1)]⟩,⟨0,0,[0],[(0,1),(1,1)]⟩,⟨0,1,[0,1],[(1,1)]⟩,⟨1,0,[],[(0,1),(1,1)]⟩,⟨1,0,[],[(0,1),(1,1)]⟩,⟨1,0,[3,4],[(0,1),(1,1)]⟩,⟨1,0,[3,4,5],[(0,1),(1,1)]⟩,⟨1,0,[0,1],[(0,1),(1,1)]⟩,⟨1,1,[0,1,7],[(0,1)]⟩] 2 [54,55,56,57,58,59,60,61,62] [] (fun _ _ K kp=>?_) |refine cR wc ?_ |refine cU ml ?_ |refine cU mr ?_ |refine cU wd ?_ |refine cR cc ?_);simp(disch:=omega) only[go_sem,hx,eO,h,em,ha,l1,l2,Dh];(repeat' (first |(refine K _ ?_;clear K kp) |(with_reducible refine And.intro ?_ ?_) |omega))) |((refine A6 rfl (fun h=>?_) (fun h=>?_)<;>try simp only[Af] at h)<;>(try (exfalso;omega)))));(refine BF ((k+1,st.take m++[vt])) ?_ ?_;rotate_left;(·(refine AJ hE [6] rfl ?_ ?_<;>simp[Ai,AY,lk,ren,renL,AA,AU,Dh,List.map_take]<;>(try omega))));exact fin
   ·have cc:=FQ E.G false [[Bz],a,[A9 (str [73,83]),A9 Db],[Bx]] (by simp) (by intro x hx;simp at hx;rcases hx with rfl |rfl |rfl |rfl<;>first |omega |simp) (by simp)
    have hv2:[[Bz],a,[A9 (str [73,83]),A9 Db],[Bx]].flatten=vt:=by rw[hvt];simp[CN,h]
    rw[hv2] at cc;have ac:=E7 E.G false [str [73,83],Db] (by simp);simp only[List.map_cons,List.map_nil,Dh,eT,BK,A9,Bz,Bx,AP,Db,str] at cc ac;clear hv2;(repeat' (first |refine A0 ?_ |refine A4 ?_ |refine A3 ?_ |((first |refine sR (fun K kp=>?_) |refine rU (id:=16) mixed 10 [⟨0,0,[],[(0,1),(1,1),(2,1)]⟩,⟨0,1,[0],[(1,1),(2,1)]⟩,⟨1,0,[],[(0,1),(1,1),(2,1)]⟩,⟨1,0,[],[(0,1),(1,1),(2,1)]⟩,⟨1,0,[2,3],[(0,1),(1,1),(2,1)]⟩,⟨1,0,[2,3,4],[(0,1),(1,1),(2,1)]⟩,⟨1,1,[],[(0,1),(2,1)]⟩,⟨2,0,[0,6],[(0,1),(2,1)]⟩,⟨2,0,[0,6,7],[(0,1),(2,1)]⟩,⟨2,1,[0,6,7,8],[(0,1)]⟩] 3 [67,68,69,70,71,72,73,74,75,76] [] (fun _ _ K kp=>?_) |refine cR wc ?_ |refine cU ml ?_ |refine cU mr ?_ |refine cU ac ?_ |refine cR cc ?_);simp(disch:=omega) only[go_sem,hx,eO,h,em,ha,l1,l2,Dh];(repeat' (first |(refine K _ ?_;clear K kp) |(with_reducible refine And.intro ?_ ?_) |omega))) |((refine A6 rfl (fun h=>?_) (fun h=>?_)<;>try simp only[Af] at h)<;>(try (exfalso;omega)))));(refine BF ((k+1,st.take m++[vt])) ?_ ?_;rotate_left;(·(refine AJ hE [7] rfl ?_ ?_<;>simp[Ai,AY,lk,ren,renL,AA,AU,Dh,List.map_take]<;>(try omega))));exact fin
  ·rw[h0] at wc hno hg2
   simp only[Int.cast_ofNat_Int] at wc;obtain⟨m,hm0⟩: ∃m,st.length=m+2:=⟨st.length - 2,by omega⟩
   have em:((st.length:Int) - 2)=(m:Int):=by omega
   have em2:st.length - 2=m:=by omega
   obtain⟨a,ha⟩: ∃a,st[m]?=some a:=⟨st[m]'(by omega),by simp⟩;have l1:((m:Int)<(st.length:Int))=True:=aK (by omega);have l2:((m:Int)≤(st.length:Int))=True:=aK (by omega)
   have ga:st.getD m []=a:=by rw[List.getD,ha];rfl
   obtain⟨b,hb⟩: ∃b,st[m+1]?=some b:=⟨st[m+1]'(by omega),by simp⟩;have l3:((m:Int)+1<(st.length:Int))=True:=aK (by omega)
   have gb:st.getD (m+1) []=b:=by rw[List.getD,hb];rfl
   simp only[em2,show 0<2 by omega,show 1<2 by omega,if_true,ga,gb,Fa] at hno;have hfa:=Ht st m
   have hda:(st.drop m).flatten=a++b:=by rw[Am ha,Am hb,aR (by omega)];simp
   rw[hda,List.length_append] at hfa;have hlen:=Eg o a b;obtain⟨vt,hvt⟩: ∃vt,vt=CN o a b:=⟨_,rfl⟩;rw[<-hvt] at hno hlen
   have hal:a.length≤160:=by omega
   have hbl:b.length≤160:=by omega
   have fin:k+1≤ops.length/\(st.take m++[vt]).length≤k+1/\(st.take m++[vt]).flatten.length≤4 * (k+1)/\D4 BN Fa [] (ops.drop (k+1)) (st.take m++[vt])=D4 BN Fa [] ops []/\hgt BN (ops.drop (k+1)) (st.take m++[vt]).length=some 1:=by
    refine⟨by omega,by simp;omega,?_,hno,by first |(rw[<-hg2];congr 1;simp;done) |(rw[<-hg2];congr 1;simp;omega)⟩;simp only[eW,List.length_append,dP,gI,List.length_nil,List.append_nil] at hlen ⊢;omega
   have hks:=(K7 g1 g11).2.2 h0
   have n1: ¬o.k=1:=by omega
   have n2: ¬o.k=2:=by omega
   have n5: ¬o.k=5:=by omega
   have n11: ¬o.k=11:=by omega
   have b1:(o.k==1)=false:=by simpa using n1
   have b2:(o.k==2)=false:=by simpa using n2
   have b5:(o.k==5)=false:=by simpa using n5
   have b11:(o.k==11)=false:=by simpa using n11
   have bc:=Qi E.G o.k hks;have cc:=FQ E.G false [[Bz],a,[Mu o.k],b,[Bx]] (by simp) (by intro x hx;simp at hx;rcases hx with rfl |rfl |rfl |rfl |rfl<;>first |omega |simp) (by simp)
   have hv2:[[Bz],a,[Mu o.k],b,[Bx]].flatten=vt:=by rw[hvt];simp[CN,n1,n2,n5,n11]
   rw[hv2] at cc;generalize Mu o.k=bt at bc cc;simp only[List.map_cons,List.map_nil,Dh,eT,Bz,Bx,AP,str] at cc bc;clear hv2;(repeat' (first |refine A0 ?_ |refine A4 ?_ |refine A3 ?_ |((first |refine sR (fun K kp=>?_) |refine rU (id:=8) mixed 17 [⟨0,0,[],[(0,1),(1,1),(2,1)]⟩,⟨0,1,[0],[(1,1),(2,1)]⟩,⟨1,0,[],[(0,1),(1,1),(2,1)]⟩,⟨1,0,[],[(0,1),(1,1),(2,1)]⟩,⟨1,0,[2,3],[(0,1),(1,1),(2,1)]⟩,⟨1,0,[2,3,4],[(0,1),(1,1),(2,1)]⟩,⟨1,0,[],[(0,1),(1,1),(2,1)]⟩,⟨1,0,[6],[(0,1),(1,1),(2,1)]⟩,⟨1,0,[0,6,7],[(0,1),(1,1),(2,1)]⟩,⟨1,1,[0,6,7,8],[(0,1),(2,1)]⟩,⟨2,0,[],[(0,1),(1,1),(2,1)]⟩,⟨2,0,[],[(0,1),(1,1),(2,1)]⟩,⟨2,0,[11],[(0,1),(1,1),(2,1)]⟩,⟨2,0,[10,11,12],[(0,1),(1,1),(2,1)]⟩,⟨2,0,[10,11,12,13],[(0,1),(1,1),(2,1)]⟩,⟨2,0,[0,6,7,8],[(0,1),(1,1),(2,1)]⟩,⟨2,1,[0,6,7,8,15],[(0,1),(1,1)]⟩] 3 [22,23,24,25,26,27,28,29,30,31,32,33,34,35,36,37,38] [] (fun _ _ K kp=>?_) |refine cR wc ?_ |refine cU ml ?_ |refine cU mr ?_ |refine cU bc ?_ |refine cR cc ?_);simp(disch:=omega) only[go_sem,hx,eO,b1,b2,b5,b11,em,ha,hb,l1,l2,l3,Dh];(repeat' (first |(refine K _ ?_;clear K kp) |(with_reducible refine And.intro ?_ ?_) |omega))) |refine A1 rfl ?_ |((refine A6 rfl (fun h=>?_) (fun h=>?_)<;>try simp only[Af] at h)<;>(try (exfalso;omega)))));(refine BF ((k+1,st.take m++[vt])) ?_ ?_;rotate_left;(·(refine AJ hE [7] rfl ?_ ?_<;>simp[Ai,AY,lk,ren,renL,AA,AU,Dh,List.map_take]<;>(try omega))));exact fin
 ·have hgz:st.length=1:=by rw[aR (by omega)] at hg;simpa[hgt] using hg
  obtain⟨x,rfl⟩: ∃x,st=[x]:=dT.1 hgz;rw[aR (by omega),D4] at hno;rw[<-hno];simp only[Vt];(repeat' (first |refine A0 ?_ |refine A7 ?_ |((refine sR (fun K kp=>?_));simp(disch:=omega) only[go_sem,Dh];(repeat' (refine K _ ?_;clear K kp))) |((refine A6 rfl (fun h=>?_) (fun h=>?_)<;>try simp only[Af] at h)<;>(try (exfalso;omega))) |refine A5 ?_));(refine rJ results89 ?_;refine AG (by simp only[A8];simp(disch:=omega) only[go_sem,Dh];rfl) ?_;refine(AE hE (by simp) ?_).s;simp[A8,ren,renL,Dh])
theorem QS {E:Env}{N:Nat}{st:AS}(hE:E.th0.length=0)(hb:st.n≤1000000000)(k:Nat):N4 E N st (.r (.slice none 0 0)) [] 0 (.ro true k []):=by
 intro th z a w v hs hr;obtain⟨th',z',h1,h2⟩:=(AE (E:=E) (st:=st) (x:= .r (.slice none 0 0)) (y:= .r (.slice none 0 0)) hE hb rfl).s (N:=N) th z a w v hs hr;exact⟨th',z',h1,VY _ _ h2⟩
theorem Cz (G:GL)(t:Bool)(ls:List (List TK0))(hl:ls.length≤100)(hs: ∀x ∈ ls,x.length≤1000):Con prog G 111 [.ro t 1 (ls.map Dh)] [] 0 (Is (.ro true 3 (ls.flatten.map eT)) [] 0) No:=by
 refine cJ func111 fun E hG hE=>?_;subst hG;simp only[AX];(repeat' (first |refine A0 ?_ |refine A4 ?_ |((refine sR (fun K kp=>?_));simp -implicitDefEqProofs (disch:=omega) only[go_sem];(repeat' (refine K _ ?_;clear K kp)))));(refine AWP.emb (BY 3 134 3 ?_) ?_;(·rfl);dsimp only);refine AB (fun k:Nat=>⟨[(4,.r (.int .i64 k)),(0,.ro t 1 (ls.map Dh)),(3,.s 0 0 (ls.take k).flatten.length)],[(0,.lst 134 3 ((ls.take k).flatten.map eT))],1⟩) (fun k=>k≤ls.length) (fun k=>ls.length - k) 0 ?_ ?_ ?_
 ·simp
 ·(exact iK hE [0])
 intro k hk
 have hle:(ls.take k).flatten.length≤1000 * 100:=by
  have:=H3 (ls:=ls.take k) (fun x hx=>hs x (cB hx));simp only[aS] at this;omega
 by_cases hlt:k<ls.length
 ·obtain⟨x,hx⟩: ∃x,ls[k]?=some x:=⟨ls[k],by simp[hlt]⟩
  have hft:=Hd hx;have hxl:=hs x (aB hx);generalize (ls.take k).flatten=q at hft hle ⊢;have d1:decide ((k:Int)<(ls.length:Int))=true:=aE (by omega);(repeat' (first |refine A0 ?_ |refine A4 ?_ |refine A3 ?_ |((refine sR (fun K kp=>?_));simp -implicitDefEqProofs (disch:=omega) only[go_sem,hx,Dh,d1];(repeat' (refine K _ ?_;clear K kp))) |refine A2 rfl ?_));refine AB (fun j:Nat=>⟨[(5,.r (.int .i64 j)),(4,.r (.int .i64 k)),(0,.ro t 1 (ls.map Dh)),(3,.s 0 0 (q++x.take j).length)],[(0,.lst 134 3 ((q++x.take j).map eT))],1⟩) (fun j=>j≤x.length) (fun j=>x.length - j) 0 ?_ ?_ ?_
  ·simp
  ·(exact iK hE [0])
  intro j hj
  have hlj:(q++x.take j).length≤1000 * 101:=by simp;omega
  by_cases hjl:j<x.length
  ·obtain⟨y,hy⟩: ∃y,x[j]?=some y:=⟨x[j],by simp[hjl]⟩
   have htj:q++x.take (j+1)=q++x.take j++[y]:=by rw[aV,hy];simp
   generalize q++x.take j=qj at htj hlj ⊢;have d2:decide ((j:Int)<(x.length:Int))=true:=aE (by omega);(repeat' (first |refine A0 ?_ |refine A4 ?_ |refine A3 ?_ |((refine sR (fun K kp=>?_));simp -implicitDefEqProofs (disch:=omega) only[go_sem,hx,hy,Dh,eT,d2];(repeat' (first |(refine K _ ?_;clear K kp) |(with_reducible refine And.intro ?_ ?_) |omega))) |refine A2 rfl ?_));(refine BF (j+1) ?_ ?_;rotate_left;(·(refine AJ hE [2] rfl ?_ ?_<;>simp[Ai,AY,lk,ren,renL,AA,AU,htj,eT]<;>(try omega))));omega
  ·obtain rfl:j=x.length:=by omega
   rw[aN (Nat.le_refl _),<-hft] at hlj ⊢;have d2:decide ((x.length:Int)<(x.length:Int))=false:=aC (by omega);(repeat' (first |refine A0 ?_ |refine A7 ?_ |((refine sR (fun K kp=>?_));simp -implicitDefEqProofs (disch:=omega) only[go_sem,hx,Dh,d2];(repeat' (refine K _ ?_;clear K kp))) |refine A1 rfl ?_));(refine BF (k+1) ?_ (iK hE [0]));omega
 ·obtain rfl:k=ls.length:=by omega
  rw[aN (Nat.le_refl _)];have d1:decide ((ls.length:Int)<(ls.length:Int))=false:=aC (by omega);(repeat' (first |refine A0 ?_ |refine A7 ?_ |((refine sR (fun K kp=>?_));simp -implicitDefEqProofs (disch:=omega) only[go_sem,d1];(repeat' (refine K _ ?_;clear K kp))) |refine A1 rfl ?_ |refine A5 ?_));(refine rJ results111 ?_;refine AG (by simp only[A8];simp -implicitDefEqProofs (disch:=omega) only[go_sem];rfl) ?_;refine(AE hE (by simp) ?_).s;simp[A8,ren,renL])
def Bw:RT OP->List TK0
 | .l o=>CN o [] []
 | .u o t=>CN o (Bw t) []
 | .b o s t=>CN o (Bw s) (Bw t)
theorem Cd: ∀tr:RT OP,(Bw tr).length≤4 * tr.flat.length
 | .l o=>by have:=Eg o [] [];simp[Bw,RT.flat] at this ⊢;omega
 | .u o t=>by have:=Eg o (Bw t) [];have:=Cd t;simp[Bw,RT.flat] at this ⊢;simp at *;omega
 | .b o s t=>by have:=Eg o (Bw s) (Bw t);have:=Cd s;have:=Cd t;simp only[Bw,RT.flat,List.length_append,List.length_cons,List.length_nil];omega
theorem JB: ∀tr:RT OP,Fr Fa [] tr= .ok (Bw tr)
 | .l o=>rfl
 | .u o t=>by rw[Fr,JB t];rfl
 | .b o s t=>by rw[Fr,JB s];simp only;rw[JB t];rfl
theorem MM {tr:RT OP}(h:tr.wf BN):Vt (D4 BN Fa [] tr.flat [])=Bw tr:=by
 have:=F5 BN Fa [] tr [] [] h;rw[List.append_nil,JB] at this;rw[this];rfl
theorem Cs {s:ByteArray}(h:goodN s):Au s.toList=[A9 s]:=by
 have e:=G0 s.toList [] [] h.none;rw[List.append_nil] at e;rw[Au,e,List.nil_append];exact Jy h
def Yy (o:OP):Prop:=A0f o/\(o.k=2->goodN o.nm)
theorem TQ:Au [40,32,78,79,84]=[Bz,A9 (str [78,79,84])]:=rfl
theorem NR:Au [40]=[Bz]:=rfl
theorem NQ:Au [41]=[Bx]:=rfl
theorem PQ:Au [73,83,32,78,85,76,76,32,41]=[A9 (str [73,83]),A9 Db,Bx]:=rfl
def T_ (k:Int):List UInt8:=if k=3 then [65,78,68] else if k=4 then [79,82] else if k=6 then [61] else if k=7 then [60] else if k=8 then [43] else if k=9 then [45] else [42]
theorem VG (k:Int):(T_ k).length≤1000000:=by
 unfold T_
 repeat' split
 all_goals simp
theorem Ux (k:Int):Au (T_ k)=[Mu k]:=by
 unfold T_ Mu
 repeat' split
 all_goals rfl
theorem EC (G:GL)(t:Bool): ∀tr:RT OP,tr.wf BN->(∀o ∈ tr.flat,Yy o)->tr.flat.length≤40->Con prog G 113 [.ro t 5 (tr.flat.map eO)] [] 0 (Is (.ro true 3 ((Bw tr).map eT)) [] 0) No
 | .l o,hw,hk,hn=>by
   obtain⟨⟨⟨k1,k11⟩,gv⟩,gn⟩:=hk o (by simp[RT.flat]);simp only[RT.wf] at hw;simp only[RT.flat,List.map_cons,List.map_nil,Bw];refine cJ func113 fun E hG hE=>?_;subst hG;simp only[AX]
   obtain h |h:=(K7 k1 k11).1 hw
   ·have sc:=Hs E.G ⟨o.vk,o.vn,o.vs⟩ (gv h).1 (gv h).2
    have hst:CN o [] []=B2 ⟨o.vk,o.vn,o.vs⟩:=by simp[CN,h]
    rw[hst];generalize B2 ⟨o.vk,o.vn,o.vs⟩=vt at *;simp only[eV] at sc;(repeat' (first |refine A0 ?_ |((first |refine sR (fun K kp=>?_) |refine cR sc ?_);simp -implicitDefEqProofs (disch:=omega) only[go_sem,eO,h];(repeat' (refine K _ ?_;clear K kp))) |refine A2 rfl ?_ |refine A5 ?_));(refine rJ results113 ?_;exact eQ hE)
   ·have hst:CN o [] []=[A9 o.nm]:=by simp[CN,h]
    have tc:=Ao E.G o.nm.toList (by have:=(gn h).len;omega);rw[Cs (gn h),<-Go.Proofs.YtmohnlbeiaifhaaGreatDoor.Cp] at tc;simp only[List.map_cons,List.map_nil,List.length_cons,List.length_nil,eT,A9] at tc;rw[hst];(repeat' (first |refine A0 ?_ |refine A3 ?_ |((first |refine sR (fun K kp=>?_) |refine cR tc ?_);simp -implicitDefEqProofs (disch:=omega) only[go_sem,eO,h];(repeat' (refine K _ ?_;clear K kp))) |refine A2 rfl ?_ |refine A1 rfl ?_ |refine A5 ?_));(refine rJ results113 ?_;refine AG (by simp only[A8];simp -implicitDefEqProofs (disch:=omega) only[go_sem,eT,A9];rfl) ?_;refine(AE hE (by simp) ?_).s;simp[A8,ren,renL,eT,A9])
 | .u o s,hw,hk,hn=>by
   obtain⟨hw1,hw2⟩:=hw;obtain⟨⟨⟨k1,k11⟩,gv⟩,gn⟩:=hk o (by simp[RT.flat]);have ih:=EC G t s hw2 (fun x hx=>hk x (by simp[RT.flat,hx])) (by simp[RT.flat] at hn;omega);obtain⟨ops,hops⟩: ∃ops,ops=(RT.u o s).flat:=⟨_,rfl⟩;rw[<-hops];obtain⟨n,hne⟩: ∃n,n=s.flat.length:=⟨_,rfl⟩
   have hln:ops.length=n+1:=by rw[hops,hne];simp[RT.flat]
   have hx:ops[n]?=some o:=by rw[hops,hne];simp[RT.flat]
   have htk:ops.take n=s.flat:=by rw[hops,hne];simp[RT.flat]
   have e1:(ops.length:Int) - 1=(n:Nat):=by omega
   have hle:n≤1000:=by rw[<-hops] at hn;omega
   have hmt:s.flat.map eO=(ops.map eO).take n:=by rw[<-List.map_take,htk]
   rw[hmt] at ih
   have hle2:(n:Int)≤ops.length:=by omega
   have hsl:=Cd s;obtain⟨a,hae⟩: ∃a,a=Bw s:=⟨_,rfl⟩
   have hst:Bw (.u o s)=CN o a []:=by rw[hae];rfl
   rw[hst];rw[<-hae] at ih hsl
   have hnn:s.flat.length≤40:=by rw[<-hops] at hn;omega
   have hal:a.length≤200:=by omega
   have tl:=Ao G [40] (by simp);have tr:=Ao G [41] (by simp);have tn:=Ao G [40,32,78,79,84] (by simp);have ti:=Ao G [73,83,32,78,85,76,76,32,41] (by simp);rw[NR] at tl;rw[NQ] at tr;rw[TQ] at tn;rw[PQ] at ti;obtain⟨vt,hvt⟩: ∃vt,vt=CN o a []:=⟨_,rfl⟩;rw[<-hvt]
   obtain h |h:=(K7 k1 k11).2.1 hw1
   ·have cc:=Cz G false [[Bz,A9 (str [78,79,84])],a,[Bx]] (by simp) (by intro x hx;simp at hx;rcases hx with rfl |rfl |rfl<;>first |omega |simp)
    have hv2:[[Bz,A9 (str [78,79,84])],a,[Bx]].flatten=vt:=by rw[hvt];simp[CN,h]
    rw[hv2] at cc;simp only[List.map_cons,List.map_nil,List.length_cons,List.length_nil,Dh,eT,A9,Bz,Bx,AP,Db,str] at cc tl tr tn ti;clear hv2;refine cJ func113 fun E hG hE=>?_;subst hG;simp only[AX];(repeat' (first |refine A0 ?_ |refine A3 ?_ |((first |refine sR (fun K kp=>?_) |refine sD (id:=8) mixed 9 [1,2,3,0,4,5,6,7,8] (fun K kp=>?_) |refine cD tr ?_ |refine cD tn ?_ |refine cD ih ?_ |refine cD cc ?_);simp -implicitDefEqProofs (disch:=omega) only[go_sem,eO,h,hx,e1,Dh];(repeat' (refine K _ ?_;clear K kp))) |refine A2 rfl ?_ |refine A1 rfl ?_ |refine A5 ?_));(refine rJ results113 ?_;exact eQ hE)
   ·have cc:=Cz G false [[Bz],a,[A9 (str [73,83]),A9 Db,Bx]] (by simp) (by intro x hx;simp at hx;rcases hx with rfl |rfl |rfl<;>first |omega |simp)
    have hv2:[[Bz],a,[A9 (str [73,83]),A9 Db,Bx]].flatten=vt:=by rw[hvt];simp[CN,h]
    rw[hv2] at cc;simp only[List.map_cons,List.map_nil,List.length_cons,List.length_nil,Dh,eT,A9,Bz,Bx,AP,Db,str] at cc tl tr tn ti;clear hv2;refine cJ func113 fun E hG hE=>?_;subst hG;simp only[AX];(repeat' (first |refine A0 ?_ |refine A3 ?_ |((first |refine sR (fun K kp=>?_) |refine sD (id:=10) mixed 9 [1,2,3,0,4,5,6,7,8] (fun K kp=>?_) |refine cD tl ?_ |refine cD ti ?_ |refine cD ih ?_ |refine cD cc ?_);simp -implicitDefEqProofs (disch:=omega) only[go_sem,eO,h,hx,e1,Dh];(repeat' (refine K _ ?_;clear K kp))) |refine A2 rfl ?_ |refine A1 rfl ?_ |refine A5 ?_));(refine rJ results113 ?_;exact eQ hE)
 | .b o r s,hw,hk,hn=>by
   obtain⟨hw1,hw2,hw3⟩:=hw;obtain⟨⟨⟨k1,k11⟩,gv⟩,gn⟩:=hk o (by simp[RT.flat]);have ihr:=EC G t r hw2 (fun x hx=>hk x (by simp[RT.flat,hx])) (by simp[RT.flat] at hn;omega);have ihs:=EC G t s hw3 (fun x hx=>hk x (by simp[RT.flat,hx])) (by simp[RT.flat] at hn;omega);obtain⟨ops,hops⟩: ∃ops,ops=(RT.b o r s).flat:=⟨_,rfl⟩;rw[<-hops];obtain⟨m,hme⟩: ∃m,m=r.flat.length:=⟨_,rfl⟩;obtain⟨n,hne⟩: ∃n,n=r.flat.length+s.flat.length:=⟨_,rfl⟩
   have hln:ops.length=n+1:=by rw[hops,hne];simp[RT.flat];omega
   have hx:ops[n]?=some o:=by rw[hops,hne,<-List.length_append];simp only[RT.flat];exact dG
   have htk:ops.take n=r.flat++s.flat:=by rw[hops,hne,<-List.length_append];simp only[RT.flat];exact gB
   have htm:ops.take m=r.flat:=by rw[hops,hme];simp[RT.flat]
   have e1:(ops.length:Int) - 1=(n:Nat):=by omega
   have hle:n≤1000:=by rw[<-hops] at hn;omega
   have hmr:r.flat.map eO=(ops.map eO).take m:=by rw[<-List.map_take,htm]
   have hms:s.flat.map eO=((ops.map eO).take n).drop m:=by rw[<-List.map_take,<-List.map_drop,htk,hme];simp
   rw[hmr] at ihr;rw[hms] at ihs
   have hbe:Hq BN ops n=m:=by rw[hops,hne,hme];have:=Hk (ar:=BN) r.flat s [o] hw3;simpa[RT.flat] using this
   have bc:=IU G t ops n (by rw[hops];omega) (by omega) (by
    intro i k hi hc
    rcases gA i with rfl |h0
    ·exfalso
     have hp:=RT.flat_pos r;unfold Hq at hbe;simp only[List.take_zero,eR,cnt,Nat.add_zero,Nat.sub_zero] at hc;omega
    ·exact h0)
   rw[hbe] at bc;have hrl:=Cd r;have hsl:=Cd s
   have hnn:r.flat.length+s.flat.length≤40:=by rw[<-hops] at hn;omega
   obtain⟨a,hae⟩: ∃a,a=Bw r:=⟨_,rfl⟩;obtain⟨b,hbe2⟩: ∃b,b=Bw s:=⟨_,rfl⟩
   have hst:Bw (.b o r s)=CN o a b:=by rw[hae,hbe2];rfl
   rw[hst];rw[<-hae] at ihr hrl;rw[<-hbe2] at ihs hsl
   have hal:a.length≤200:=by omega
   have hbl:b.length≤200:=by omega
   have tl:=Ao G [40] (by simp);have tr:=Ao G [41] (by simp);have tg:=Ao G (T_ o.k) (VG o.k);rw[NR] at tl;rw[NQ] at tr;rw[Ux] at tg;obtain⟨vt,hvt⟩: ∃vt,vt=CN o a b:=⟨_,rfl⟩;rw[<-hvt];have hks:=(K7 k1 k11).2.2 hw1;have cc:=Cz G false [[Bz],a,[Mu o.k],b,[Bx]] (by simp) (by intro x hx;simp at hx;rcases hx with rfl |rfl |rfl |rfl |rfl<;>first |omega |simp)
   have hv2:[[Bz],a,[Mu o.k],b,[Bx]].flatten=vt:=by
    rw[hvt];simp[CN,show ¬o.k=1 by omega,show ¬o.k=2 by omega,show ¬o.k=5 by omega,show ¬o.k=11 by omega]
   rw[hv2] at cc;clear hv2;generalize hbt:Mu o.k=bt at tg cc;simp only[List.map_cons,List.map_nil,List.length_cons,List.length_nil,Dh,eT,Bz,Bx,AP,str] at cc tl tr tg
   rcases hks with h |h |h |h |h |h |h
   all_goals
    simp only[T_,h] at tg;refine cJ func113 fun E hG hE=>?_;subst hG;simp only[AX];(repeat' (first |refine A0 ?_ |refine A3 ?_ |((first |refine sR (fun K kp=>?_) |refine sD (id:=13) mixed 16 [1,2,3,5,7,8,9,10,0,4,6,11,12,13,14,15] (fun K kp=>?_) |refine cD tl ?_ |refine cD tr ?_ |refine cD tg ?_ |refine cR bc ?_ |refine cD ihr ?_ |refine cD ihs ?_ |refine cD cc ?_);simp -implicitDefEqProofs (disch:=omega) only[go_sem,eO,h,hx,e1,Dh];(repeat' (refine K _ ?_;clear K kp))) |refine A1 rfl ?_ |refine A5 ?_));(refine rJ results113 ?_;exact eQ hE)
def IX (l:List OP)(tr:RT OP):List TK0:=if l=[] then [] else A9 (str [87,72,69,82,69])::Bw tr
structure WhOk (l:List OP)(tr:RT OP):Prop where
 wf:l≠[]->tr.wf BN
 flat:l≠[]->tr.flat=l
 len:l.length≤40
 ops: ∀o ∈ l,Yy o
 hgt:l≠[]->hgt BN l 0=some 1
theorem WhOk.lenT {l:List OP}{tr:RT OP}(h:WhOk l tr):(IX l tr).length≤161:=by
 unfold IX;split
 ·simp
 ·rename_i hne
  have:=Cd tr;rw[h.flat hne] at this;have:=h.len;simp;omega
theorem FT (G:GL)(l:List OP)(tr:RT OP)(h:WhOk l tr):Con prog G 90 [.ro true 5 (l.map eO)] [] 0 (Is (.ro true 3 ((IX l tr).map eT)) [] 0) No:=by
 refine cJ func90 fun E hG hE=>?_;subst hG;simp only[AX];have hl:=h.len
 by_cases h0:l=[]
 ·subst h0
  (repeat' (first |refine A0 ?_ |((refine sR (fun K kp=>?_));simp -implicitDefEqProofs (disch:=omega) only[go_sem];(repeat' (refine K _ ?_;clear K kp))) |refine A2 rfl ?_ |refine A5 ?_));refine rJ results90 ?_;exact QS hE (by simp) 3
 ·have hp:0<l.length:=cV.2 h0
  have ac:=Fx E.G false [str [87,72,69,82,69]] (by simp);have sc:=KF E.G true l hl (fun o ho=>(h.ops o ho).1) (h.hgt h0);have hf:=MM (h.wf h0);rw[h.flat h0] at hf;rw[hf] at sc
  have hw:IX l tr=[A9 (str [87,72,69,82,69])]++Bw tr:=by simp[IX,h0]
  have hsl:=Cd tr;rw[h.flat h0] at hsl;rw[hw];generalize Bw tr=rt at *;simp only[List.map_cons,List.map_nil,List.length_cons,List.length_nil,BK,eT,A9,str] at ac;(repeat' (first |refine A0 ?_ |refine A3 ?_ |((first |refine sR (fun K kp=>?_) |refine cR ac ?_ |refine cR sc ?_);simp -implicitDefEqProofs (disch:=omega) only[go_sem];(repeat' (first |(refine K _ ?_;clear K kp) |(with_reducible refine And.intro ?_ ?_) |omega))) |((refine A6 rfl (fun h=>?_) (fun h=>?_)<;>try simp only[Af] at h)<;>(try (exfalso;omega))) |refine A5 ?_))
  all_goals first |(exfalso;omega) |(refine rJ results90 ?_;refine AG (by simp only[A8];simp -implicitDefEqProofs (disch:=omega) only[go_sem,aS,List.length_cons,List.length_append,List.length_map,List.length_nil,eT,A9,str];rfl) ?_;refine(AE hE (by simp) ?_).s;simp(disch:=(simp;omega)) [A8,ren,renL,aN,eT,A9,str])
theorem Ol (s:ByteArray):(s.toList==ByteArray.toList ⟨#[]⟩)=decide (s.toList=[]):=by
 have:ByteArray.toList ⟨#[]⟩=[]:=by simp[cW]
 rw[this]
 cases s.toList<;>rfl
def Hm:ByteArray:=str [83,69,76,69,67,84]
def S6:ByteArray:=str [67,79,85,78,84]
def Ck:ByteArray:=str [70,82,79,77]
def Lx:ByteArray:=str [79,82,68,69,82]
def WJ:ByteArray:=str [66,89]
def Ka:ByteArray:=str [68,69,83,67]
def Jl:ByteArray:=str [76,73,77,73,84]
def E8 (s:ST):List TK0:=if s.count=true then [A9 S6,Bz,AP (str [42]),Bx] else if s.names=[] then [AP (str [42])] else B_ (s.names.map fun n=>[A9 n])
def Ip (s:ST):List TK0:=if s.ord.toList=[] then [] else [A9 Lx,A9 WJ,A9 s.ord]++(if s.down=true then [A9 Ka] else [])
def Oe (s:ST):List TK0:=if s.lim≥0 then [A9 Jl,⟨2,str [],s.lim⟩] else []
def Ep (l:List (List TK0)):List TK0:=[A9 Hm]++B_ l
def Fg (s:ST)(wt:List TK0):List TK0:=[A9 Hm]++E8 s++[A9 Ck,A9 s.tab]++wt++Ip s++Oe s
theorem OM (G:GL)(s:ST)(tr:RT OP)(hw:WhOk s.wh tr)(hn:s.names.length≤6):Con prog G 86 [.agg (AI s)] [] 0 (Is (.ro true 3 ((Fg s (IX s.wh tr)).map eT)) [] 0) No:=by
 refine cJ func86 fun E hG hE=>?_;subst hG;simp only[AX];have a1:=Fx E.G false [Hm] (by simp);have a2:=E7 E.G false [Ck,s.tab] (by simp);have a3:=E7 E.G false [Lx,WJ,s.ord] (by simp);have wcon:=FT E.G s.wh tr hw;have hwl:=hw.lenT;have he:=Ol s.ord;simp only[List.map_cons,List.map_nil,List.length_cons,List.length_nil,BK,eT,A9,Hm,Ck,Lx,WJ,str] at a1 a2 a3;generalize IX s.wh tr=wt at *
 have tk1: ∀d:Bool,decide (s.ord.toList=[])=d->Ip s=if d=true then [] else [A9 Lx,A9 WJ,A9 s.ord]++(if s.down=true then [A9 Ka] else []):=by
  intro d hd;cases d
  ·simp[Ip,of_decide_eq_false hd]
  ·simp[Ip,aZ hd]
 have tk2: ∀d:Bool,decide (s.lim≥0)=d->Oe s=if d=true then [A9 Jl,⟨2,str [],s.lim⟩] else []:=by
  intro d hd;cases d
  ·rw[Oe,if_neg (of_decide_eq_false hd)];simp
  ·rw[Oe,if_pos (aZ hd)];simp
 cases hc:s.count with
 |true=>
  cases ho:decide (s.ord.toList=[])<;>cases hl:decide (s.lim≥0)<;>cases hd:s.down
  all_goals
   have tk1:=tk1 _ ho;have tk2:=tk2 _ hl;(repeat' (first |refine A0 ?_ |refine A4 ?_ |refine A3 ?_ |((first |refine sR (fun K kp=>?_) |refine sD (id:=20) mixed 6 [0,2,3,4,1,5] (fun K kp=>?_) |refine cR a1 ?_ |refine cR a2 ?_ |refine cR a3 ?_ |refine cR wcon ?_ |refine cR (CX _ _) ?_ |refine cD (CX _ _) ?_ |refine cR (Dc _ _) ?_);simp -implicitDefEqProofs (disch:=omega) only[go_sem,AI,hc,he,ho,hl,hd,eT,A9,AP,aS,List.length_cons,List.length_append,List.length_map,List.length_nil];(repeat' (first |(refine K _ ?_;clear K kp) |(with_reducible refine And.intro ?_ ?_) |omega))) |refine A2 rfl ?_ |refine A1 rfl ?_ |refine A5 ?_))
   all_goals first |(exfalso;omega) |(refine rJ results86 ?_;refine AG (by simp only[A8];simp -implicitDefEqProofs (disch:=omega) only[go_sem,aS,List.length_cons,List.length_append,List.length_map,List.length_nil,Fg,E8,tk1,tk2,hd,hc,eT,A9,AP,Bz,Bx,Hm,S6,Ck,Lx,WJ,Ka,Jl,str];rfl) ?_;refine(AE hE (by simp) ?_).s;simp(disch:=(simp;omega)) [A8,ren,renL,aN,Fg,E8,tk1,tk2,hd,hc,eT,A9,AP,Bz,Bx,Hm,S6,Ck,Lx,WJ,Ka,Jl,str])
 |false=>
  by_cases hnn:s.names=[]
  ·cases ho:decide (s.ord.toList=[])<;>cases hl:decide (s.lim≥0)<;>cases hd:s.down
   all_goals
    have tk1:=tk1 _ ho;have tk2:=tk2 _ hl;(repeat' (first |refine A0 ?_ |refine A4 ?_ |refine A3 ?_ |((first |refine sR (fun K kp=>?_) |refine sD (id:=20) mixed 6 [0,2,3,4,1,5] (fun K kp=>?_) |refine cR a1 ?_ |refine cR a2 ?_ |refine cR a3 ?_ |refine cR wcon ?_ |refine cR (CX _ _) ?_ |refine cD (CX _ _) ?_ |refine cR (Dc _ _) ?_);simp -implicitDefEqProofs (disch:=omega) only[go_sem,AI,hc,hnn,he,ho,hl,hd,eT,A9,AP,List.map_nil,aS,List.length_cons,List.length_append,List.length_map,List.length_nil];(repeat' (first |(refine K _ ?_;clear K kp) |(with_reducible refine And.intro ?_ ?_) |omega))) |refine A2 rfl ?_ |refine A1 rfl ?_ |refine A5 ?_))
    all_goals first |(exfalso;omega) |(refine rJ results86 ?_;refine AG (by simp only[A8];simp -implicitDefEqProofs (disch:=omega) only[go_sem,aS,List.length_cons,List.length_append,List.length_map,List.length_nil,Fg,E8,tk1,tk2,hd,hc,hnn,eT,A9,AP,Bz,Bx,Hm,S6,Ck,Lx,WJ,Ka,Jl,str];rfl) ?_;refine(AE hE (by simp) ?_).s;simp(disch:=(simp;omega)) [A8,ren,renL,aN,Fg,E8,tk1,tk2,hd,hc,hnn,eT,A9,AP,Bz,Bx,Hm,S6,Ck,Lx,WJ,Ka,Jl,str])
  ·have hp:0<s.names.length:=cV.2 hnn
   have dn:((s.names.length:Int)==0)=false:=by simp;omega
   obtain⟨ns,hns⟩: ∃ns,ns=s.names.map fun n=>[A9 n]:=⟨_,rfl⟩
   have hnl:ns.length=s.names.length:=by rw[hns];simp
   (repeat' (first |refine A0 ?_ |refine A4 ?_ |((first |refine sR (fun K kp=>?_) |refine cR a1 ?_);simp -implicitDefEqProofs (disch:=omega) only[go_sem,AI,hc,dn];(repeat' (refine K _ ?_;clear K kp))) |refine A1 rfl ?_))
   refine AB (fun k:Nat=>⟨[(11,.r (.int .i64 k)),(10,.r (.int .i64 s.names.length)),(9,.ro true 1 (s.names.map BK)),(3,.s 1 0 (Ep (ns.take k)).length),(1,.p 0 0 0)],
    [(0,.box 30 (AI s)),(1,.lst 134 3 ((Ep (ns.take k)).map eT))],2⟩) (fun k=>k≤s.names.length) (fun k=>s.names.length - k) 0 ?_ ?_ ?_
   ·simp
   ·(refine AJ hE [0,2] rfl ?_ ?_<;>simp[Ai,AY,lk,ren,renL,AA,AU,AI,hc,Ep,B_,eT,A9,Hm,str]<;>(try omega))
   intro k hk
   have hcl:(B_ (ns.take k)).length≤20:=by
    have key: ∀l:List (List TK0),(∀x ∈ l,x.length=1)->(B_ l).length≤2 * l.length:=by
     intro l
     induction l with
     |nil=>intro _;simp[B_]
     |cons x r ih=>
      intro h;have hx:=h x (by simp);have:=ih (fun y hy=>h y (by simp[hy]))
      cases r with
      |nil=>simp[B_,hx]
      |cons y z=>rw[Ft];simp at this ⊢;omega
    have:=key (ns.take k) (fun x hx=>by have:=cB hx;rw[hns] at this;obtain⟨n,_,rfl⟩:=cI.1 this;rfl);simp only[aS] at this;omega
   by_cases hlt:k<s.names.length
   ·obtain⟨nm,hx⟩: ∃x,s.names[k]?=some x:=⟨s.names[k],by simp[hlt]⟩
    have hx2:ns[k]?=some [A9 nm]:=by rw[hns,List.getElem?_map,hx];rfl
    by_cases h0:0<k
    ·have d1:decide ((k:Int)>0)=true:=aE (by omega)
     have hm:Ep (ns.take (k+1))=Ep (ns.take k)++[AP (str [44])]++[A9 nm]:=by
      have:=F1 hx2 h0;simp only[Av,List.cons_append,fC,true_and] at this;rw[Ep,this];simp[Ep]
     have hq:(Ep (ns.take k)).length≤21:=by rw[Ep,List.length_append];simp only[List.length_cons,List.length_nil];omega
     generalize Ep (ns.take k)=q at hm hq ⊢;(repeat' (first |refine A0 ?_ |refine A4 ?_ |refine A3 ?_ |((first |refine sR (fun K kp=>?_) |refine cR (CX _ _) ?_ |refine cR (Dc _ _) ?_);simp -implicitDefEqProofs (disch:=omega) only[go_sem,AI,hx,BK,d1,eT,A9,AP];(repeat' (first |(refine K _ ?_;clear K kp) |(with_reducible refine And.intro ?_ ?_) |omega))) |refine A2 rfl ?_ |((refine A6 rfl (fun h=>?_) (fun h=>?_)<;>try simp only[Af] at h)<;>(try (exfalso;omega)))));(refine BF (k+1) ?_ ?_;rotate_left;(·(refine AJ hE [0,5] rfl ?_ ?_<;>simp[Ai,AY,lk,ren,renL,AA,AU,hm,eT,A9,AP,str,AI,hc]<;>(try omega))));omega
    ·obtain rfl:k=0:=by omega
     have hm:Ep (ns.take (0+1))=Ep (ns.take 0)++[A9 nm]:=by
      have:=Fj hx2;simp only[Av,Ns,List.cons_append,List.nil_append,fC,true_and] at this;rw[Ep,this];simp[B_,Ep]
     have hq:(Ep (ns.take 0)).length≤21:=by rw[Ep,List.length_append];simp only[List.length_cons,List.length_nil];omega
     generalize Ep (ns.take 0)=q at hm hq ⊢;(repeat' (first |refine A0 ?_ |refine A4 ?_ |refine A3 ?_ |((first |refine sR (fun K kp=>?_) |refine cR (CX _ _) ?_);simp -implicitDefEqProofs (disch:=omega) only[go_sem,AI,hx,BK,eT,A9,AP];(repeat' (first |(refine K _ ?_;clear K kp) |(with_reducible refine And.intro ?_ ?_) |omega))) |refine A1 rfl ?_ |((refine A6 rfl (fun h=>?_) (fun h=>?_)<;>try simp only[Af] at h)<;>(try (exfalso;omega)))));(refine BF (0+1) ?_ ?_;rotate_left;(·(refine AJ hE [0,3] rfl ?_ ?_<;>simp[Ai,AY,lk,ren,renL,AA,AU,hm,eT,A9,AP,str,AI,hc]<;>(try omega))));omega
   ·obtain rfl:k=s.names.length:=by omega
    rw[<-hnl,aN (Nat.le_refl _)] at hcl ⊢
    have hq:(Ep ns).length≤21:=by rw[Ep,List.length_append];simp only[List.length_cons,List.length_nil];omega
    have hwt:[A9 Hm]++E8 s=Ep ns:=by simp[Ep,E8,hc,hnn,hns]
    have hpt:Fg s wt=(Ep ns)++[A9 Ck,A9 s.tab]++wt++Ip s++Oe s:=by rw[Fg,hwt]
    generalize Ep ns=q at hq hpt ⊢;rw[hnl]
    cases ho:decide (s.ord.toList=[])<;>cases hl:decide (s.lim≥0)<;>cases hd:s.down
    all_goals
     have tk1:=tk1 _ ho;have tk2:=tk2 _ hl;(repeat' (first |refine A0 ?_ |refine A3 ?_ |refine A7 ?_ |((first |refine sR (fun K kp=>?_) |refine sD (id:=20) mixed 6 [0,2,3,4,1,5] (fun K kp=>?_) |refine cR a2 ?_ |refine cR a3 ?_ |refine cR wcon ?_ |refine cR (CX _ _) ?_ |refine cD (CX _ _) ?_);simp -implicitDefEqProofs (disch:=omega) only[go_sem,AI,hc,he,ho,hl,hd,eT,A9,AP,aS,List.length_cons,List.length_append,List.length_map,List.length_nil];(repeat' (first |(refine K _ ?_;clear K kp) |(with_reducible refine And.intro ?_ ?_) |omega))) |refine A2 rfl ?_ |refine A1 rfl ?_ |((refine A6 rfl (fun h=>?_) (fun h=>?_)<;>try simp only[Af] at h)<;>(try (exfalso;omega))) |refine A5 ?_))
     all_goals first |(exfalso;omega) |(refine rJ results86 ?_;refine AG (by simp only[A8];simp -implicitDefEqProofs (disch:=omega) only[go_sem,aS,List.length_cons,List.length_append,List.length_map,List.length_nil,hpt,tk1,tk2,hd,eT,A9,AP,Bz,Bx,S6,Ck,Lx,WJ,Ka,Jl,str];rfl) ?_;refine(AE hE (by simp) ?_).s;simp(disch:=(simp;omega)) [A8,ren,renL,aN,hpt,tk1,tk2,hd,eT,A9,AP,Bz,Bx,S6,Ck,Lx,WJ,Ka,Jl,str])
def okV (v:V):Prop:=GoodV v/\v.n≤9223372036854775807
structure ToOk (l:List OP)(tr:RT OP):Prop where
 wf:tr.wf BN
 flat:tr.flat=l
 len:l.length≤40
 ops: ∀o ∈ l,Yy o
 hgt:hgt BN l 0=some 1
theorem ToOk.lenT {l:List OP}{tr:RT OP}(h:ToOk l tr):(Bw tr).length≤160:=by
 have:=Cd tr;rw[h.flat] at this;have:=h.len;omega
structure OkSt (s:ST)(trW trT:RT OP):Prop where
 lo:1≤s.k
 hi:s.k≤9
 tab:s.k<7->goodN s.tab
 cols:s.k=1->s.cols.length≤6/\ ∀c ∈ s.cols,QF c/\goodN c.nm
 row:s.k=3->s.row.length≤6/\ ∀v ∈ s.row,okV v
 names:s.k=4->s.names.length≤6/\ ∀n ∈ s.names,goodN n
 wh:s.k=4\/s.k=5\/s.k=6->WhOk s.wh trW
 cnt:s.k=4->s.count=true->s.names=[]
 ord:s.k=4->s.ord.toList≠[]->goodN s.ord
 down:s.k=4->s.down=true->s.ord.toList≠[]
 set:s.k=5->goodN s.set
 to:s.k=5->ToOk s.to trT
def Pk (s:ST):List TK0:=[A9 (str [73,78,83,69,82,84]),A9 (str [73,78,84,79]),A9 s.tab,A9 (str [86,65,76,85,69,83])]++Fk (s.row.map B2)
def OI (s:ST)(tt wt:List TK0):List TK0:=[A9 (str [85,80,68,65,84,69]),A9 s.tab,A9 (str [83,69,84]),A9 s.set]++[AP (str [61])]++tt++wt
def QY (s:ST)(wt:List TK0):List TK0:=[A9 (str [68,69,76,69,84,69]),A9 Ck,A9 s.tab]++wt
def QV (s:ST):List TK0:=[A9 (str [68,82,79,80]),A9 (str [84,65,66,76,69]),A9 s.tab]
def On (k:Int):ByteArray:=if k=7 then str [66,69,71,73,78] else if k=8 then str [67,79,77,77,73,84] else str [82,79,76,76,66,65,67,75]
def BQ (s:ST)(trW trT:RT OP):List TK0:=
 if s.k=1 then D2 s else if s.k=2 then QV s else if s.k=3 then Pk s else if s.k=4 then Fg s (IX s.wh trW) else if s.k=5 then OI s (Bw trT) (IX s.wh trW) else if s.k=6 then QY s (IX s.wh trW) else [A9 (On s.k)]
theorem TX (G:GL)(s:ST)(hk:s.k=3)(hl:s.row.length≤6)(hc: ∀v ∈ s.row,okV v):Con prog G 43 [.agg (AI s)] [] 0 (Is (.ro true 3 ((Pk s).map eT)) [] 0) No:=by
 refine cJ func43 fun E hG hE=>?_;subst hG;simp only[AX];(repeat' (first |refine A0 ?_ |refine A4 ?_ |((refine sR (fun K kp=>?_));simp(disch:=omega) only[go_sem,AI,hk];(repeat' (refine K _ ?_;clear K kp))) |refine A2 rfl ?_ |refine A1 rfl ?_));(refine AWP.emb (BY 6 85 1 ?_) ?_;(·rfl);dsimp only)
 refine AB (fun k:Nat=>⟨[(50,.r (.int .i64 k)),(49,.r (.int .i64 s.row.length)),(48,.ro true 3 (s.row.map eV)),(6,.s 1 0 ((s.row.take k).map B2).length),(1,.p 0 0 0)],
  [(0,.box 30 (AI s)),(1,.lst 85 1 (((s.row.take k).map B2).map Dh))],2⟩) (fun k=>k≤s.row.length) (fun k=>s.row.length - k) 0 ?_ ?_ ?_
 ·simp
 ·(refine AJ hE [0,1] rfl ?_ ?_<;>simp[Ai,AY,lk,ren,renL,AA,AU,AI,hk]<;>(try omega))
 intro k hk'
 by_cases hlt:k<s.row.length
 ·obtain⟨v,hx⟩: ∃x,s.row[k]?=some x:=⟨s.row[k],by simp[hlt]⟩
  have hs:(s.row.take (k+1)).map B2=(s.row.take k).map B2++[B2 v]:=by rw[aV,hx];simp
  have hle:((s.row.take k).map B2).length≤6:=by simp;omega
  generalize hq:(s.row.take k).map B2=q at hs hle ⊢;obtain⟨g1,g2⟩:=hc v (aB hx);have sc:=Hv E.G v g1 g2;generalize B2 v=vt at *;simp only[eV] at sc;(repeat' (first |refine A0 ?_ |refine A4 ?_ |refine A3 ?_ |((first |refine sR (fun K kp=>?_) |refine cR sc ?_);simp(disch:=omega) only[go_sem,hx,eV];(repeat' (first |(refine K _ ?_;clear K kp) |(with_reducible refine And.intro ?_ ?_) |omega))) |((refine A6 rfl (fun h=>?_) (fun h=>?_)<;>try simp only[Af] at h)<;>(try (exfalso;omega)))));(refine BF (k+1) ?_ ?_;rotate_left;(·(refine AJ hE [0,4] rfl ?_ ?_<;>simp[Ai,AY,lk,ren,renL,AA,AU,hs,Dh,AI]<;>(try omega))));omega
 ·obtain rfl:k=s.row.length:=by omega
  rw[aN (Nat.le_refl _)]
  have hml: ∀x ∈ s.row.map B2,x.length≤1000:=by intro x hx;obtain⟨c,_,rfl⟩:=cI.1 hx;have:=Ia c;omega
  have lc:=Q4 E.G false (s.row.map B2) (by simp;omega) hml;have ac:=Fx E.G false [str [73,78,83,69,82,84],str [73,78,84,79],s.tab,str [86,65,76,85,69,83]] (by simp);simp only[List.map_cons,List.map_nil,List.length_cons,List.length_nil,BK,eT,A9,str] at ac
  have hlM:(Fk (s.row.map B2)).length≤8000:=by
   have:=Dw (s.row.map B2) hml;simp[Fk] at this ⊢;omega
  have hR:Pk s=[A9 (str [73,78,83,69,82,84]),A9 (str [73,78,84,79]),A9 s.tab,A9 (str [86,65,76,85,69,83])]++Fk (s.row.map B2):=rfl;rw[hR];generalize hvs:Fk (s.row.map B2)=lm at lc hlM ⊢
  have hll:(s.row.map B2).length=s.row.length:=by simp
  generalize s.row.map B2=rv at *;(repeat' (first |refine A0 ?_ |refine A7 ?_ |((first |refine sR (fun K kp=>?_) |refine cR ac ?_ |refine cR lc ?_);simp(disch:=omega) only[go_sem,AI];(repeat' (first |(refine K _ ?_;clear K kp) |(with_reducible refine And.intro ?_ ?_) |omega))) |((refine A6 rfl (fun h=>?_) (fun h=>?_)<;>try simp only[Af] at h)<;>(try (exfalso;omega))) |refine A5 ?_))
  all_goals first |(exfalso;omega) |(refine rJ results43 ?_;refine AG (by simp only[A8];simp(disch:=omega) only[go_sem,aS,List.length_cons,List.length_append,List.length_map,List.length_nil,eT,A9,str];rfl) ?_;refine(AE hE (by simp) ?_).s;simp(disch:=(simp;omega)) [A8,ren,renL,aN,eT,A9,str])
theorem VF {G:GL}(T:Tabs G)(s:ST)(trW trT:RT OP)(h:OkSt s trW trT):Con prog G 43 [.agg (AI s)] [] 0 (Is (.ro true 3 ((BQ s trW trT).map eT)) [] 0) No:=by
 have h1:=h.lo;have h9:=h.hi
 obtain hk |hk |hk |hk |hk |hk |hk |hk |hk:s.k=1\/s.k=2\/s.k=3\/s.k=4\/s.k=5\/s.k=6\/s.k=7\/s.k=8\/s.k=9:=by omega
 ·have hs:BQ s trW trT=D2 s:=by simp[BQ,hk]
  rw[hs];exact NX T s hk (h.cols hk).1 (fun c hc=>((h.cols hk).2 c hc).1)
 ·have hs:BQ s trW trT=QV s:=by simp[BQ,hk]
  rw[hs];refine cJ func43 fun E hG hE=>?_;subst hG;simp only[AX];have ac:=E7 E.G false [str [68,82,79,80],str [84,65,66,76,69],s.tab] (by simp);simp only[List.map_cons,List.map_nil,List.length_cons,List.length_nil,BK,eT,A9,str] at ac;(repeat' (first |refine A0 ?_ |refine A4 ?_ |((first |refine sR (fun K kp=>?_) |refine cR ac ?_);simp(disch:=omega) only[go_sem,AI,hk];(repeat' (refine K _ ?_;clear K kp))) |refine A2 rfl ?_ |refine A1 rfl ?_ |refine A5 ?_));(refine rJ results43 ?_;refine eN hE ?_;simp[A8,ren,renL,QV,eT,A9,str])
 ·have hs:BQ s trW trT=Pk s:=by simp[BQ,hk]
  rw[hs];exact TX G s hk (h.row hk).1 (h.row hk).2
 ·have hs:BQ s trW trT=Fg s (IX s.wh trW):=by simp[BQ,hk]
  rw[hs];refine cJ func43 fun E hG hE=>?_;subst hG;simp only[AX];have pc:=OM E.G s trW (h.wh (.inl hk)) (h.names hk).1;simp only[AI,hk] at pc;(repeat' (first |refine A0 ?_ |refine A4 ?_ |((first |refine sR (fun K kp=>?_) |refine cR pc ?_);simp(disch:=omega) only[go_sem,AI,hk];(repeat' (refine K _ ?_;clear K kp))) |refine A2 rfl ?_ |refine A1 rfl ?_ |refine A5 ?_));(refine rJ results43 ?_;exact eQ hE)
 ·have hs:BQ s trW trT=OI s (Bw trT) (IX s.wh trW):=by simp[BQ,hk]
  rw[hs];refine cJ func43 fun E hG hE=>?_;subst hG;simp only[AX];have hw:=h.wh (.inr (.inl hk));have ht:=h.to hk;have ac:=E7 E.G false [str [85,80,68,65,84,69],s.tab,str [83,69,84],s.set] (by simp);have wcon:=FT E.G s.wh trW hw;have hwl:=hw.lenT;have hfo:=MM ht.wf;rw[ht.flat] at hfo;have sc:=KF E.G true s.to ht.len (fun o ho=>(ht.ops o ho).1) ht.hgt;rw[hfo] at sc;have htl:=ht.lenT;have mc:=Dc E.G (str [61]);generalize IX s.wh trW=wt at *;generalize Bw trT=tt at *;have cc:=FQ E.G false [[A9 (str [85,80,68,65,84,69]),A9 s.tab,A9 (str [83,69,84]),A9 s.set],[AP (str [61])],tt,wt] (by simp) (by intro x hx;simp at hx;rcases hx with rfl |rfl |rfl |rfl<;>first |omega |simp) (by simp)
  have hv2:[[A9 (str [85,80,68,65,84,69]),A9 s.tab,A9 (str [83,69,84]),A9 s.set],[AP (str [61])],tt,wt].flatten=OI s tt wt:=by simp[OI]
  rw[hv2] at cc;generalize OI s tt wt=ut at *;simp only[List.map_cons,List.map_nil,List.length_cons,List.length_nil,BK,Dh,eT,A9,AP,str] at ac cc mc;(repeat' (first |refine A0 ?_ |refine A4 ?_ |((first |refine sR (fun K kp=>?_) |refine rU (id:=23) mixed 14 [⟨0,0,[],[(0,1),(1,1)]⟩,⟨0,0,[0],[(0,1),(1,1)]⟩,⟨0,0,[],[(0,1),(1,1)]⟩,⟨0,0,[2],[(0,1),(1,1)]⟩,⟨0,1,[0,1,2,3],[(1,1)]⟩,⟨1,0,[0,1,2,3,4],[(1,1)]⟩,⟨1,0,[0,1,2,3,4,5],[(1,1)]⟩,⟨1,1,[0,1,2,3,4,5,6],[]⟩,⟨2,0,[],[(0,1),(1,1)]⟩,⟨2,0,[8],[(0,1),(1,1)]⟩,⟨2,0,[0,1,2,3,4,5,6,8,9],[(1,1)]⟩,⟨2,0,[],[(0,1),(1,1)]⟩,⟨2,0,[11],[(0,1),(1,1)]⟩,⟨2,0,[0,1,2,3,4,5,6,8,9,10,11,12],[(1,1)]⟩] 2 [73,74,75,76,77,78,79,80,81,82,83,84,85,86] [] (fun _ _ K kp=>?_) |refine cU ac ?_ |refine cU mc ?_ |refine cU sc ?_ |refine cU wcon ?_ |refine cR cc ?_);simp(disch:=omega) only[go_sem,AI,hk];(repeat' (refine K _ ?_;clear K kp))) |refine A2 rfl ?_ |refine A1 rfl ?_ |refine A5 ?_));(refine rJ results43 ?_;exact eQ hE)
 ·have hs:BQ s trW trT=QY s (IX s.wh trW):=by simp[BQ,hk]
  rw[hs];refine cJ func43 fun E hG hE=>?_;subst hG;simp only[AX];have hw:=h.wh (.inr (.inr hk));have ac:=Fx E.G false [str [68,69,76,69,84,69],str [70,82,79,77],s.tab] (by simp);have wcon:=FT E.G s.wh trW hw;have hwl:=hw.lenT;generalize IX s.wh trW=wt at *;simp only[List.map_cons,List.map_nil,List.length_cons,List.length_nil,BK,eT,A9,str] at ac;(repeat' (first |refine A0 ?_ |refine A4 ?_ |((first |refine sR (fun K kp=>?_) |refine sD (id:=25) mixed 7 [0,1,4,5,2,3,6] (fun K kp=>?_) |refine cD ac ?_ |refine cD wcon ?_);simp(disch:=omega) only[go_sem,AI,hk];(repeat' (first |(refine K _ ?_;clear K kp) |(with_reducible refine And.intro ?_ ?_) |omega))) |refine A2 rfl ?_ |refine A1 rfl ?_ |refine A5 ?_))
  all_goals first |(exfalso;omega) |(refine rJ results43 ?_;refine AG (by simp only[A8];simp(disch:=omega) only[go_sem,aS,List.length_cons,List.length_append,List.length_map,List.length_nil,QY,eT,A9,Ck,str];rfl) ?_;refine(AE hE (by simp) ?_).s;simp(disch:=(simp;omega)) [A8,ren,renL,aN,QY,eT,A9,Ck,str])
 all_goals
  have hs:BQ s trW trT=[A9 (On s.k)]:=by simp[BQ,hk]
  rw[hs];refine cJ func43 fun E hG hE=>?_;subst hG;simp only[AX];have ac:=E7 E.G false [On s.k] (by simp);simp only[List.map_cons,List.map_nil,List.length_cons,List.length_nil,BK,eT,A9,On,hk,str] at ac;(repeat' (first |refine A0 ?_ |refine A4 ?_ |refine A3 ?_ |((first |refine sR (fun K kp=>?_) |refine cR ac ?_);simp(disch:=omega) only[go_sem,AI,hk];(repeat' (refine K _ ?_;clear K kp))) |refine A1 rfl ?_ |refine A5 ?_));(refine rJ results43 ?_;refine eN hE ?_;simp[A8,ren,renL,On,hk,eT,A9,str])
structure bdST (s:ST):Prop where
 row: ∀v ∈ s.row,Oh v.n
 wh: ∀o ∈ s.wh,Oh o.vn
 to: ∀o ∈ s.to,Oh o.vn
theorem Y1 {l:List OP}(hb: ∀o ∈ l,Oh o.vn)(h:AZ l=0): ∃tr,ToOk l tr:=by
 obtain⟨h1,h2,tr,h3,h4⟩:=CU h;refine⟨tr,h3,h4,h1,fun o ho=>?_,?_⟩
 ·obtain⟨g1,g2,g3,g4⟩:=h2 o ho
  obtain⟨b1,b2⟩:=hb o ho;exact⟨⟨⟨g1,g2⟩,fun _=>⟨QE (v:=⟨o.vk,o.vn,o.vs⟩) b1 g3,b2⟩⟩,fun hk=>CV (g4 hk)⟩
 ·unfold AZ at h
  split at h
  ·cases h
  ·exact FO l 0 h
theorem A0N {l:List OP}(hb: ∀o ∈ l,Oh o.vn)(h:B7 l=0): ∃tr,WhOk l tr:=by
 by_cases h0:l=[]
 ·subst h0
  exact⟨.l ⟨0,0,0,⟨#[]⟩,⟨#[]⟩⟩,fun h=>(h rfl).elim,fun h=>(h rfl).elim,by simp,by simp,fun h=>(h rfl).elim⟩
 ·have hl: ¬l.length=0:=fun e=>h0 (bV.1 e)
  rw[B7,if_neg hl] at h;obtain⟨tr,ht⟩:=Y1 hb h;exact⟨tr,fun _=>ht.wf,fun _=>ht.flat,ht.len,ht.ops,fun _=>ht.hgt⟩
theorem Pv: ∀ {l:List ByteArray},Bi l=0-> ∀n ∈ l,goodN n
 | [],_,n,hn=>by cases hn
 |s::r,h,n,hn=>by
  unfold Bi at h;split at h
  ·rename_i h1;exact(h1 h).elim
  ·rename_i h1
   rcases bA.1 hn with rfl |hn
   ·exact CV (by simpa using h1)
   ·exact Pv h n hn
theorem Ll: ∀ {l:List V},(∀v ∈ l,Oh v.n)->Cx l=0-> ∀v ∈ l,okV v
 | [],_,_,v,hv=>by cases hv
 |x::r,hb,h,v,hv=>by
  unfold Cx at h;split at h
  ·rename_i h1;exact(h1 h).elim
  ·rename_i h1
   rcases bA.1 hv with rfl |hv
   ·exact⟨QE (hb _ (by simp)).1 (by simpa using h1),(hb _ (by simp)).2⟩
   ·exact Ll (fun y hy=>hb y (by simp[hy])) h v hv
structure okP (s:ST):Prop where
 lo:1≤s.k
 hi:s.k≤9
 tab:s.k<7->AH s.tab=0
 parts:AR s=0
theorem OW {s:ST}(h1:1≤s.k)(h9:s.k≤9)(h:Bt s=0):okP s:=by
 have ht:s.k<7->AH s.tab=0:=by
  intro hk
  by_cases hn:AH s.tab=0
  ·exact hn
  ·rw[CQ hk hn] at h;exact h
 have hp:AR s=0:=by
  have hh: ¬(s.k<7/\AH s.tab≠0):=fun⟨a,b⟩=>b (ht a)
  by_cases hp:AR s=0
  ·exact hp
  ·rw[BT hh hp] at h;exact h
 exact⟨h1,h9,ht,hp⟩
theorem A0V {s:ST}(hb:bdST s)(h:okP s): ∃trW trT,OkSt s trW trT:=by
 obtain⟨h1,h9,ht,hp⟩:=h
 let T0:RT OP:= .l ⟨0,0,0,⟨#[]⟩,⟨#[]⟩⟩
 have hw: ∃tr,(s.k=4\/s.k=5\/s.k=6->WhOk s.wh tr):=by
  by_cases hk:s.k=4\/s.k=5\/s.k=6
  ·have:B7 s.wh=0:=by
    rcases hk with hk |hk |hk
    ·simp only[AR,hk,B5] at hp
     simp only[show ¬(4:Int)=1 by decide,show ¬(4:Int)=3 by decide,if_true,if_false] at hp
     repeat' split at hp
     all_goals first |(exfalso;omega) |simp_all
    ·simp only[AR,hk] at hp
     simp only[show ¬(5:Int)=1 by decide,show ¬(5:Int)=3 by decide,show ¬(5:Int)=4 by decide,if_true,if_false] at hp
     repeat' split at hp
     all_goals first |(exfalso;omega) |simp_all
    ·simp only[AR,hk] at hp
     simpa using hp
   obtain⟨tr,h⟩:=A0N hb.wh this;exact⟨tr,fun _=>h⟩
  ·exact⟨T0,fun h=>(hk h).elim⟩
 have hto: ∃tr,(s.k=5->ToOk s.to tr):=by
  by_cases hk:s.k=5
  ·have:AZ s.to=0:=by
    simp only[AR,hk] at hp;simp only[show ¬(5:Int)=1 by decide,show ¬(5:Int)=3 by decide,show ¬(5:Int)=4 by decide,if_true,if_false] at hp
    repeat' split at hp
    all_goals first |(exfalso;omega) |simp_all
   obtain⟨tr,h⟩:=Y1 hb.to this;exact⟨tr,fun _=>h⟩
  ·exact⟨T0,fun h=>(hk h).elim⟩
 obtain⟨trW,hw⟩:=hw;obtain⟨trT,hto⟩:=hto;refine⟨trW,trT,h1,h9,fun hk=>CV (ht hk),fun hk=>?_,fun hk=>?_,fun hk=>?_,hw,fun hk hd=>?_,fun hk ho=>?_,fun hk hd=>?_,fun hk=>?_,hto⟩
 ·rw[AR,if_pos hk] at hp
  obtain⟨_,g2,g3⟩:=Mi hp;exact⟨g2,g3⟩
 ·have hr:Gh s.row=0:=by simpa[AR,hk] using hp
  unfold Gh at hr;split at hr
  ·cases hr
  ·exact⟨by omega,Ll hb.row hr⟩
 ·have hr:B5 s=0:=by simpa[AR,hk] using hp
  unfold B5 at hr
  repeat' split at hr
  all_goals first |(exfalso;omega) |skip
  all_goals exact⟨by omega,Pv (by simp_all)⟩
 ·have hr:B5 s=0:=by simpa[AR,hk] using hp
  unfold B5 at hr
  repeat' split at hr
  all_goals first |(exfalso;omega) |skip
  all_goals
   rename_i h3 _ _ _
   cases hn:s.names with
   |nil=>rfl
   |cons x r=>exact(h3 (by simp[hd,UM,hn])).elim
 ·have hr:B5 s=0:=by simpa[AR,hk] using hp
  unfold B5 at hr
  repeat' split at hr
  all_goals first |(exfalso;omega) |skip
  ·rename_i he;exact(ho (by simpa[Oo] using he)).elim
  ·exact CV hr
 ·have hr:B5 s=0:=by simpa[AR,hk] using hp
  unfold B5 at hr
  repeat' split at hr
  all_goals first |(exfalso;omega) |skip
  all_goals (rename_i h3 _ _ _;intro he;exact h3 (by simp[hd,Oo,he]))
 ·have hn:AH s.set=0:=by
   simp only[AR,hk] at hp;simp only[show ¬(5:Int)=1 by decide,show ¬(5:Int)=3 by decide,show ¬(5:Int)=4 by decide,if_true,if_false] at hp
   repeat' split at hp
   all_goals first |(exfalso;omega) |simp_all
  exact CV hn
def P9 (s:ST)(n:Nat):Int:=if s.k<1\/9<s.k then 2 else if Bt s≠0 then Bt s else if 100<n then 10 else 0
theorem Lw {G:GL}(T:Tabs G)(s:ST)(o:okST s)(trW trT:RT OP)(h:okP s->OkSt s trW trT):Con prog G 12 [.agg (AI s)] [] 0 (Is (.r (.int .i64 (P9 s (BQ s trW trT).length))) [] 0) No:=by
 refine cJ func12 fun E hG hE=>?_;subst hG;simp only[AX]
 by_cases h19:s.k<1\/9<s.k
 ·have hM: ∀n,P9 s n=2:=fun n=>by rw[P9,if_pos h19]
  rw[hM]
  by_cases h1:s.k<1
  ·have d1:decide (s.k<1)=true:=aE h1
   (repeat' (first |refine A0 ?_ |((refine sR (fun K kp=>?_));simp -implicitDefEqProofs (disch:=omega) only[go_sem,AI,d1];(repeat' (refine K _ ?_;clear K kp))) |refine A2 rfl ?_ |refine A5 ?_))
   all_goals (refine rJ results12 ?_;exact eQ hE)
  ·have d1:decide (s.k<1)=false:=aC h1
   have d2:decide (s.k>9)=true:=aE (by omega);(repeat' (first |refine A0 ?_ |((refine sR (fun K kp=>?_));simp -implicitDefEqProofs (disch:=omega) only[go_sem,AI,d1,d2];(repeat' (refine K _ ?_;clear K kp))) |refine A2 rfl ?_ |refine A5 ?_))
   all_goals (refine rJ results12 ?_;exact eQ hE)
 have d1:decide (s.k<1)=false:=aC (by omega);have d2:decide (s.k>9)=false:=aC (by omega);have cc:=Uf T s o (by omega);simp only[AI] at cc
 by_cases hc:Bt s=0
 ·have hok:=h (OW (by omega) (by omega) hc)
  have sc:=VF T s trW trT hok;simp only[AI] at sc;rw[hc] at cc
  have hM: ∀n,P9 s n=if 100<n then 10 else 0:=fun n=>by rw[P9,if_neg h19,if_neg (by simp[hc])]
  generalize BQ s trW trT=sm at *;rw[hM]
  by_cases hl:100<sm.length
  ·have d3:decide ((sm.length:Int)>100)=true:=aE (by omega)
   rw[if_pos hl];(repeat' (first |refine A0 ?_ |refine A3 ?_ |((first |refine sR (fun K kp=>?_) |refine cR cc ?_ |refine cR sc ?_);simp -implicitDefEqProofs (disch:=omega) only[go_sem,AI,d1,d2,d3];(repeat' (refine K _ ?_;clear K kp))) |refine A2 rfl ?_ |refine A1 rfl ?_ |refine A5 ?_))
   all_goals (refine rJ results12 ?_;exact eQ hE)
  ·have d3:decide ((sm.length:Int)>100)=false:=aC (by omega)
   rw[if_neg hl];(repeat' (first |refine A0 ?_ |refine A3 ?_ |((first |refine sR (fun K kp=>?_) |refine cR cc ?_ |refine cR sc ?_);simp -implicitDefEqProofs (disch:=omega) only[go_sem,AI,d1,d2,d3];(repeat' (refine K _ ?_;clear K kp))) |refine A1 rfl ?_ |refine A5 ?_))
   all_goals (refine rJ results12 ?_;exact eQ hE)
 ·have hM: ∀n,P9 s n=Bt s:=fun n=>by rw[P9,if_neg h19,if_pos hc]
  have b1:(Bt s !=0)=true:=by simpa using hc
  rw[hM];(repeat' (first |refine A0 ?_ |refine A3 ?_ |((first |refine sR (fun K kp=>?_) |refine cR cc ?_);simp -implicitDefEqProofs (disch:=omega) only[go_sem,AI,d1,d2,b1];(repeat' (refine K _ ?_;clear K kp))) |refine A2 rfl ?_ |refine A1 rfl ?_ |refine A5 ?_))
  all_goals (refine rJ results12 ?_;exact eQ hE)
@[simp,go_sem] theorem Cb (l:Ky):Hn (EK l)=some (.r (.int .i64 l.length)):=by cases l<;>simp[EK,Hn]
@[simp] theorem A1d (σ:List Nat) (st:AS) (l:Ky):L3 σ st (EK l)=some (EK l):=by cases l<;>simp[EK,L3]
structure NeedOK (b:List TB)(s:ST)(e:Int)(trW trT:RT OP):Prop where
 ob:RO b
 os:okST s
 g: ∀o ∈ s.wh,gV ⟨o.vk,o.vn,o.vs⟩
 gr: ∀v ∈ s.row,gV v
 w:AZ s.wh=0->trW.wf BN/\trW.flat=s.wh
 tt:AZ s.to=0->trT.wf BN/\trT.flat=s.to
theorem HO (G:GL)(th:ByteArray)(md:Int):Con prog G 13 [.p 0 0 0,.r (.string th),.r (.int .i64 md)] [(0,.box 53 [.r (.string ⟨#[]⟩),.r (.slice none 0 0),.r (.slice none 0 0),.r (.slice none 0 0),.r (.int .i64 0),.r (.slice none 0 0)])] 1
  (Is (.tup []) [(0,.box 53 [.r (.string ⟨#[]⟩),.r (.slice none 0 0),.r (.slice none 0 0),.r (.slice none 0 0),.r (.int .i64 0),.s 1 0 [NE.mk th md].length]),(1,Gu [NE.mk th md])] 2) No:=by
 unfold Gu;refine cJ func13 fun E hG hE=>?_;subst hG;simp only[AX];(repeat' ((refine sR (fun K kp=>?_));simp -implicitDefEqProofs (disch:=omega) only[go_sem];(repeat' (refine K _ ?_;clear K kp))));(refine C1 ?_;(refine rJ results13 ?_;refine(BS hE [0,2] rfl ?_ ?_).s<;>simp[A8,AY,lk,ren,renL,AA,AU,DR]))
theorem Ey (u:Bool)(c:List AV)(hc:c=c)(s:ST)(G:GL)(x:TB):Con prog G 15 [.agg (Ad x),.re u (AI s) 0] [] 0 (Is (.r (.bool (Bq s.tab x))) [] 0) No:=by
 refine cJ func15 fun E hG hE=>?_;subst hG;simp only[AX];(repeat' (first |refine A0 ?_ |((refine sR (fun K kp=>?_));simp -implicitDefEqProofs (disch:=omega) only[go_sem,Ad,AI];(repeat' (refine K _ ?_;clear K kp))) |refine A5 ?_));(refine rJ results15 ?_;refine eN hE ?_;simp[A8,ren,renL,Bq])
section
variable {G:GL} (T:Tabs G) (HR:Ch G) {b:List TB} {s:ST} {e:Int} {trW trT:RT OP} (o:NeedOK b s e trW trT)
 (pc:Con prog G 12 [.agg (AI s)] [] 0 (Is (.r (.int .i64 e)) [] 0) No)
include T HR o pc
theorem RY (h0:B1 b≠0):Con prog G 5 [.agg [.ro true 5 (b.map Ad)],.agg (AI s)] [] 0 (Is (B6 b s e trW trT) [] 0) No:=by
 have bc:=CW T HR b o.ob
 have d1:(B1 b !=0)=true:=by simpa using h0
 rw[B6,if_pos h0];refine cJ func5 fun E hG hE=>?_;subst hG;simp only[AX];(repeat' (first |refine A0 ?_ |((first |refine sR (fun K kp=>?_) |refine cR bc ?_);simp -implicitDefEqProofs (disch:=omega) only[go_sem,d1,AI];(repeat' (refine K _ ?_;clear K kp))) |refine A2 rfl ?_ |refine A5 ?_));(refine rJ results5 ?_;exact eQ hE)
theorem RR (h0:B1 b=0)(h1:e≠0):Con prog G 5 [.agg [.ro true 5 (b.map Ad)],.agg (AI s)] [] 0 (Is (B6 b s e trW trT) [] 0) No:=by
 have bc:=CW T HR b o.ob
 have d1:(B1 b !=0)=false:=by simpa using h0
 have d2:(e !=0)=true:=by simpa using h1
 rw[B6,if_neg (by omega),if_pos h1];simp only[AI] at pc;refine cJ func5 fun E hG hE=>?_;subst hG;simp only[AX];(repeat' (first |refine A0 ?_ |refine A3 ?_ |((first |refine sR (fun K kp=>?_) |refine cR bc ?_ |refine cR pc ?_);simp -implicitDefEqProofs (disch:=omega) only[go_sem,d1,d2,AI];(repeat' (refine K _ ?_;clear K kp))) |refine A2 rfl ?_ |refine A1 rfl ?_ |refine A5 ?_));(refine rJ results5 ?_;exact eQ hE)
theorem RX (h0:B1 b=0)(h1:e=0)(h2:7≤s.k):Con prog G 5 [.agg [.ro true 5 (b.map Ad)],.agg (AI s)] [] 0 (Is (B6 b s e trW trT) [] 0) No:=by
 have bc:=CW T HR b o.ob
 have d1:(B1 b !=0)=false:=by simpa using h0
 have d2:(e !=0)=false:=by simpa using h1
 have d3:decide (s.k≥7)=true:=aE (by omega);rw[B6,if_neg (by omega),if_neg (by omega),if_pos h2];simp only[AI] at pc;refine cJ func5 fun E hG hE=>?_;subst hG;simp only[AX];(repeat' (first |refine A0 ?_ |refine A4 ?_ |refine A3 ?_ |((first |refine sR (fun K kp=>?_) |refine cR bc ?_ |refine cR pc ?_);simp -implicitDefEqProofs (disch:=omega) only[go_sem,d1,d2,d3,AI];(repeat' (refine K _ ?_;clear K kp))) |refine A2 rfl ?_ |refine A1 rfl ?_ |refine A5 ?_));(refine rJ results5 ?_;exact eQ hE)
theorem RV (h0:B1 b=0)(h1:e=0)(h2:s.k≤2):Con prog G 5 [.agg [.ro true 5 (b.map Ad)],.agg (AI s)] [] 0 (Is (B6 b s e trW trT) [] 0) No:=by
 have bc:=CW T HR b o.ob
 have d1:(B1 b !=0)=false:=by simpa using h0
 have d2:(e !=0)=false:=by simpa using h1
 have d3:decide (s.k≥7)=false:=aC (by omega);have d4:decide (s.k≤2)=true:=aE h2;rw[B6,if_neg (by omega),if_neg (by omega),if_neg (by omega),if_pos h2];simp only[AI] at pc;refine cJ func5 fun E hG hE=>?_;subst hG;simp only[AX];(repeat' (first |refine A0 ?_ |refine A4 ?_ |refine A3 ?_ |((first |refine sR (fun K kp=>?_) |refine cR bc ?_ |refine cR pc ?_);simp -implicitDefEqProofs (disch:=omega) only[go_sem,d1,d2,d3,d4,AI];(repeat' (refine K _ ?_;clear K kp))) |refine A2 rfl ?_ |refine A1 rfl ?_ |refine A5 ?_));(refine rJ results5 ?_;refine AG (by simp only[A8];simp -implicitDefEqProofs (disch:=omega) only[go_sem,DR];rfl) ?_;refine(AE hE (by simp) ?_).s;simp[A8,ren,renL,DR])
theorem RU (h0:B1 b=0)(h1:e=0)(h2: ¬7≤s.k)(h3: ¬s.k≤2)(hi:B9 (Bq s.tab) b 0<0):Con prog G 5 [.agg [.ro true 5 (b.map Ad)],.agg (AI s)] [] 0 (Is (B6 b s e trW trT) [] 0) No:=by
 have bc:=CW T HR b o.ob
 have d1:(B1 b !=0)=false:=by simpa using h0
 have d2:(e !=0)=false:=by simpa using h1
 have d3:decide (s.k≥7)=false:=aC (by omega);have d4:decide (s.k≤2)=false:=aC h3;have d5:decide (B9 (Bq s.tab) b 0<0)=true:=aE hi;rw[B6,if_neg (by omega),if_neg (by omega),if_neg h2,if_neg h3,Nk,if_pos hi];have ac:=HO G ⟨#[]⟩ 1;have ic:=CJ G true b 15 [.re false (AI s) 0] (Bq s.tab) o.ob.1 (fun st=>by simp[C0,FE]) (fun f=>by simp[renL,ren]) (fun G x=>Ey false [] rfl s G x);simp only[AI] at pc ic;unfold Gu at ac;refine cJ func5 fun E hG hE=>?_;subst hG;simp only[AX];(repeat' (first |refine A0 ?_ |refine A4 ?_ |refine A3 ?_ |((first |refine sR (fun K kp=>?_) |refine sI (id:=14) mixed 11 (fun K kp=>?_) |refine oR [2] ac ?_ |refine cR bc ?_ |refine cR pc ?_ |refine cR ic ?_);simp -implicitDefEqProofs (disch:=omega) only[go_sem,d1,d2,d3,d4,d5,AI];(repeat' (refine K _ ?_;clear K kp))) |refine A2 rfl ?_ |refine A1 rfl ?_ |refine A5 ?_));(refine rJ results5 ?_;refine AG (by simp only[A8];simp -implicitDefEqProofs (disch:=omega) only[go_sem,DR];rfl) ?_;refine(AE hE (by simp) ?_).s;simp[A8,ren,renL,DR])
end
theorem JV (l:Ky):wk (EK l) (.ro true 1 (l.map AC)):=by cases l<;>simp[EK,wk]
theorem NeedOK.lost {b:List TB}{s:ST}{e:Int}{trW trT:RT OP}(o:NeedOK b s e trW trT){t:TB}(ht:t ∈ b):LostOK t s trW trT:=⟨o.ob.2 t ht,o.os,o.g,o.w,o.tt⟩
structure FoundT (b:List TB)(s:ST)(j:Nat)(t:TB):Prop where
 i:B9 (Bq s.tab) b 0=(j:Int)
 x:b[j]?=some t
 n:s.tab=t.nm
 ok:TabOK t
theorem ML {b:List TB}{s:ST}(h0:B1 b=0)(hi: ¬B9 (Bq s.tab) b 0<0): ∃j t,FoundT b s j t:=by
 obtain⟨j,t,h1,h2,h3⟩:=QC hi;refine⟨j,t,by rw[h1,Nat.zero_add],h2,(Xt h3).symm,YW ?_⟩;rw[B1] at h0;split at h0
 ·cases h0
 ·exact Qk h0 t (aB h2)
theorem Bk {b:List TB}{s:ST}{j:Nat}{t:TB}(f:FoundT b s j t)(trW trT:RT OP):Nk b s trW trT=⟨⟨#[]⟩,1⟩::if Bl t s trW trT=true then [] else Hz t s (Ga (AN t.cols s.wh trW)) (GR (AN t.cols s.wh trW)):=by
 rw[Nk,f.i,if_neg (by omega),Int.toNat_natCast,f.x]
section
variable {G:GL} (T:Tabs G) (HR:Ch G) {b:List TB} {s:ST} {e:Int} {trW trT:RT OP} (o:NeedOK b s e trW trT)
 (pc:Con prog G 12 [.agg (AI s)] [] 0 (Is (.r (.int .i64 e)) [] 0) No)
 (h0:B1 b=0) (h1:e=0) (h2: ¬7≤s.k) (h3: ¬s.k≤2) {j:Nat} {t:TB} (f:FoundT b s j t)
include T HR o pc h0 h1 h2 h3 f
theorem RW (hL:Bl t s trW trT=true):Con prog G 5 [.agg [.ro true 5 (b.map Ad)],.agg (AI s)] [] 0 (Is (B6 b s e trW trT) [] 0) No:=by
 have bc:=CW T HR b o.ob
 have d1:(B1 b !=0)=false:=by simpa using h0
 have d2:(e !=0)=false:=by simpa using h1
 have d3:decide (s.k≥7)=false:=aC (by omega);have d4:decide (s.k≤2)=false:=aC h3;have d5:decide ((j:Int)<0)=false:=aC (by omega);have hlt:=(aA.1 f.x).1;have zi:((j:Int)<(b.length:Int))=True:=aK (by omega);have hx:=f.x;have fc:=GH T HR (o.lost (aB f.x));rw[hL] at fc;rw[B6,if_neg (by omega),if_neg (by omega),if_neg h2,if_neg h3,Bk f,if_pos hL];have ac:=HO G ⟨#[]⟩ 1;have ic:=CJ G true b 15 [.re false (AI s) 0] (Bq s.tab) o.ob.1 (fun st=>by simp[C0,FE]) (fun f=>by simp[renL,ren]) (fun G x=>Ey false [] rfl s G x);rw[f.i] at ic;simp only[AI,Ad] at pc ic fc;generalize [NE.mk ⟨#[]⟩ 1]=l1 at ac ⊢;unfold Gu at ac;refine cJ func5 fun E hG hE=>?_;subst hG;simp only[AX];(repeat' (first |refine A0 ?_ |refine A4 ?_ |refine A3 ?_ |((first |refine sR (fun K kp=>?_) |refine sI (id:=14) mixed 11 (fun K kp=>?_) |refine oR [2] ac ?_ |refine cR bc ?_ |refine cR pc ?_ |refine cR ic ?_ |refine cD fc ?_);simp -implicitDefEqProofs (disch:=omega) only[go_sem,d1,d2,d3,d4,d5,zi,hx,AI,Ad];(repeat' (refine K _ ?_;clear K kp))) |refine A2 rfl ?_ |refine A1 rfl ?_ |refine A5 ?_));(refine rJ results5 ?_;refine AG (by simp only[A8];simp -implicitDefEqProofs (disch:=omega) only[go_sem,DR];rfl) ?_;refine(AE hE (by simp) ?_).s;simp[A8,ren,renL,DR])
end
theorem Np {t:TB}{s:ST}{trW trT:RT OP}(k3:s.k=3)(hL:Bl t s trW trT=false):Bb t.cols s.row=0:=by
 rw[M7 k3] at hL;simpa using hL
section
variable {G:GL} (T:Tabs G) (HR:Ch G) {b:List TB} {s:ST} {e:Int} {trW trT:RT OP} (o:NeedOK b s e trW trT)
 (pc:Con prog G 12 [.agg (AI s)] [] 0 (Is (.r (.int .i64 e)) [] 0) No)
 (h0:B1 b=0) (h1:e=0) (h2: ¬7≤s.k) (h3: ¬s.k≤2) {j:Nat} {t:TB} (f:FoundT b s j t)
include T HR o pc h0 h1 h2 h3 f
theorem Tz (hL:Bl t s trW trT=false)(k3:s.k=3):Con prog G 5 [.agg [.ro true 5 (b.map Ad)],.agg (AI s)] [] 0 (Is (B6 b s e trW trT) [] 0) No:=by
 have bc:=CW T HR b o.ob
 have d1:(B1 b !=0)=false:=by simpa using h0
 have d2:(e !=0)=false:=by simpa using h1
 have d3:decide (s.k≥7)=false:=aC (by omega);have d4:decide (s.k≤2)=false:=aC h3;have d5:decide ((j:Int)<0)=false:=aC (by omega);have hlt:=(aA.1 f.x).1;have zi:((j:Int)<(b.length:Int))=True:=aK (by omega);have hx:=f.x;have hm:=aB f.x;have ot:=o.ob.2 t hm;have hn:t.nm.size≤1048576:=DJ f.ok.nm;have hen:(AT t.ps t.root).length≤100:=bL f.ok.few (by decide);have fc:=GH T HR (o.lost hm);rw[hL] at fc;obtain⟨hlo,hhi⟩:=P3 (l:=t.cols) o.w;have dc:=GQ T HR t.cols s.wh trW ot.cl o.os.lw ot.cs o.os.wh o.g o.w;rw[Cr] at dc;rw[B6,if_neg (by omega),if_neg (by omega),if_neg h2,if_neg h3,Bk f,if_neg (by rw[hL];decide),Hz];generalize Ga (AN t.cols s.wh trW)=lo at *;generalize GR (AN t.cols s.wh trW)=hi at *;have ln1:=Cb lo;have ln2:=Cb hi;unfold Hn at ln1 ln2;have ac:=HO G ⟨#[]⟩ 1;have ic:=CJ G true b 15 [.re false (AI s) 0] (Bq s.tab) o.ob.1 (fun st=>by simp[C0,FE]) (fun f=>by simp[renL,ren]) (fun G x=>Ey false [] rfl s G x);rw[f.i] at ic;have wc:=IC G s.tab (by rw[f.n];exact hn);rw[show An s.tab=An t.nm by rw[f.n]] at wc;obtain⟨l1,hl1⟩: ∃l1,l1=[NE.mk ⟨#[]⟩ 1]:=⟨_,rfl⟩;rw[<-hl1] at ac
 have n1:l1.length=1:=by rw[hl1];rfl
 rw[if_pos k3];obtain⟨v,r,hrow,he,hkb⟩:=LA (Np k3 hL)
 have hk100:(Cg s.row).length≤100:=by
  simp only[GB,aJ,aP] at hkb;omega
 have h1r:1≤s.row.length:=by rw[hrow];simp
 have ec:=GJ HR true (s.row.take 1) (by rw[aS];have:=o.os.lr;omega) (fun v hv=>o.gr v (cB hv));rw[he,FW,List.map_take] at ec;have z1:((1:Int)≤(s.row.length:Int))=True:=aK (by omega);have oc:=Ly G true s.tab (Cg s.row) (by rw[f.n];exact hn) (by omega);rw[show EW s.tab (Cg s.row)=EW t.nm (Cg s.row) by rw[f.n]] at oc;have a2:=EI G t l1 (An t.nm) 2 (by omega);obtain⟨l2,hl2⟩: ∃l2,l2=l1++[NE.mk (An t.nm) 2]:=⟨_,rfl⟩;rw[<-hl2] at a2
 have n2:l2.length=2:=by rw[hl2,List.length_append,n1];rfl
 have a3:=EI G t l2 (EW t.nm (Cg s.row)) 5 (by omega);obtain⟨l3,hl3⟩: ∃l3,l3=l2++[NE.mk (EW t.nm (Cg s.row)) 5]:=⟨_,rfl⟩;rw[<-hl3] at a3
 have n3:l3.length=3:=by rw[hl3,List.length_append,n2];rfl
 have a4:=Nj G t l3 (Cg s.row) 5 ot.ps f.ok.ck hn hk100 (by omega);obtain⟨l4,hl4⟩: ∃l4,l4=l3++[NE.mk (CH t.nm (Ku (Cg s.row) (AT t.ps t.root))) 5]:=⟨_,rfl⟩;rw[<-hl4] at a4
 have hfin:NE.mk ⟨#[]⟩ 1::[NE.mk (An t.nm) 2,⟨EW t.nm (Cg s.row),5⟩,⟨CH t.nm (Ku (Cg s.row) (AT t.ps t.root)),5⟩]=l4:=by rw[hl4,hl3,hl2,hl1];rfl
 rw[hfin];clear hl1 hl2 hl3 hl4 hfin hrow he hkb
 have d6:(s.k==5)=false:=by rw[k3];rfl
 have d7:(s.k !=4)=true:=by rw[k3];rfl
 have d8:(s.k==3)=true:=by rw[k3];rfl
 generalize Cg s.row=ky at *;simp only[AI,Ad] at pc ic fc;unfold Gu at ac;unfold Nn Gu at a2 a3 a4;cases hz:(((lo.length:Int)+(hi.length:Int))==0)
 all_goals (
  refine cJ func5 fun E hG hE=>?_;subst hG;simp only[AX];(repeat' (first |refine A0 ?_ |refine A4 ?_ |refine A3 ?_ |((first |refine sR (fun K kp=>?_) |refine sI (id:=14) mixed 11 (fun K kp=>?_) |refine sI (id:=17) mixed 15 (fun K kp=>?_) |refine sI (id:=18) mixed 22 (fun K kp=>?_) |refine oR [2] ac ?_ |refine oR [2,3] a2 ?_ |refine oR [2,5] a3 ?_ |refine oR [2,6] a4 ?_ |refine cR bc ?_ |refine cR pc ?_ |refine cR ic ?_ |refine cD fc ?_ |refine cD dc ?_ |refine cR ec ?_ |refine cR wc ?_ |refine cR oc ?_);simp -implicitDefEqProofs (disch:=omega) only[go_sem,d1,d2,d3,d4,d5,d6,d7,d8,zi,z1,hx,hz,ln1,ln2,AI,Ad];(repeat' (refine K _ ?_;clear K kp))) |refine A2 rfl ?_ |refine A1 rfl ?_ |refine A5 ?_))
  (refine rJ results5 ?_;refine AG (by simp only[A8];simp -implicitDefEqProofs (disch:=omega) only[go_sem,DR];rfl) ?_;refine(AE hE (by simp) ?_).s;simp[A8,ren,renL,DR]))
theorem U2 (hL:Bl t s trW trT=false)(k3:s.k≠3)(ha:((Ga (AN t.cols s.wh trW)).length=0/\(GR (AN t.cols s.wh trW)).length=0)\/(s.k=5/\Ab t.cols s.set=0)):Con prog G 5 [.agg [.ro true 5 (b.map Ad)],.agg (AI s)] [] 0 (Is (B6 b s e trW trT) [] 0) No:=by
 have bc:=CW T HR b o.ob
 have d1:(B1 b !=0)=false:=by simpa using h0
 have d2:(e !=0)=false:=by simpa using h1
 have d3:decide (s.k≥7)=false:=aC (by omega);have d4:decide (s.k≤2)=false:=aC h3;have d5:decide ((j:Int)<0)=false:=aC (by omega);have hlt:=(aA.1 f.x).1;have zi:((j:Int)<(b.length:Int))=True:=aK (by omega);have hx:=f.x;have hm:=aB f.x;have ot:=o.ob.2 t hm;have hn:t.nm.size≤1048576:=DJ f.ok.nm;have hen:(AT t.ps t.root).length≤100:=bL f.ok.few (by decide);have fc:=GH T HR (o.lost hm);rw[hL] at fc;obtain⟨hlo,hhi⟩:=P3 (l:=t.cols) o.w;have dc:=GQ T HR t.cols s.wh trW ot.cl o.os.lw ot.cs o.os.wh o.g o.w;rw[Cr] at dc;rw[B6,if_neg (by omega),if_neg (by omega),if_neg h2,if_neg h3,Bk f,if_neg (by rw[hL];decide),Hz];generalize Ga (AN t.cols s.wh trW)=lo at *;generalize GR (AN t.cols s.wh trW)=hi at *;have ln1:=Cb lo;have ln2:=Cb hi;unfold Hn at ln1 ln2;have ac:=HO G ⟨#[]⟩ 1;have ic:=CJ G true b 15 [.re false (AI s) 0] (Bq s.tab) o.ob.1 (fun st=>by simp[C0,FE]) (fun f=>by simp[renL,ren]) (fun G x=>Ey false [] rfl s G x);rw[f.i] at ic;have wc:=IC G s.tab (by rw[f.n];exact hn);rw[show An s.tab=An t.nm by rw[f.n]] at wc;obtain⟨l1,hl1⟩: ∃l1,l1=[NE.mk ⟨#[]⟩ 1]:=⟨_,rfl⟩;rw[<-hl1] at ac
 have n1:l1.length=1:=by rw[hl1];rfl
 rw[if_neg k3,if_pos ha]
 have d8:(s.k==3)=false:=by simpa using k3
 have cc:=FA G t s.set ot.cl;have a2: ∀md,_:=fun md=>EI G t l1 (An t.nm) md (by omega)
 by_cases k4:s.k=4
 ·have d7:(s.k !=4)=false:=by rw[k4];rfl
  have hz:(((lo.length:Int)+(hi.length:Int))==0)=true:=by
   rcases ha with ⟨h,h'⟩ |⟨h,_⟩
   ·rw[h,h'];rfl
   ·omega
  rw[if_pos k4];have a2:=a2 3;obtain⟨l2,hl2⟩: ∃l2,l2=l1++[NE.mk (An t.nm) 3]:=⟨_,rfl⟩;rw[<-hl2] at a2
  have hfin:NE.mk ⟨#[]⟩ 1::[NE.mk (An t.nm) 3]=l2:=by rw[hl2,hl1];rfl
  rw[hfin];clear hl1 hl2 hfin;simp only[AI,Ad] at pc ic fc cc;unfold Gu at ac;unfold Nn Gu at a2;refine cJ func5 fun E hG hE=>?_;subst hG;simp only[AX];(repeat' (first |refine A0 ?_ |refine A4 ?_ |refine A3 ?_ |((first |refine sR (fun K kp=>?_) |refine sI (id:=14) mixed 11 (fun K kp=>?_) |refine sI (id:=17) mixed 15 (fun K kp=>?_) |refine sI (id:=18) mixed 22 (fun K kp=>?_) |refine sD (id:=30) mixed 6 [0,1,2,4,5,3] (fun K kp=>?_) |refine oR [2] ac ?_ |refine oR [2,3] a2 ?_ |refine cR bc ?_ |refine cR pc ?_ |refine cR ic ?_ |refine cD fc ?_ |refine cD dc ?_ |refine cD wc ?_);simp -implicitDefEqProofs (disch:=omega) only[go_sem,d1,d2,d3,d4,d5,d7,d8,zi,hx,hz,ln1,ln2,AI,Ad];(repeat' (refine K _ ?_;clear K kp))) |refine A2 rfl ?_ |refine A1 rfl ?_ |refine A5 ?_));(refine rJ results5 ?_;refine AG (by simp only[A8];simp -implicitDefEqProofs (disch:=omega) only[go_sem,DR];rfl) ?_;refine(AE hE (by simp) ?_).s;simp[A8,ren,renL,DR])
 have d7:(s.k !=4)=true:=by simpa using k4
 rw[if_neg k4];have a2:=a2 5;obtain⟨l2,hl2⟩: ∃l2,l2=l1++[NE.mk (An t.nm) 5]:=⟨_,rfl⟩;rw[<-hl2] at a2
 have hfin:NE.mk ⟨#[]⟩ 1::[NE.mk (An t.nm) 5]=l2:=by rw[hl2,hl1];rfl
 rw[hfin];clear hl1 hl2 hfin;simp only[AI,Ad] at pc ic fc cc;unfold Gu at ac;unfold Nn Gu at a2;cases hz:(((lo.length:Int)+(hi.length:Int))==0)
 ·have k5:s.k=5/\Ab t.cols s.set=0:=by
   rcases ha with ⟨h,h'⟩ |h
   ·rw[h,h'] at hz;cases hz
   ·exact h
  have d6:(s.k==5)=true:=by rw[k5.1];rfl
  rw[k5.2] at cc;refine cJ func5 fun E hG hE=>?_;subst hG;simp only[AX];(repeat' (first |refine A0 ?_ |refine A4 ?_ |refine A3 ?_ |((first |refine sR (fun K kp=>?_) |refine sI (id:=14) mixed 11 (fun K kp=>?_) |refine sI (id:=17) mixed 15 (fun K kp=>?_) |refine sI (id:=18) mixed 22 (fun K kp=>?_) |refine sD (id:=30) mixed 6 [0,1,2,4,5,3] (fun K kp=>?_) |refine oR [2] ac ?_ |refine oR [2,3] a2 ?_ |refine cR bc ?_ |refine cR pc ?_ |refine cR ic ?_ |refine cD fc ?_ |refine cD dc ?_ |refine cD wc ?_ |refine cD cc ?_);simp -implicitDefEqProofs (disch:=omega) only[go_sem,d1,d2,d3,d4,d5,d6,d7,d8,zi,hx,hz,ln1,ln2,AI,Ad];(repeat' (refine K _ ?_;clear K kp))) |refine A2 rfl ?_ |refine A1 rfl ?_ |refine A5 ?_));(refine rJ results5 ?_;refine AG (by simp only[A8];simp -implicitDefEqProofs (disch:=omega) only[go_sem,DR];rfl) ?_;refine(AE hE (by simp) ?_).s;simp[A8,ren,renL,DR])
 ·refine cJ func5 fun E hG hE=>?_;subst hG;simp only[AX]
  (repeat' (first |refine A0 ?_ |refine A4 ?_ |refine A3 ?_ |((first |refine sR (fun K kp=>?_) |refine sI (id:=14) mixed 11 (fun K kp=>?_) |refine sI (id:=17) mixed 15 (fun K kp=>?_) |refine sI (id:=18) mixed 22 (fun K kp=>?_) |refine sD (id:=30) mixed 6 [0,1,2,4,5,3] (fun K kp=>?_) |refine oR [2] ac ?_ |refine oR [2,3] a2 ?_ |refine cR bc ?_ |refine cR pc ?_ |refine cR ic ?_ |refine cD fc ?_ |refine cD dc ?_ |refine cD wc ?_);simp -implicitDefEqProofs (disch:=omega) only[go_sem,d1,d2,d3,d4,d5,d7,d8,zi,hx,hz,ln1,ln2,AI,Ad];(repeat' (refine K _ ?_;clear K kp))) |refine A2 rfl ?_ |refine A1 rfl ?_ |refine A5 ?_));(refine rJ results5 ?_;refine AG (by simp only[A8];simp -implicitDefEqProofs (disch:=omega) only[go_sem,DR];rfl) ?_;refine(AE hE (by simp) ?_).s;simp[A8,ren,renL,DR])
theorem RS (hL:Bl t s trW trT=false)(k3:s.k≠3)(ha: ¬(((Ga (AN t.cols s.wh trW)).length=0/\(GR (AN t.cols s.wh trW)).length=0)\/(s.k=5/\Ab t.cols s.set=0))):Con prog G 5 [.agg [.ro true 5 (b.map Ad)],.agg (AI s)] [] 0 (Is (B6 b s e trW trT) [] 0) No:=by
 have bc:=CW T HR b o.ob
 have d1:(B1 b !=0)=false:=by simpa using h0
 have d2:(e !=0)=false:=by simpa using h1
 have d3:decide (s.k≥7)=false:=aC (by omega);have d4:decide (s.k≤2)=false:=aC h3;have d5:decide ((j:Int)<0)=false:=aC (by omega);have hlt:=(aA.1 f.x).1;have zi:((j:Int)<(b.length:Int))=True:=aK (by omega);have hx:=f.x;have hm:=aB f.x;have ot:=o.ob.2 t hm;have hn:t.nm.size≤1048576:=DJ f.ok.nm;have hen:(AT t.ps t.root).length≤100:=bL f.ok.few (by decide);have fc:=GH T HR (o.lost hm);rw[hL] at fc;obtain⟨hlo,hhi⟩:=P3 (l:=t.cols) o.w;have dc:=GQ T HR t.cols s.wh trW ot.cl o.os.lw ot.cs o.os.wh o.g o.w;rw[Cr] at dc;rw[B6,if_neg (by omega),if_neg (by omega),if_neg h2,if_neg h3,Bk f,if_neg (by rw[hL];decide),Hz];generalize Ga (AN t.cols s.wh trW)=lo at *;generalize GR (AN t.cols s.wh trW)=hi at *;have ln1:=Cb lo;have ln2:=Cb hi;unfold Hn at ln1 ln2;have ac:=HO G ⟨#[]⟩ 1;have ic:=CJ G true b 15 [.re false (AI s) 0] (Bq s.tab) o.ob.1 (fun st=>by simp[C0,FE]) (fun f=>by simp[renL,ren]) (fun G x=>Ey false [] rfl s G x);rw[f.i] at ic;have wc:=IC G s.tab (by rw[f.n];exact hn);rw[show An s.tab=An t.nm by rw[f.n]] at wc;obtain⟨l1,hl1⟩: ∃l1,l1=[NE.mk ⟨#[]⟩ 1]:=⟨_,rfl⟩;rw[<-hl1] at ac
 have n1:l1.length=1:=by rw[hl1];rfl
 rw[if_neg k3,if_neg ha]
 have d8:(s.k==3)=false:=by simpa using k3
 have cc:=FA G t s.set ot.cl
 have hz:(((lo.length:Int)+(hi.length:Int))==0)=false:=by
  simp only[aT,ne_eq];intro h;exact ha (.inl ⟨by omega,by omega⟩)
 have a2: ∀md,_:=fun md=>EI G t l1 (An t.nm) md (by omega)
 by_cases k4:s.k=4
 ·have d7:(s.k !=4)=false:=by rw[k4];rfl
  have d6:(s.k==5)=false:=by rw[k4];rfl
  rw[if_pos k4,if_pos k4];have a2:=a2 1;obtain⟨l2,hl2⟩: ∃l2,l2=l1++[NE.mk (An t.nm) 1]:=⟨_,rfl⟩;rw[<-hl2] at a2
  have n2:l2.length=2:=by rw[hl2,List.length_append,n1];rfl
  have a3:=(NV G t l2 lo hi 3 ot.ps f.ok.ck hn hlo hhi (by omega) hen).weak (xs:=[.p 0 0 0,EK lo,EK hi,.r (.int .i64 3)]) (by simp[Gb,wk,JV]);obtain⟨l3,hl3⟩: ∃l3,l3=l2++Fc t.nm 3 (AT t.ps t.root) lo hi:=⟨_,rfl⟩;rw[<-hl3] at a3
  have hfin:NE.mk ⟨#[]⟩ 1::NE.mk (An t.nm) 1::Fc t.nm 3 (AT t.ps t.root) lo hi=l3:=by rw[hl3,hl2,hl1];rfl
  rw[hfin];clear hl1 hl2 hl3 hfin;simp only[AI,Ad] at pc ic fc cc;unfold Gu at ac;unfold Nn Gu at a2 a3;refine cJ func5 fun E hG hE=>?_;subst hG;simp only[AX];(repeat' (first |refine A0 ?_ |refine A4 ?_ |refine A3 ?_ |((first |refine sR (fun K kp=>?_) |refine sI (id:=14) mixed 11 (fun K kp=>?_) |refine sI (id:=17) mixed 15 (fun K kp=>?_) |refine sI (id:=18) mixed 22 (fun K kp=>?_) |refine sD (id:=22) mixed 6 [0,1,2,4,5,3] (fun K kp=>?_) |refine oR [2] ac ?_ |refine oR [2,3] a2 ?_ |refine oR [2,5] a3 ?_ |refine cR bc ?_ |refine cR pc ?_ |refine cR ic ?_ |refine cD fc ?_ |refine cD dc ?_ |refine cD wc ?_);simp -implicitDefEqProofs (disch:=omega) only[go_sem,d1,d2,d3,d4,d5,d6,d7,d8,zi,hx,hz,ln1,ln2,AI,Ad];(repeat' (refine K _ ?_;clear K kp))) |refine A1 rfl ?_ |refine A5 ?_));(refine rJ results5 ?_;refine AG (by simp only[A8];simp -implicitDefEqProofs (disch:=omega) only[go_sem,DR];rfl) ?_;refine(AE hE (by simp) ?_).s;simp[A8,ren,renL,DR])
 have d7:(s.k !=4)=true:=by simpa using k4
 rw[if_neg k4,if_neg k4];have a2:=a2 2;obtain⟨l2,hl2⟩: ∃l2,l2=l1++[NE.mk (An t.nm) 2]:=⟨_,rfl⟩;rw[<-hl2] at a2
 have n2:l2.length=2:=by rw[hl2,List.length_append,n1];rfl
 have a3:=(NV G t l2 lo hi 5 ot.ps f.ok.ck hn hlo hhi (by omega) hen).weak (xs:=[.p 0 0 0,EK lo,EK hi,.r (.int .i64 5)]) (by simp[Gb,wk,JV]);obtain⟨l3,hl3⟩: ∃l3,l3=l2++Fc t.nm 5 (AT t.ps t.root) lo hi:=⟨_,rfl⟩;rw[<-hl3] at a3
 have hfin:NE.mk ⟨#[]⟩ 1::NE.mk (An t.nm) 2::Fc t.nm 5 (AT t.ps t.root) lo hi=l3:=by rw[hl3,hl2,hl1];rfl
 rw[hfin];clear hl1 hl2 hl3 hfin;simp only[AI,Ad] at pc ic fc cc;unfold Gu at ac;unfold Nn Gu at a2 a3
 by_cases k5:s.k=5
 ·have d6:(s.k==5)=true:=by rw[k5];rfl
  have d9:(Ab t.cols s.set==0)=false:=by simp only[aT,ne_eq];exact fun h=>ha (.inr ⟨k5,h⟩)
  refine cJ func5 fun E hG hE=>?_;subst hG;simp only[AX];(repeat' (first |refine A0 ?_ |refine A4 ?_ |refine A3 ?_ |((first |refine sR (fun K kp=>?_) |refine sI (id:=14) mixed 11 (fun K kp=>?_) |refine sI (id:=17) mixed 15 (fun K kp=>?_) |refine sI (id:=18) mixed 22 (fun K kp=>?_) |refine sD (id:=22) mixed 6 [0,1,2,4,5,3] (fun K kp=>?_) |refine oR [2] ac ?_ |refine oR [2,3] a2 ?_ |refine oR [2,5] a3 ?_ |refine cR bc ?_ |refine cR pc ?_ |refine cR ic ?_ |refine cD fc ?_ |refine cD dc ?_ |refine cD wc ?_ |refine cD cc ?_);simp -implicitDefEqProofs (disch:=omega) only[go_sem,d1,d2,d3,d4,d5,d6,d7,d8,d9,zi,hx,hz,ln1,ln2,AI,Ad];(repeat' (refine K _ ?_;clear K kp))) |refine A2 rfl ?_ |refine A1 rfl ?_ |refine A5 ?_));(refine rJ results5 ?_;refine AG (by simp only[A8];simp -implicitDefEqProofs (disch:=omega) only[go_sem,DR];rfl) ?_;refine(AE hE (by simp) ?_).s;simp[A8,ren,renL,DR])
 ·have d6:(s.k==5)=false:=by simpa using k5
  refine cJ func5 fun E hG hE=>?_;subst hG;simp only[AX];(repeat' (first |refine A0 ?_ |refine A4 ?_ |refine A3 ?_ |((first |refine sR (fun K kp=>?_) |refine sI (id:=14) mixed 11 (fun K kp=>?_) |refine sI (id:=17) mixed 15 (fun K kp=>?_) |refine sI (id:=18) mixed 22 (fun K kp=>?_) |refine sD (id:=22) mixed 6 [0,1,2,4,5,3] (fun K kp=>?_) |refine oR [2] ac ?_ |refine oR [2,3] a2 ?_ |refine oR [2,5] a3 ?_ |refine cR bc ?_ |refine cR pc ?_ |refine cR ic ?_ |refine cD fc ?_ |refine cD dc ?_ |refine cD wc ?_);simp -implicitDefEqProofs (disch:=omega) only[go_sem,d1,d2,d3,d4,d5,d6,d7,d8,zi,hx,hz,ln1,ln2,AI,Ad];(repeat' (refine K _ ?_;clear K kp))) |refine A2 rfl ?_ |refine A1 rfl ?_ |refine A5 ?_));(refine rJ results5 ?_;refine AG (by simp only[A8];simp -implicitDefEqProofs (disch:=omega) only[go_sem,DR];rfl) ?_;refine(AE hE (by simp) ?_).s;simp[A8,ren,renL,DR])
end
end Go.AM
