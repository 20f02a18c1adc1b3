/- Texts of the law NeedNeeds, part 7: lemmas; what is proved stands in the last text. -/
import Derived.Test.YtmohnlbeiaifhaaGreatDoorZz4
import Derived.Test.YtmohnlbeiaifhaaGreatDoorZz6
import Derived.Lib.Bytealg
import Derived.Test.YtmohnlbeiaifhaaGreatDoorZz5
import Derived.Test.YtmohnlbeiaifhaaGreatDoorCards
import Derived.Test.YtmohnlbeiaifhaaGreatDoorTie
import Derived.WalkKit
import Derived.ProofKit
import Derived.OpenShut
import Derived.ShutString
import Derived.ChangeOld
import Derived.Below
import Derived.Lib.SmallJoins
import Derived.Deep.DeepHandedRow
import Derived.Lib.LaidTab
import Derived.Test.YtmohnlbeiaifhaaGreatDoorRows
import Derived.Test.YtmohnlbeiaifhaaGreatDoorZz1
import Derived.JoinedCond
import Derived.SizedLaws
import Derived.Deep.Strs
import Derived.Shelf.Vars
import Derived.Shelf.Strings.Replace
import Derived.Ground.NamesProg
import Derived.Test.YtmohnlbeiaifhaaGreatDoorProg
abbrev eU:=@List.not_mem_nil
abbrev dB:=@Go.DataW.trod_string
abbrev gH:=@Array.getElem?_eq_none
abbrev dD:=@Go.DataW.trod_int
abbrev fM:=@Nat.lt_irrefl
abbrev dG:=@List.getElem?_concat_length
abbrev gA:=@Nat.eq_zero_or_pos
abbrev eX:=@List.getLast?_cons_cons
abbrev eY:=@List.getLast?_singleton
open Go.Proofs.Tryz
set_option maxHeartbeats 32000000
set_option linter.unusedSimpArgs false
set_option linter.unusedVariables false
set_option maxRecDepth 100000
namespace Go.Proofs.YtmohnlbeiaifhaaGreatDoor
open Go.RowKit
theorem Di: ∀(a b:List UInt8),Lib.compareBytes a b=if Op.bytesLess a b=true then -1 else if Op.bytesLess b a=true then 1 else 0
 | [],[]=>by simp[Lib.compareBytes,Op.bytesLess]
 | [],_::_=>by simp[Lib.compareBytes,Op.bytesLess]
 |_::_,[]=>by simp[Lib.compareBytes,Op.bytesLess]
 |a::x,b::y=>by
  have ih:=Di x y;simp only[Lib.compareBytes,Op.bytesLess,ih]
  by_cases h1:a<b
  ·simp[h1]
  ·by_cases h2:b<a
   ·have: ¬(a==b)=true:=by intro h;simp at h;subst h;exact h1 h2
    simp[h1,h2,this]
   ·have e:a=b:=by
     have:a.toNat=b.toNat:=by simp[cN] at h1 h2;omega
     exact gR this
    subst e;simp[h1]
theorem GZ: ∀(a b:List UInt8),Op.bytesLess a b=true->Op.bytesLess b a=false
 | [],[]=>by simp[Op.bytesLess]
 | [],_::_=>by simp[Op.bytesLess]
 |_::_,[]=>by simp[Op.bytesLess]
 |a::x,b::y=>by
  have ih:=GZ x y;simp only[Op.bytesLess,cA,aJ,aP,cY,fJ,eG,decide_eq_false_iff_not];rintro(h |⟨rfl,h⟩)
  ·refine⟨?_,?_⟩
   ·simp[cN] at h ⊢;omega
   ·left;rw[aT];intro e;subst e;simp[cN] at h
  ·refine⟨by simp[cN],.inr (ih h)⟩
theorem Ub:Lib.compareBytes [] []=0:=rfl
theorem TJ {k n:Int}{s:ByteArray}(h:AW k n s=0):(k=0/\n=0/\s.toList=[])\/(k=1/\0≤n/\n≤1/\s.toList=[])\/(k=2/\s.toList=[])\/(k=3/\n=0/\s.size≤20):=by
 unfold AW at h;split at h
 ·split at h<;>simp_all
 ·split at h
  ·split at h
   ·simp at h
   ·rename_i h';simp only[not_or,Classical.not_not] at h';right;left;refine⟨by assumption,by omega,by omega,h'.2.2⟩
  ·split at h
   ·split at h<;>simp_all
   ·split at h
    ·split at h
     ·simp at h
     ·split at h
      ·simp at h
      ·right;right;right;refine⟨by assumption,by simp_all,by omega⟩
    ·simp at h
end Go.Proofs.YtmohnlbeiaifhaaGreatDoor
namespace Go.AM
open Go Go.RowKit
open Go.Proofs.YtmohnlbeiaifhaaGreatDoor (AW)
attribute [local irreducible] AWP DU
theorem ZT (s:ByteArray)(i:Nat):s[i]?=s.data.toList[i]?:=by
 by_cases h:i<s.size
 ·rw[getElem?_def,dif_pos h,aI (by simpa using h)];rfl
 ·rw[getElem?_def,dif_neg h,bO (by simp only[cT];exact Nat.le_of_not_lt h)]
theorem SL (s:ByteArray):s.size=s.data.toList.length:=by rw[cT];rfl
theorem JE {l:List V}{i:Nat}{v:V}(b:List UInt8)(h:l[i]?=some v)(hv:AW v.k v.n v.s=0):CF b (l.drop i)=CF (b++CL v) (l.drop (i+1)):=by
 rw[Am h,CF,if_neg (by simpa using hv)]
def FW:Except Int (List UInt8)->AV
 | .error e=> .tup [.r (.slice none 0 0),.r (.int .i64 e)]
 | .ok b=> .tup [.ro true 1 (b.map AC),.r (.int .i64 0)]
theorem I1 {v:V}(h:AW v.k v.n v.s=0):v.k=0\/(v.k=1/\(v.n=0\/v.n=1))\/v.k=2\/(v.k=3/\v.s.size≤20):=by
 rcases Go.Proofs.YtmohnlbeiaifhaaGreatDoor.TJ h with h |h |h |h
 ·exact .inl h.1
 ·exact .inr (.inl ⟨h.1,by omega⟩)
 ·exact .inr (.inr (.inl h.1))
 ·exact .inr (.inr (.inr ⟨h.1,h.2.2⟩))
end Go.AM
namespace Go.AM
open Go Go.RowKit
open Go.Proofs.YtmohnlbeiaifhaaGreatDoor (AH AW)
structure TB where
 nm:ByteArray
 cols:List CO
 rows:List (List V)
 ps:List PG
 root:Int
def LG (r:List V):List AV:=[.ro true 3 (r.map eV)]
@[simp] theorem X0 (a:List V):(∀x,x ∈ LG a->PT x)=True:=aK (by intro x hx;simp only[LG,aW] at hx;subst hx;exact .ro _ _ (Da _ _))
instance:PTf LG:=⟨fun a=>of_eq_true (X0 a)⟩
def Ad (t:TB):List AV:=[.r (.string t.nm),.ro true 2 (t.cols.map eC),.ro true 1 (t.rows.map LG),.ro true 5 (t.ps.map eP),.r (.int .i64 t.root)]
@[simp] theorem Wz (a:TB):(∀x,x ∈ Ad a->PT x)=True:=aK (by
  intro x hx;simp only[Ad,bA,eU,or_false] at hx
  rcases hx with rfl |rfl |rfl |rfl |rfl
  ·exact .r _
  ·exact .ro _ _ (Da _ _)
  ·exact .ro _ _ (Da _ _)
  ·exact .ro _ _ (Da _ _)
  ·exact .r _)
instance:PTf Ad:=⟨fun a=>of_eq_true (Wz a)⟩
def okRw (r:List V):Prop:=r.length≤1048576/\ ∀v ∈ r,gV v
structure okTB (t:TB):Prop where
 nm:FG t.nm
 cl:t.cols.length≤1048576
 cs: ∀c ∈ t.cols,FG c.nm
 rl:t.rows.length≤1048576
 rs: ∀r ∈ t.rows,okRw r
 ps:Dk t.ps
noncomputable def AT (ps:List PG)(root:Int):List Et:=by
 classical
 exact if h: ∃p:Nat×Nat,root=p.1/\Trd ps p.1 p.2 then BG ps h.choose.2 h.choose.1 else []
theorem BJ {ps:List PG}{r d:Nat}(h:Trd ps r d):AT ps r=BG ps d r:=by
 have hx: ∃p:Nat×Nat,(r:Int)=p.1/\Trd ps p.1 p.2:=⟨(r,d),rfl,h⟩;unfold AT;rw[dif_pos hx];obtain⟨e,h'⟩:=hx.choose_spec
 have e:r=hx.choose.1:=by omega
 have h2:=h';rw[<-e] at h2 ⊢;rw[Fp (DH h.ok) d r _ _ _ _ hx.choose.2 h.good h2.good]
def Cg (r:List V):Ky:=match EF (r.take 1) with
 | .ok b=>b
 | .error _=>[]
theorem W4 (v:V):CL v≠[]:=by unfold CL;simp
theorem LA {l:List CO}{r:List V}(h:Bb l r=0): ∃v s,r=v::s/\EF (r.take 1)= .ok (Cg r)/\GB (Cg r)=true:=by
 unfold Bb at h;split at h
 ·rename_i hc;exact absurd h hc
 ·rename_i hc
  split at h
  ·cases h
  ·rename_i hlen
   have hl:l.length≠0:=by
    intro e
    have:Ag l=1:=by unfold Ag;rw[if_pos (.inl (by omega))]
    simp[this] at hc
   cases r with
   |nil=>simp at hlen;omega
   |cons v s=>
    cases l with
    |nil=>simp at hl
    |cons c cs=>
     rw[Ff] at h
     have hv:AW v.k v.n v.s=0:=by
      by_cases hv:AW v.k v.n v.s=0
      ·exact hv
      ·rw[if_pos hv] at h;exact absurd h hv
     have hlv:=Dg hv
     have he:EF ((v::s).take 1)= .ok (CL v):=by
      simp only[List.take_succ_cons,List.take_zero];unfold EF;rw[if_neg (by simp),CF,if_neg (by simpa using hv),CF];simp only[List.nil_append];rw[if_neg (by omega)]
     have hk:Cg (v::s)=CL v:=by unfold Cg;rw[he]
     refine⟨v,s,rfl,by rw[he,hk],?_⟩;have:=cV.2 (W4 v);rw[hk,GB,aJ,aP,aP];omega
def Kj (ents:List Et)(cols:List CO)(i:Nat)(r:List V):Bool:=decide (Bb cols r=0)&&decide (H1 ents (Cg r)=((i:Int),0))
def FL (ents:List Et)(cols:List CO):Nat->List (List V)->Bool
 |_,[]=>true
 |i,r::s=>if r.length=0 then FL ents cols (i+1) s else if Kj ents cols i r then FL ents cols (i+1) s else false
def C7:List (List V)->Nat
 | []=>0
 |r::s=>if r.length=0 then C7 s else C7 s+1
noncomputable def LU (t:TB):Bool:=decide (AH t.nm=0)&&(decide (Ag t.cols=0)&&(decide (t.rows.length≤40)&&(decide (Dj t.ps t.root=0)&&(FL (AT t.ps t.root) t.cols 0 t.rows&&decide (C7 t.rows=(AT t.ps t.root).length)))))
noncomputable def Bv:List TB->List TB->Int
 |_,[]=>0
 |p,t::s=>if LU t=false then 11 else if p.any (fun x=>x.nm.toList==t.nm.toList) then 11 else Bv (p++[t]) s
noncomputable def B1 (l:List TB):Int:=if 4<l.length then 11 else Bv [] l
theorem Uj {l:List Et}(h:Qo l)(i:Int)(k:Ky):(l.any fun e=>(e.2==i)&&(e.1==k))=decide (H1 l k=(i,0)):=by
 rw[H1]
 cases hf:l.find? (fun e=>e.1==k) with
 |none=>
  have hn:=fZ.1 hf
  have e1:(l.any fun e=>(e.2==i)&&(e.1==k))=false:=by
   rw[List.any_eq_false];intro e he;have:=hn e he;simp at this ⊢;intro _;exact this
  rw[e1];simp
 |some e=>
  have hm:=List.mem_of_find?_eq_some hf;have hk:=List.find?_some hf
  have hk:e.1=k:=by simpa using hk
  by_cases hi:e.2=i
  ·have:(l.any fun e=>(e.2==i)&&(e.1==k))=true:=dJ.2 ⟨e,hm,by simp[hi,hk]⟩
   rw[this];simp[hi]
  ·have e1:(l.any fun e=>(e.2==i)&&(e.1==k))=false:=by
    rw[List.any_eq_false];intro f hf'
    by_cases hfk:f.1=k
    ·by_cases hfe:f=e
     ·subst hfe;simp[hi]
     ·exfalso
      obtain⟨a,ha⟩:=aO.1 hm;obtain⟨b,hb⟩:=aO.1 hf';have hp:=List.pairwise_iff_getElem.1 h;obtain⟨la,ea⟩:=aA.1 ha;obtain⟨lb,eb⟩:=aA.1 hb
      rcases Nat.lt_trichotomy a b with hlt |rfl |hlt
      ·have:=hp a b la lb hlt
       rw[ea,eb,hk,hfk,Ez] at this;cases this
      ·rw[ea] at eb;exact hfe eb.symm
      ·have:=hp b a lb la hlt
       rw[ea,eb,hk,hfk,Ez] at this;cases this
    ·simp[hfk]
   rw[e1];simp[hi]
theorem Tc (l:List Et):Er l [] []=l:=by
 unfold Er;rw[List.filter_eq_self];intro e _;simp[XF]
theorem Qc {ps:List PG}{root:Int}(h:Dj ps root=0): ∃r d:Nat,root=r/\Trd ps r d:=by
 by_cases hc:ChkOK ps root
 ·exact Eo hc
 ·rw[IS hc] at h;simp at h
theorem Xx {ps:List PG}{root:Int}{k:Ky}(h:Dj ps root=0)(hk:GB k=true):Kr ps root k=0:=by rw[Kr,if_neg (by simpa using h),if_pos hk]
theorem Lk {ents:List Et}{cols:List CO}{rows:List (List V)}{i:Nat}{r:List V}(h:rows[i]?=some r):FL ents cols i (rows.drop i)=if r.length=0 then FL ents cols (i+1) (rows.drop (i+1)) else if Kj ents cols i r then FL ents cols (i+1) (rows.drop (i+1)) else false:=by
 rw[Am h,FL]
theorem M4 {rows:List (List V)}{i:Nat}{r:List V}(h:rows[i]?=some r):C7 (rows.take (i+1))=C7 (rows.take i)+if r.length=0 then 0 else 1:=by
 have ht:rows.take (i+1)=rows.take i++[r]:=by rw[aV,h];rfl
 have ha: ∀(a:List (List V)),C7 (a++[r])=C7 a+if r.length=0 then 0 else 1:=by
  intro a
  induction a with
  |nil=>simp only[List.nil_append,C7];split<;>rfl
  |cons x s ih=>simp only[List.cons_append,C7,ih];split<;>omega
 rw[ht,ha]
theorem Iz: ∀l:List (List V),C7 l≤l.length
 | []=>Nat.le_refl _
 |r::s=>by
  have:=Iz s
  rw[C7,List.length_cons];split<;>omega
attribute [local irreducible] AWP DU
theorem LN (G:GL)(t:Bool)(r:List V)(hl:r.length≤1048576):Con prog G 39 [.ro t 3 (r.map eV)] [] 0 (Is (.ro true 3 (r.map eV)) [] 0) No:=by
 refine cJ func39 fun E hG hE=>?_;subst hG;simp only[AX];(repeat' (first |refine A0 ?_ |refine A4 ?_ |((refine sR (fun K kp=>?_));simp(disch:=omega) only[go_sem];(repeat' (refine K _ ?_;clear K kp)))));(refine AWP.emb (BY 3 98 3 ?_) ?_;(·rfl);dsimp only);refine AB (fun k:Nat=>⟨[(4,.r (.int .i64 k)),(3,.s 0 0 k),(0,.ro t 3 (r.map eV))],[(0,.lst 98 3 ((r.take k).map eV))],1⟩) (fun k=>k≤r.length) (fun k=>r.length - k) 0 ?_ ?_ ?_
 ·exact aU _
 ·(exact iK hE [0])
 intro k hk
 by_cases hlt:k<r.length
 ·have zk:((k:Int)<(r.length:Int))=True:=aK (by omega)
  obtain⟨x,hx⟩: ∃x,r[k]?=some x:=⟨r[k],by simp[hlt]⟩
  have htk:r.take (k+1)=r.take k++[x]:=by rw[aV,hx];rfl
  have hl2:(r.take k).length=k:=by rw[aS];omega
  (repeat' (first |refine A0 ?_ |refine A4 ?_ |refine A3 ?_ |((refine sR (fun K kp=>?_));simp(disch:=omega) only[go_sem,zk,hx,eV,hl2,Value.oneCell'];(repeat' (first |(refine K _ ?_;clear K kp) |(with_reducible refine And.intro ?_ ?_) |omega))) |refine A2 rfl ?_));(refine BF (k+1) ?_ ?_;rotate_left;(·(refine AJ hE [2] rfl ?_ ?_<;>simp[Ai,AY,lk,ren,renL,AA,AU,htk,eV,cM,dK]<;>(try omega))));omega
 ·obtain rfl:k=r.length:=by omega
  rw[bZ];(repeat' (first |refine A0 ?_ |refine A7 ?_ |((refine sR (fun K kp=>?_));simp(disch:=omega) only[go_sem];(repeat' (refine K _ ?_;clear K kp))) |((refine A6 rfl (fun h=>?_) (fun h=>?_)<;>try simp only[Af] at h)<;>(try (exfalso;omega))) |refine A5 ?_));(refine rJ results39 ?_;refine AG (by simp only[A8];simp(disch:=omega) only[go_sem];rfl) ?_;refine(AE hE (by simp) ?_).s;simp[A8,ren,renL])
theorem N8 (G:GL)(b:TB)(ho:okTB b):Con prog G 10 [.agg (Ad b)] [] 0 (Is (.agg (Ad b)) [] 0) No:=by
 have tc:=OK G true b.ps b.root ho.ps;have hcl:=ho.cl;have hrl:=ho.rl;refine cJ func10 fun E hG hE=>?_;subst hG;simp only[AX];(repeat' (first |refine A0 ?_ |refine A4 ?_ |((first |refine sR (fun K kp=>?_) |refine rU (id:=1) mixed 7 [⟨0,0,[],[(0,1)]⟩,⟨0,0,[0],[(0,1)]⟩,⟨0,0,[],[(0,1)]⟩,⟨0,0,[2],[(0,1)]⟩,⟨0,0,[2,3],[(0,1)]⟩,⟨0,0,[0,1,2,3,4],[(0,1)]⟩,⟨0,1,[],[]⟩] 1 [7,8,9,10,11,12,3] [] (fun _ _ K kp=>?_) |refine cU tc ?_);simp(disch:=omega) only[go_sem,Ad];(repeat' (refine K _ ?_;clear K kp)))));(refine AWP.emb (EG 2 1 80 2 rfl rfl (by simp)) ?_;simp only[cZ,dA,lk,↓reduceIte,Nat.reduceAdd]);(refine AWP.emb (EG 2 2 26 1 rfl rfl (by simp)) ?_;simp only[cZ,dA,lk,↓reduceIte,Nat.reduceAdd]);refine AB (fun k:Nat=>⟨[(4,.r (.int .i64 k)),(3,.p 2 0 0),(2,.p 1 0 0),(1,.p 0 0 0)],[(0,.box 45 (Ad b)),(1,.box 45 [.r (.string ⟨#[]⟩),.r (.slice none 0 0),.r (.slice none 0 0),.r (.slice none 0 0),.r (.int .i64 0)]),(2,.box 45 [.r (.string b.nm),.s 3 0 k,.s 4 0 0,.ro true 5 (b.ps.map eP),.r (.int .i64 b.root)]),(3,.lst 80 2 ((b.cols.take k).map eC)),(4,.lst 26 1 [])],5⟩) (fun k=>k≤b.cols.length) (fun k=>b.cols.length - k) 0 ?_ ?_ ?_
 ·exact aU _
 ·(refine AJ hE [0,1,2,3,4] rfl ?_ ?_<;>simp[Ai,AY,lk,ren,renL,AA,AU,Ad]<;>(try omega))
 intro k hk
 by_cases hlt:k<b.cols.length
 ·have zk:((k:Int)<(b.cols.length:Int))=True:=aK (by omega)
  obtain⟨x,hx⟩: ∃x,b.cols[k]?=some x:=⟨b.cols[k],by simp[hlt]⟩
  have htk:b.cols.take (k+1)=b.cols.take k++[x]:=by rw[aV,hx];rfl
  have hl2:(b.cols.take k).length=k:=by rw[aS];omega
  (repeat' (first |refine A0 ?_ |refine A4 ?_ |refine A3 ?_ |((first |refine sR (fun K kp=>?_) |refine rX (id:=5) mixed [3] 9 [0,1,2,3,4,5,6,7,8] (fun _ _ K kp=>?_));simp(disch:=omega) only[go_sem,zk,hx,Ad,eC,hl2,Value.oneCell'];(repeat' (first |(refine K _ ?_;clear K kp) |(with_reducible refine And.intro ?_ ?_) |omega))) |refine A2 rfl ?_));(refine BF (k+1) ?_ ?_;rotate_left;(·(refine AJ hE [0,1,2,6,4] rfl ?_ ?_<;>simp[Ai,AY,lk,ren,renL,AA,AU,htk,Ad,eC,cM,dK]<;>(try omega))));omega
 ·obtain rfl:k=b.cols.length:=by omega
  rw[bZ];(repeat' (first |refine A0 ?_ |refine A4 ?_ |refine A7 ?_ |((refine sR (fun K kp=>?_));simp(disch:=omega) only[go_sem,Ad];(repeat' (refine K _ ?_;clear K kp))) |((refine A6 rfl (fun h=>?_) (fun h=>?_)<;>try simp only[Af] at h)<;>(try (exfalso;omega)))));refine AB (fun k:Nat=>⟨[(5,.r (.int .i64 k)),(3,.p 2 0 0),(2,.p 1 0 0),(1,.p 0 0 0)],[(0,.box 45 (Ad b)),(1,.box 45 [.r (.string ⟨#[]⟩),.r (.slice none 0 0),.r (.slice none 0 0),.r (.slice none 0 0),.r (.int .i64 0)]),(2,.box 45 [.r (.string b.nm),.s 3 0 b.cols.length,.s 4 0 k,.ro true 5 (b.ps.map eP),.r (.int .i64 b.root)]),(3,.lst 80 2 (b.cols.map eC)),(4,.lst 26 1 ((b.rows.take k).map LG))],5⟩) (fun k=>k≤b.rows.length) (fun k=>b.rows.length - k) 0 ?_ ?_ ?_
  ·exact aU _
  ·(refine AJ hE [0,1,2,3,4] rfl ?_ ?_<;>simp[Ai,AY,lk,ren,renL,AA,AU,Ad]<;>(try omega))
  intro k hk
  by_cases hlt:k<b.rows.length
  ·have zk:((k:Int)<(b.rows.length:Int))=True:=aK (by omega)
   obtain⟨x,hx⟩: ∃x,b.rows[k]?=some x:=⟨b.rows[k],by simp[hlt]⟩
   have htk:b.rows.take (k+1)=b.rows.take k++[x]:=by rw[aV,hx];rfl
   have hl2:(b.rows.take k).length=k:=by rw[aS];omega
   have vc:=LN E.G true x (ho.rs x (aB hx)).1;(repeat' (first |refine A0 ?_ |refine A4 ?_ |refine A3 ?_ |((first |refine sR (fun K kp=>?_) |refine cR vc ?_);simp(disch:=omega) only[go_sem,zk,hx,Ad,LG,hl2,Value.oneCell'];(repeat' (first |(refine K _ ?_;clear K kp) |(with_reducible refine And.intro ?_ ?_) |omega))) |refine A2 rfl ?_));(refine BF (k+1) ?_ ?_;rotate_left;(·(refine AJ hE [0,1,2,3,6] rfl ?_ ?_<;>simp[Ai,AY,lk,ren,renL,AA,AU,htk,Ad,LG,cM,dK]<;>(try omega))));omega
  ·obtain rfl:k=b.rows.length:=by omega
   rw[bZ];(repeat' (first |refine A0 ?_ |refine A7 ?_ |((refine sR (fun K kp=>?_));simp(disch:=omega) only[go_sem,Ad];(repeat' (refine K _ ?_;clear K kp))) |((refine A6 rfl (fun h=>?_) (fun h=>?_)<;>try simp only[Af] at h)<;>(try (exfalso;omega))) |refine A5 ?_));(refine rJ results10 ?_;refine AG (by simp only[A8];simp(disch:=omega) only[go_sem,Ad];rfl) ?_;refine(AE hE (by simp) ?_).s;simp[A8,ren,renL,Ad])
def RO (l:List TB):Prop:=l.length≤1048576/\ ∀t ∈ l,okTB t
theorem P6 (G:GL)(l:List TB)(ho:RO l):Con prog G 4 [.agg [.ro true 5 (l.map Ad)]] [] 0 (Is (.agg [.ro true 5 (l.map Ad)]) [] 0) No:=by
 have hn:=ho.1;refine cJ func4 fun E hG hE=>?_;subst hG;simp only[AX];(repeat' (first |refine A0 ?_ |refine A4 ?_ |((refine sR (fun K kp=>?_));simp(disch:=omega) only[go_sem];(repeat' (refine K _ ?_;clear K kp)))));(refine AWP.emb (EG 2 0 45 5 rfl rfl (by simp)) ?_;simp only[cZ,dA,lk,↓reduceIte,Nat.reduceAdd]);refine AB (fun k:Nat=>⟨[(4,.r (.int .i64 k)),(3,.p 2 0 0),(2,.p 1 0 0),(1,.p 0 0 0)],[(0,.box 24 [.ro true 5 (l.map Ad)]),(1,.box 24 [.r (.slice none 0 0)]),(2,.box 24 [.s 3 0 k]),(3,.lst 45 5 ((l.take k).map Ad))],4⟩) (fun k=>k≤l.length) (fun k=>l.length - k) 0 ?_ ?_ ?_
 ·exact aU _
 ·(exact iK hE [0,1,2,3])
 intro k hk
 by_cases hlt:k<l.length
 ·have zk:((k:Int)<(l.length:Int))=True:=aK (by omega)
  obtain⟨x,hx⟩: ∃x,l[k]?=some x:=⟨l[k],by simp[hlt]⟩
  have htk:l.take (k+1)=l.take k++[x]:=by rw[aV,hx];rfl
  have hl2:(l.take k).length=k:=by rw[aS];omega
  have vc:=N8 E.G x (ho.2 x (aB hx));simp only[Ad] at vc;(repeat' (first |refine A0 ?_ |refine A4 ?_ |refine A3 ?_ |((first |refine sR (fun K kp=>?_) |refine cR vc ?_);simp(disch:=omega) only[go_sem,zk,hx,Ad,hl2,Value.oneCell'];(repeat' (first |(refine K _ ?_;clear K kp) |(with_reducible refine And.intro ?_ ?_) |omega))) |refine A2 rfl ?_));(refine BF (k+1) ?_ ?_;rotate_left;(·(refine AJ hE [0,1,2,6] rfl ?_ ?_<;>simp[Ai,AY,lk,ren,renL,AA,AU,htk,Ad,cM,dK]<;>(try omega))));omega
 ·obtain rfl:k=l.length:=by omega
  rw[bZ];(repeat' (first |refine A0 ?_ |refine A7 ?_ |((refine sR (fun K kp=>?_));simp(disch:=omega) only[go_sem];(repeat' (refine K _ ?_;clear K kp))) |((refine A6 rfl (fun h=>?_) (fun h=>?_)<;>try simp only[Af] at h)<;>(try (exfalso;omega))) |refine A5 ?_));(refine rJ results4 ?_;refine AG (by simp only[A8];simp(disch:=omega) only[go_sem];rfl) ?_;refine(AE hE (by simp) ?_).s;simp[A8,ren,renL])
open Go.Proofs.YtmohnlbeiaifhaaGreatDoor (AW)
theorem PM:(0:UInt8).toNat=0:=rfl
theorem A1Z:(255:UInt8).toNat=255:=rfl
theorem GA (G:GL)(t:Bool)(l:List V)(hl:l.length≤1048576)(hg: ∀v ∈ l,gV v):Con prog G 63 [.ro t 3 (l.map eV)] [] 0 (Is (FW (EF l)) [] 0) No:=by
 refine cJ func63 fun E hG hE=>?_;subst hG;simp only[AX]
 by_cases h6:6<l.length
 ·have d1:decide ((l.length:Int)>6)=true:=aE (by omega)
  have hM:EF l= .error 1:=by rw[EF,if_pos h6]
  rw[hM];simp only[FW];(repeat' (first |refine A0 ?_ |((refine sR (fun K kp=>?_));simp -implicitDefEqProofs (disch:=omega) only[go_sem,d1];(repeat' (refine K _ ?_;clear K kp))) |refine A2 rfl ?_ |refine A5 ?_));(refine rJ results63 ?_;exact eQ hE)
 have d1:decide ((l.length:Int)>6)=false:=aC (by omega);(repeat' (first |refine A0 ?_ |refine A4 ?_ |refine A3 ?_ |((refine sR (fun K kp=>?_));simp -implicitDefEqProofs (disch:=omega) only[go_sem,d1];(repeat' (refine K _ ?_;clear K kp))) |refine A1 rfl ?_));(refine AWP.emb (BY 4 5 1 ?_) ?_;(·rfl);dsimp only);refine AB (fun q:Nat×List UInt8=>⟨[(5,.r (.int .i64 q.1)),(4,.s 0 0 q.2.length),(0,.ro t 3 (l.map eV))],[(0,.lst 5 1 (q.2.map AC))],1⟩) (fun q=>q.1≤l.length/\q.2.length≤43 * q.1/\CF q.2 (l.drop q.1)=CF [] l) (fun q=>l.length - q.1) (0,[]) ?_ ?_ ?_
 ·exact⟨by simp,by simp,rfl⟩
 ·(exact iK hE [0])
 rintro⟨i,b⟩ ⟨hi,hb,hno⟩;simp only at hi hb hno ⊢
 by_cases hlt:i<l.length
 ·obtain⟨v,hx⟩: ∃x,l[i]?=some x:=⟨l[i],by simp[hlt]⟩
  have hgv:=hg v (aB hx);have vc:=PH E.G v hgv.1;simp only[eV] at vc
  by_cases hv:AW v.k v.n v.s=0
  ·rw[hv] at vc
   have hlen:=Dg hv;rw[JE b hx hv] at hno
   obtain hk |⟨hk,hn⟩ |hk |⟨hk,hs⟩:=I1 hv
   ·have hW:CL v=[0]:=by rw[CL,hk];rfl
    rw[hW] at hno;(repeat' (first |refine A0 ?_ |refine A4 ?_ |refine A3 ?_ |((first |refine sR (fun K kp=>?_) |refine cR vc ?_);simp -implicitDefEqProofs (disch:=omega) only[go_sem,hx,eV,hk];(repeat' (first |(refine K _ ?_;clear K kp) |(with_reducible refine And.intro ?_ ?_) |omega))) |refine A1 rfl ?_ |((refine A6 rfl (fun h=>?_) (fun h=>?_)<;>try simp only[Af] at h)<;>(try (exfalso;omega)))));(refine BF ((i+1,b++[0])) ?_ ?_;rotate_left;(·(refine AJ hE [2] rfl ?_ ?_<;>simp[Ai,AY,lk,ren,renL,AA,AU,AC,PM,DG,DI]<;>(try omega))));exact⟨by omega,by simp only[List.length_append,cC];omega,hno⟩
   ·have hW:CL v=[1,UInt8.ofNat v.n.toNat]:=by rw[CL,hk];rfl
    rw[hW] at hno
    obtain hn |hn:=hn
    ·rw[hn] at hno
     (repeat' (first |refine A0 ?_ |refine A4 ?_ |refine A3 ?_ |((first |refine sR (fun K kp=>?_) |refine cR vc ?_);simp -implicitDefEqProofs (disch:=omega) only[go_sem,hx,eV,hk,hn];(repeat' (first |(refine K _ ?_;clear K kp) |(with_reducible refine And.intro ?_ ?_) |omega))) |refine A2 rfl ?_ |refine A1 rfl ?_ |((refine A6 rfl (fun h=>?_) (fun h=>?_)<;>try simp only[Af] at h)<;>(try (exfalso;omega)))));(refine BF ((i+1,b++[1,0])) ?_ ?_;rotate_left;(·(refine AJ hE [4] rfl ?_ ?_<;>simp[Ai,AY,lk,ren,renL,AA,AU,AC,PM,DG,DI]<;>(try omega))));exact⟨by omega,by simp only[List.length_append,List.length_cons,List.length_nil];omega,hno⟩
    ·rw[hn] at hno
     (repeat' (first |refine A0 ?_ |refine A4 ?_ |refine A3 ?_ |((first |refine sR (fun K kp=>?_) |refine cR vc ?_);simp -implicitDefEqProofs (disch:=omega) only[go_sem,hx,eV,hk,hn];(repeat' (first |(refine K _ ?_;clear K kp) |(with_reducible refine And.intro ?_ ?_) |omega))) |refine A2 rfl ?_ |refine A1 rfl ?_ |((refine A6 rfl (fun h=>?_) (fun h=>?_)<;>try simp only[Af] at h)<;>(try (exfalso;omega)))));(refine BF ((i+1,b++[1,1])) ?_ ?_;rotate_left;(·(refine AJ hE [4] rfl ?_ ?_<;>simp[Ai,AY,lk,ren,renL,AA,AU,AC,PM,DG,DI]<;>(try omega))));exact⟨by omega,by simp only[List.length_append,List.length_cons,List.length_nil];omega,hno⟩
   ·have hW:CL v=2::LH (DW v.n):=by rw[CL,hk];rfl
    rw[hW] at hno;have hc:=NH E.G v.n hgv.2;(repeat' (first |refine A0 ?_ |refine A4 ?_ |refine A3 ?_ |((first |refine sR (fun K kp=>?_) |refine cR vc ?_ |refine cR hc ?_);simp -implicitDefEqProofs (disch:=omega) only[go_sem,hx,eV,hk,DI,P5];(repeat' (first |(refine K _ ?_;clear K kp) |(with_reducible refine And.intro ?_ ?_) |omega))) |refine A2 rfl ?_ |refine A1 rfl ?_ |((refine A6 rfl (fun h=>?_) (fun h=>?_)<;>try simp only[Af] at h)<;>(try (exfalso;omega)))))
    ((refine Dl ((i+1,b++2::LH (DW v.n))) ?_ ?_ ?_);rotate_left;(·(try dsimp only);(omega));(·(refine AJ hE [4] rfl ?_ ?_<;>simp[Ai,AY,lk,ren,renL,AA,AU,AC,PM,DG,DI]<;>(try omega))))
    exact⟨by omega,by simp only[List.length_append,List.length_cons,DI];omega,hno⟩
   ·have hW:CL v=3::(JC v.s.data.toList++[0,0]):=by rw[CL,hk];rfl
    rw[hW] at hno hlen;have hsl:=SL v.s;(repeat' (first |refine A0 ?_ |refine A4 ?_ |refine A3 ?_ |((first |refine sR (fun K kp=>?_) |refine cR vc ?_);simp -implicitDefEqProofs (disch:=omega) only[go_sem,hx,eV,hk];(repeat' (first |(refine K _ ?_;clear K kp) |(with_reducible refine And.intro ?_ ?_) |omega))) |refine A2 rfl ?_ |refine A1 rfl ?_ |((refine A6 rfl (fun h=>?_) (fun h=>?_)<;>try simp only[Af] at h)<;>(try (exfalso;omega)))));refine AB (fun q:Nat×List UInt8=>⟨[(7,.r (.int .i64 q.1)),(4,.s 0 0 q.2.length),(5,.r (.int .i64 i)),(0,.ro t 3 (l.map eV))],[(0,.lst 5 1 (q.2.map AC))],1⟩) (fun q=>q.1≤v.s.size/\q.2.length≤b.length+1+2 * q.1/\q.2++JC (v.s.data.toList.drop q.1)=b++3::JC v.s.data.toList) (fun q=>v.s.size - q.1) (0,b++[3]) ?_ ?_ ?_
    ·exact⟨by simp,by simp,by simp⟩
    ·(refine AJ hE [2] rfl ?_ ?_<;>simp[Ai,AY,lk,ren,renL,AA,AU,AC,DG]<;>(try omega))
    rintro⟨k,c⟩ ⟨hk',hcl,hco⟩;simp only at hk' hcl hco ⊢
    by_cases hks:k<v.s.size
    ·obtain⟨x,hxs⟩: ∃x,v.s.data.toList[k]?=some x:=⟨v.s.data.toList[k]'(by omega),by simp⟩
     have hxg:=ZT v.s k;rw[hxs] at hxg;rw[Am hxs,JC,IG] at hco
     by_cases h0:x=0
     ·rw[if_pos h0] at hco
      subst h0;(repeat' (first |refine A0 ?_ |refine A4 ?_ |refine A3 ?_ |((refine sR (fun K kp=>?_));simp -implicitDefEqProofs (disch:=omega) only[go_sem,hx,eV,hxg];(repeat' (first |(refine K _ ?_;clear K kp) |(with_reducible refine And.intro ?_ ?_) |omega))) |refine A2 rfl ?_ |((refine A6 rfl (fun h=>?_) (fun h=>?_)<;>try simp only[Af] at h)<;>(try (exfalso;omega)))));(refine BF ((k+1,c++[0,255])) ?_ ?_;rotate_left;(·(refine AJ hE [4] rfl ?_ ?_<;>simp[Ai,AY,lk,ren,renL,AA,AU,AC]<;>(try omega))));exact⟨by omega,by simp only[List.length_append,List.length_cons,List.length_nil];omega,by rw[<-hco];simp[JC]⟩
     ·rw[if_neg h0] at hco
      have e0:((x.toNat:Int)==0)=false:=by
       rw[aT];intro h;exact h0 (gR (by rw[PM];omega))
      (repeat' (first |refine A0 ?_ |refine A4 ?_ |refine A3 ?_ |((refine sR (fun K kp=>?_));simp -implicitDefEqProofs (disch:=omega) only[go_sem,hx,eV,hxg,e0];(repeat' (first |(refine K _ ?_;clear K kp) |(with_reducible refine And.intro ?_ ?_) |omega))) |refine A1 rfl ?_ |((refine A6 rfl (fun h=>?_) (fun h=>?_)<;>try simp only[Af] at h)<;>(try (exfalso;omega)))));(refine BF ((k+1,c++[x])) ?_ ?_;rotate_left;(·(refine AJ hE [2] rfl ?_ ?_<;>simp[Ai,AY,lk,ren,renL,AA,AU,AC]<;>(try omega))));exact⟨by omega,by simp only[List.length_append,cC];omega,by rw[<-hco];simp[JC]⟩
    ·rw[aR (by omega)] at hco
     have hco:c=b++3::JC v.s.data.toList:=by rw[<-hco];simp[JC,IG]
     (repeat' (first |refine A0 ?_ |refine A7 ?_ |((refine sR (fun K kp=>?_));simp -implicitDefEqProofs (disch:=omega) only[go_sem,hx,eV];(repeat' (first |(refine K _ ?_;clear K kp) |(with_reducible refine And.intro ?_ ?_) |omega))) |((refine A6 rfl (fun h=>?_) (fun h=>?_)<;>try simp only[Af] at h)<;>(try (exfalso;omega)))));(refine BF ((i+1,c++[0,0])) ?_ ?_;rotate_left;(·(refine AJ hE [2] rfl ?_ ?_<;>simp[Ai,AY,lk,ren,renL,AA,AU,AC]<;>(try omega))))
     have hcc:c++[0,0]=b++3::(JC v.s.data.toList++[0,0]):=by rw[hco];simp
     refine⟨by omega,?_,by simp only;rw[hcc];exact hno⟩;simp only;rw[hcc];simp only[List.length_append,List.length_cons,List.length_nil] at hlen ⊢;omega
  ·have hv0:(AW v.k v.n v.s !=0)=true:=by simpa using hv
   have hM:EF l= .error (AW v.k v.n v.s):=by
    rw[EF,if_neg h6,<-hno,Am hx,CF,if_pos hv]
   rw[hM];simp only[FW];(repeat' (first |refine A0 ?_ |refine A4 ?_ |refine A3 ?_ |((first |refine sR (fun K kp=>?_) |refine cR vc ?_);simp -implicitDefEqProofs (disch:=omega) only[go_sem,hx,eV,hv0];(repeat' (refine K _ ?_;clear K kp))) |refine A2 rfl ?_ |((refine A6 rfl (fun h=>?_) (fun h=>?_)<;>try simp only[Af] at h)<;>(try (exfalso;omega))) |refine A5 ?_));(refine rJ results63 ?_;exact eQ hE)
 ·rw[aR (by omega),CF] at hno
  by_cases h100:100<b.length
  ·have d2:decide ((b.length:Int)>100)=true:=aE (by omega)
   have hM:EF l= .error 5:=by rw[EF,if_neg h6,<-hno];simp only;rw[if_pos h100]
   rw[hM];simp only[FW];(repeat' (first |refine A0 ?_ |refine A7 ?_ |((refine sR (fun K kp=>?_));simp -implicitDefEqProofs (disch:=omega) only[go_sem,d2];(repeat' (refine K _ ?_;clear K kp))) |refine A2 rfl ?_ |((refine A6 rfl (fun h=>?_) (fun h=>?_)<;>try simp only[Af] at h)<;>(try (exfalso;omega))) |refine A5 ?_));(refine rJ results63 ?_;exact eQ hE)
  ·have d2:decide ((b.length:Int)>100)=false:=aC (by omega)
   have hM:EF l= .ok b:=by rw[EF,if_neg h6,<-hno];simp only;rw[if_neg h100]
   rw[hM];simp only[FW];(repeat' (first |refine A0 ?_ |refine A3 ?_ |refine A7 ?_ |((refine sR (fun K kp=>?_));simp -implicitDefEqProofs (disch:=omega) only[go_sem,d2];(repeat' (refine K _ ?_;clear K kp))) |refine A1 rfl ?_ |((refine A6 rfl (fun h=>?_) (fun h=>?_)<;>try simp only[Af] at h)<;>(try (exfalso;omega))) |refine A5 ?_));(refine rJ results63 ?_;refine AG (by simp only[A8];simp -implicitDefEqProofs (disch:=omega) only[go_sem];rfl) ?_;refine(AE hE (by simp) ?_).s;simp[A8,ren,renL])
def Ch (G:GL):Prop:= ∀s:ByteArray,s.size≤400->Con prog G 51 [.r (.string s),.r (.string ⟨#[0]⟩),.r (.string ⟨#[0,255]⟩)] [] 0 (Is (.r (.string ⟨(JC s.data.toList).toArray⟩)) [] 0) No
theorem GJ {G:GL}(HR:Ch G)(t:Bool)(l:List V)(hl:l.length≤1048576)(hg: ∀v ∈ l,gV v):Con prog G 19 [.ro t 3 (l.map eV)] [] 0 (Is (FW (EF l)) [] 0) No:=by
 refine cJ func19 fun E hG hE=>?_;subst hG;simp only[AX]
 by_cases h6:6<l.length
 ·have d1:decide ((l.length:Int)>6)=true:=aE (by omega)
  have hM:EF l= .error 1:=by rw[EF,if_pos h6]
  rw[hM];simp only[FW];(repeat' (first |refine A0 ?_ |((refine sR (fun K kp=>?_));simp(disch:=omega) only[go_sem,d1];(repeat' (refine K _ ?_;clear K kp))) |refine A2 rfl ?_ |refine A5 ?_));(refine rJ results19 ?_;exact eQ hE)
 have d1:decide ((l.length:Int)>6)=false:=aC (by omega);(repeat' (first |refine A0 ?_ |refine A4 ?_ |refine A3 ?_ |((refine sR (fun K kp=>?_));simp(disch:=omega) only[go_sem,d1];(repeat' (refine K _ ?_;clear K kp))) |refine A1 rfl ?_));(refine AWP.emb (BY 4 5 1 ?_) ?_;(·rfl);dsimp only);refine AB (fun q:Nat×List UInt8=>⟨[(15,.r (.int .i64 q.1)),(14,.r (.int .i64 l.length)),(13,.ro t 3 (l.map eV)),(4,.s 0 0 q.2.length)],[(0,.lst 5 1 (q.2.map AC))],1⟩) (fun q=>q.1≤l.length/\q.2.length≤43 * q.1/\CF q.2 (l.drop q.1)=CF [] l) (fun q=>l.length - q.1) (0,[]) ?_ ?_ ?_
 ·exact⟨by simp,by simp,rfl⟩
 ·(exact iK hE [0])
 rintro⟨i,b⟩ ⟨hi,hb,hno⟩;simp only at hi hb hno ⊢
 by_cases hlt:i<l.length
 ·obtain⟨v,hx⟩: ∃x,l[i]?=some x:=⟨l[i],by simp[hlt]⟩
  have hgv:=hg v (aB hx);have vc:=Uu E.G v hgv.1;simp only[eV] at vc
  by_cases hv:AW v.k v.n v.s=0
  ·rw[hv] at vc
   have hlen:=Dg hv;rw[JE b hx hv] at hno
   obtain hk |⟨hk,hn⟩ |hk |⟨hk,hs⟩:=I1 hv
   ·have hW:CL v=[0]:=by rw[CL,hk];rfl
    rw[hW] at hno;(repeat' (first |refine A0 ?_ |refine A4 ?_ |refine A3 ?_ |((first |refine sR (fun K kp=>?_) |refine cR vc ?_);simp(disch:=omega) only[go_sem,hx,eV,hk];(repeat' (first |(refine K _ ?_;clear K kp) |(with_reducible refine And.intro ?_ ?_) |omega))) |refine A1 rfl ?_ |((refine A6 rfl (fun h=>?_) (fun h=>?_)<;>try simp only[Af] at h)<;>(try (exfalso;omega)))));(refine BF ((i+1,b++[0])) ?_ ?_;rotate_left;(·(refine AJ hE [3] rfl ?_ ?_<;>simp[Ai,AY,lk,ren,renL,AA,AU,AC,PM,DG]<;>(try omega))));exact⟨by omega,by simp only[List.length_append,cC];omega,hno⟩
   ·have hW:CL v=[1,UInt8.ofNat v.n.toNat]:=by rw[CL,hk];rfl
    rw[hW] at hno
    obtain hn |hn:=hn
    ·rw[hn] at hno
     (repeat' (first |refine A0 ?_ |refine A4 ?_ |refine A3 ?_ |((first |refine sR (fun K kp=>?_) |refine cR vc ?_);simp(disch:=omega) only[go_sem,hx,eV,hk,hn];(repeat' (first |(refine K _ ?_;clear K kp) |(with_reducible refine And.intro ?_ ?_) |omega))) |refine A2 rfl ?_ |refine A1 rfl ?_ |((refine A6 rfl (fun h=>?_) (fun h=>?_)<;>try simp only[Af] at h)<;>(try (exfalso;omega)))));(refine BF ((i+1,b++[1,0])) ?_ ?_;rotate_left;(·(refine AJ hE [5] rfl ?_ ?_<;>simp[Ai,AY,lk,ren,renL,AA,AU,AC,PM,DG]<;>(try omega))));exact⟨by omega,by simp only[List.length_append,List.length_cons,List.length_nil];omega,hno⟩
    ·rw[hn] at hno
     (repeat' (first |refine A0 ?_ |refine A4 ?_ |refine A3 ?_ |((first |refine sR (fun K kp=>?_) |refine cR vc ?_);simp(disch:=omega) only[go_sem,hx,eV,hk,hn];(repeat' (first |(refine K _ ?_;clear K kp) |(with_reducible refine And.intro ?_ ?_) |omega))) |refine A2 rfl ?_ |refine A1 rfl ?_ |((refine A6 rfl (fun h=>?_) (fun h=>?_)<;>try simp only[Af] at h)<;>(try (exfalso;omega)))));(refine BF ((i+1,b++[1,1])) ?_ ?_;rotate_left;(·(refine AJ hE [5] rfl ?_ ?_<;>simp[Ai,AY,lk,ren,renL,AA,AU,AC,PM,DG]<;>(try omega))));exact⟨by omega,by simp only[List.length_append,List.length_cons,List.length_nil];omega,hno⟩
   ·have hW:CL v=2::LH (DW v.n):=by rw[CL,hk];rfl
    rw[hW] at hno;have hxor:=xorU hgv.2;obtain⟨u,hu⟩: ∃u,DW v.n=u:=⟨_,rfl⟩;rw[hu] at hxor hno;(repeat' (first |refine A0 ?_ |refine A4 ?_ |refine A3 ?_ |((first |refine sR (fun K kp=>?_) |refine cR vc ?_);simp(disch:=omega) only[go_sem,hx,eV,hk,hxor];(repeat' (first |(refine K _ ?_;clear K kp) |(with_reducible refine And.intro ?_ ?_) |omega))) |refine A2 rfl ?_ |refine A1 rfl ?_ |((refine A6 rfl (fun h=>?_) (fun h=>?_)<;>try simp only[Af] at h)<;>(try (exfalso;omega)))));refine AB (fun j:Nat=>⟨[(9,.r (.int .i64 (56 - 8 * (j:Int)))),(8,.r (.int .u64 u)),(15,.r (.int .i64 i)),(14,.r (.int .i64 l.length)),(13,.ro t 3 (l.map eV)),(4,.s 0 0 (b.length+1+j))],[(0,.lst 5 1 ((b++2::(LH u).take j).map AC))],1⟩) (fun j=>j≤8) (fun j=>8 - j) 0 ?_ ?_ ?_
    ·simp
    ·(refine AJ hE [3] rfl ?_ ?_<;>simp[Ai,AY,lk,ren,renL,AA,AU,AC,DG]<;>(try omega))
    intro j hj
    have hz:((LH u).take j).length=j:=by rw[aS,DI];omega
    by_cases h8:j<8
    ·have d2:decide ((56 - 8 * (j:Int))≥0)=true:=aE (by omega)
     have c1:((56 - 8 * (j:Int))<0)=False:=bH (by omega);have hsb:=VE u j h8;obtain⟨x,hxj⟩: ∃x,x=UInt8.ofNat (u / 2 ^ (56 - 8 * j) % 256):=⟨_,rfl⟩;rw[<-hxj] at hsb
     have htk:(LH u).take (j+1)=(LH u).take j++[x]:=by rw[aV,P4 u j h8,hxj];rfl
     have htA:List.take (b.length+1+j) (List.map AC b++[AV.r (.int .u8 2)]::List.take j (List.map AC (LH u)))=List.map AC b++[AV.r (.int .u8 2)]::List.take j (List.map AC (LH u)):=aN (by simp only[List.length_append,List.length_cons,List.length_map,aS,DI];omega);(repeat' (first |refine A0 ?_ |refine A4 ?_ |refine A3 ?_ |((refine sR (fun K kp=>?_));simp(disch:=omega) only[go_sem,d2,c1,hsb];(repeat' (first |(refine K _ ?_;clear K kp) |(with_reducible refine And.intro ?_ ?_) |omega))) |refine A2 rfl ?_));(refine BF (j+1) ?_ ?_;rotate_left;(·(refine AJ hE [2] rfl ?_ ?_<;>simp[Ai,AY,lk,ren,renL,AA,AU,AC,htk,htA]<;>(try omega))));omega
    ·obtain rfl:j=8:=by omega
     (repeat' (first |refine A0 ?_ |refine A7 ?_ |((refine sR (fun K kp=>?_));simp(disch:=omega) only[go_sem];(repeat' (refine K _ ?_;clear K kp))) |refine A1 rfl ?_));(refine BF ((i+1,b++2::LH u)) ?_ ?_;rotate_left;(·(refine AJ hE [0] rfl ?_ ?_<;>simp[Ai,AY,lk,ren,renL,AA,AU,P5,DI]<;>(try omega))));exact⟨by omega,by simp only[List.length_append,List.length_cons,DI];omega,hno⟩
   ·have hW:CL v=3::(JC v.s.data.toList++[0,0]):=by rw[CL,hk];rfl
    rw[hW] at hno hlen;have rc:=HR v.s (by omega);simp only[List.length_append,List.length_cons,List.length_nil] at hlen;(repeat' (first |refine A0 ?_ |refine A4 ?_ |refine A3 ?_ |((first |refine sR (fun K kp=>?_) |refine cR vc ?_ |refine cR rc ?_);simp(disch:=omega) only[go_sem,hx,eV,hk];(repeat' (first |(refine K _ ?_;clear K kp) |(with_reducible refine And.intro ?_ ?_) |omega))) |refine A2 rfl ?_ |refine A1 rfl ?_ |((refine A6 rfl (fun h=>?_) (fun h=>?_)<;>try simp only[Af] at h)<;>(try (exfalso;omega)))))
    ((refine Dl ((i+1,b++3::(JC v.s.data.toList++[0,0]))) ?_ ?_ ?_);rotate_left;(·(try dsimp only);(omega));(·(refine AJ hE [6] rfl ?_ ?_<;>simp[Ai,AY,lk,ren,renL,AA,AU,AC,DG]<;>(try omega))))
    exact⟨by omega,by simp only[List.length_append,List.length_cons,List.length_nil];omega,hno⟩
  ·have hv0:(AW v.k v.n v.s !=0)=true:=by simpa using hv
   have hM:EF l= .error (AW v.k v.n v.s):=by
    rw[EF,if_neg h6,<-hno,Am hx,CF,if_pos hv]
   rw[hM];simp only[FW];(repeat' (first |refine A0 ?_ |refine A4 ?_ |refine A3 ?_ |((first |refine sR (fun K kp=>?_) |refine cR vc ?_);simp(disch:=omega) only[go_sem,hx,eV,hv0];(repeat' (refine K _ ?_;clear K kp))) |refine A2 rfl ?_ |((refine A6 rfl (fun h=>?_) (fun h=>?_)<;>try simp only[Af] at h)<;>(try (exfalso;omega))) |refine A5 ?_));(refine rJ results19 ?_;exact eQ hE)
 ·rw[aR (by omega),CF] at hno
  by_cases h100:100<b.length
  ·have d2:decide ((b.length:Int)>100)=true:=aE (by omega)
   have hM:EF l= .error 5:=by rw[EF,if_neg h6,<-hno];simp only;rw[if_pos h100]
   rw[hM];simp only[FW];(repeat' (first |refine A0 ?_ |refine A7 ?_ |((refine sR (fun K kp=>?_));simp(disch:=omega) only[go_sem,d2];(repeat' (refine K _ ?_;clear K kp))) |refine A2 rfl ?_ |((refine A6 rfl (fun h=>?_) (fun h=>?_)<;>try simp only[Af] at h)<;>(try (exfalso;omega))) |refine A5 ?_));(refine rJ results19 ?_;exact eQ hE)
  ·have d2:decide ((b.length:Int)>100)=false:=aC (by omega)
   have hM:EF l= .ok b:=by rw[EF,if_neg h6,<-hno];simp only;rw[if_neg h100]
   rw[hM];simp only[FW];(repeat' (first |refine A0 ?_ |refine A3 ?_ |refine A7 ?_ |((refine sR (fun K kp=>?_));simp(disch:=omega) only[go_sem,d2];(repeat' (refine K _ ?_;clear K kp))) |refine A1 rfl ?_ |((refine A6 rfl (fun h=>?_) (fun h=>?_)<;>try simp only[Af] at h)<;>(try (exfalso;omega))) |refine A5 ?_));(refine rJ results19 ?_;refine AG (by simp only[A8];simp(disch:=omega) only[go_sem];rfl) ?_;refine(AE hE (by simp) ?_).s;simp[A8,ren,renL])
theorem Vj {G:GL}(HR:Ch G)(t:Bool)(r:List V)(b:Ky)(hl:r.length≤1048576)(h1:1≤r.length)(hg: ∀v ∈ r,gV v)(he:EF (r.take 1)= .ok b):
  Con prog G 75 [.ro t 3 (r.map eV)] [] 0 (Is (.ro true 1 (b.map AC)) [] 0) No:=by
 have ec:=GJ HR t (r.take 1) (by rw[aS];omega) (fun v hv=>hg v (cB hv));rw[he,FW,List.map_take] at ec;have z1:((1:Int)≤(r.length:Int))=True:=aK (by omega);refine cJ func75 fun E hG hE=>?_;subst hG;simp only[AX];(repeat' (first |refine A0 ?_ |((first |refine sR (fun K kp=>?_) |refine cR ec ?_);simp(disch:=omega) only[go_sem,z1];(repeat' (refine K _ ?_;clear K kp))) |refine A5 ?_));(refine rJ results75 ?_;exact eQ hE)
theorem QA (G:GL)(t:Bool)(r:List V)(b:Ky)(hl:r.length≤1048576)(h1:1≤r.length)(hg: ∀v ∈ r,gV v)(he:EF (r.take 1)= .ok b):
  Con prog G 31 [.ro t 3 (r.map eV)] [] 0 (Is (.ro true 1 (b.map AC)) [] 0) No:=by
 have ec:=GA G t (r.take 1) (by rw[aS];omega) (fun v hv=>hg v (cB hv));rw[he,FW,List.map_take] at ec;have z1:((1:Int)≤(r.length:Int))=True:=aK (by omega);refine cJ func31 fun E hG hE=>?_;subst hG;simp only[AX];(repeat' (first |refine A0 ?_ |((first |refine sR (fun K kp=>?_) |refine cR ec ?_);simp(disch:=omega) only[go_sem,z1];(repeat' (refine K _ ?_;clear K kp))) |refine A5 ?_));(refine rJ results31 ?_;exact eQ hE)
theorem TU {G:GL}(T:Tabs G)(HR:Ch G)(b:TB)(ho:okTB b):Con prog G 40 [.agg (Ad b)] [] 0 (Is (.r (.bool (LU b))) [] 0) No:=by
 have nc:=C_ T b.nm ho.nm;have cc:=Ea T true b.cols ho.cl ho.cs;have kc:=Dx G b.ps b.root (G3 ho.ps);have hrl:=ho.rl;rw[LU];refine cJ func40 fun E hG hE=>?_;subst hG;simp only[AX]
 by_cases h1:AH b.nm=0
 rotate_left
 ·have z1:(AH b.nm !=0)=true:=by simp[h1]
  rw[aC h1];(repeat' (first |refine A0 ?_ |((first |refine sR (fun K kp=>?_) |refine cR nc ?_);simp(disch:=omega) only[go_sem,z1,Ad];(repeat' (refine K _ ?_;clear K kp))) |refine A2 rfl ?_ |refine A5 ?_));(refine rJ results40 ?_;exact eQ hE)
 have z1:(AH b.nm !=0)=false:=by simp[h1]
 by_cases h2:Ag b.cols=0
 rotate_left
 ·have z2:(Ag b.cols !=0)=true:=by simp[h2]
  rw[aE h1,aC h2];(repeat' (first |refine A0 ?_ |((first |refine sR (fun K kp=>?_) |refine cR nc ?_ |refine cR cc ?_);simp(disch:=omega) only[go_sem,z1,z2,Ad];(repeat' (refine K _ ?_;clear K kp))) |refine A2 rfl ?_ |refine A5 ?_));(refine rJ results40 ?_;exact eQ hE)
 have z2:(Ag b.cols !=0)=false:=by simp[h2]
 by_cases h3:b.rows.length≤40
 rotate_left
 ·have z3:((b.rows.length:Int)>40)=True:=aK (by omega)
  rw[aE h1,aE h2,aC h3];(repeat' (first |refine A0 ?_ |((first |refine sR (fun K kp=>?_) |refine cR nc ?_ |refine cR cc ?_);simp(disch:=omega) only[go_sem,z1,z2,z3,Ad];(repeat' (refine K _ ?_;clear K kp))) |refine A2 rfl ?_ |refine A5 ?_));(refine rJ results40 ?_;exact eQ hE)
 have z3:((b.rows.length:Int)>40)=False:=bH (by omega)
 by_cases h4:Dj b.ps b.root=0
 rotate_left
 ·have z4:(Dj b.ps b.root !=0)=true:=by simp[h4]
  rw[aE h1,aE h2,aE h3,aC h4];(repeat' (first |refine A0 ?_ |((first |refine sR (fun K kp=>?_) |refine cR nc ?_ |refine cR cc ?_ |refine cR kc ?_);simp(disch:=omega) only[go_sem,z1,z2,z3,z4,Ad];(repeat' (refine K _ ?_;clear K kp))) |refine A2 rfl ?_ |refine A5 ?_));(refine rJ results40 ?_;exact eQ hE)
 have z4:(Dj b.ps b.root !=0)=false:=by simp[h4]
 rw[aE h1,aE h2,aE h3,aE h4];obtain⟨R,hR⟩: ∃R,(FL (AT b.ps b.root) b.cols 0 b.rows&&decide (C7 b.rows=(AT b.ps b.root).length))=R:=⟨_,rfl⟩;simp only[Bool.true_and,hR];obtain⟨r0,d0,hr0,hT⟩:=Qc h4
 have hEn:AT b.ps b.root=BG b.ps d0 r0:=by rw[hr0,BJ hT]
 have hEl:(AT b.ps b.root).length≤16000:=by
  have:=Ej hT.ok (Cj b.ps d0 [r0]);have:=hT.many;rw[hEn,BG];omega
 have sc:=Pf E.G true b.ps b.root [] [] ho.ps (AT b.ps b.root) (fun _ r d e h=>by rw[Tc,e,BJ h])
 have hask:NK b.ps b.root [] []=0:=by rw[NK,if_neg (by simpa using h4),if_pos ⟨aU _,aU _⟩]
 rw[hask,Sc,if_pos rfl] at sc;have sc:=sc.weak (xs:=[.agg [.ro true 5 (b.ps.map eP),.r (.int .i64 b.root)],.r (.slice none 0 0),.r (.slice none 0 0)]) (by simp[Gb,wk]);(repeat' (first |refine A0 ?_ |refine A4 ?_ |refine A3 ?_ |((first |refine sR (fun K kp=>?_) |refine cR nc ?_ |refine cR cc ?_ |refine cR kc ?_);simp(disch:=omega) only[go_sem,z1,z2,z3,z4,Ad];(repeat' (refine K _ ?_;clear K kp))) |refine A1 rfl ?_));clear nc cc kc z1 z2 z3 z4 h1 h2;refine AB (fun k:Nat=>⟨[(35,.r (.int .i64 k)),(34,.r (.int .i64 b.rows.length)),(33,.ro true 1 (b.rows.map LG)),(3,.r (.int .i64 (C7 (b.rows.take k):Nat))),(1,.p 0 0 0)],[(0,.box 45 (Ad b))],1⟩) (fun k=>k≤b.rows.length/\(FL (AT b.ps b.root) b.cols k (b.rows.drop k)&&decide (C7 b.rows=(AT b.ps b.root).length))=R) (fun k=>b.rows.length - k) 0 ?_ ?_ ?_
 ·exact⟨aU _,hR⟩
 ·(refine AJ hE [0] rfl ?_ ?_<;>simp[Ai,AY,lk,ren,renL,AA,AU,Ad,C7]<;>(try omega))
 rintro k ⟨hk,hno⟩;have hm:=Iz (b.rows.take k)
 have hm2:(b.rows.take k).length≤k:=by rw[aS];omega
 by_cases hlt:k<b.rows.length
 ·have zk:((k:Int)<(b.rows.length:Int))=True:=aK (by omega)
  obtain⟨x,hx⟩: ∃x,b.rows[k]?=some x:=⟨_,aI hlt⟩;have hmt:=M4 hx;rw[Lk hx] at hno
  by_cases hx0:x.length=0
  ·have zx:((x.length:Int)==0)=true:=by simp[hx0]
   rw[if_pos hx0] at hno hmt;(repeat' (first |refine A0 ?_ |refine A4 ?_ |refine A3 ?_ |refine A7 ?_ |((refine sR (fun K kp=>?_));simp(disch:=omega) only[go_sem,zk,hx,Ad,LG,zx];(repeat' (refine K _ ?_;clear K kp))) |refine A2 rfl ?_));(refine BF (k+1) ?_ ?_;rotate_left;(·(refine AJ hE [0] rfl ?_ ?_<;>simp[Ai,AY,lk,ren,renL,AA,AU,Ad,hmt]<;>(try omega))));exact⟨by omega,hno⟩
  ·have zx:((x.length:Int)==0)=false:=by rw[aT];omega
   rw[if_neg hx0] at hno hmt;obtain⟨ho1,ho2⟩:=ho.rs x (aB hx);have rc:=KX T b.cols x ho.cl ho1 ho.cs (fun v hv=>(ho2 v hv).1)
   have e1:((C7 (b.rows.take k):Nat):Int)+1=((C7 (b.rows.take k)+1:Nat):Int):=by omega
   by_cases hr:Bb b.cols x=0
   ·obtain⟨v,s,hvs,he,hkb⟩:=LA hr
    have key:=Vj HR true x (Cg x) ho1 (by omega) ho2 he;obtain⟨R2,hR2⟩:=Rs b.ps b.root (Cg x);have fc:=UP E.G true b.ps b.root (Cg x) ho.ps R2 fun _ r d e h=>(hR2 r d e h).1;have ha:=Xx h4 hkb
    have hf:R2=H1 (AT b.ps b.root) (Cg x):=by rw[(hR2 r0 d0 hr0 hT).2,hEn]
    rw[W0,ha] at fc;simp only[ne_eq,not_true_eq_false,if_false] at fc
    have zr:(Bb b.cols x !=0)=false:=by simp[hr]
    obtain⟨f1,f2⟩:=R2
    by_cases hg:f2=0/\f1=(k:Int)
    ·have g1:(f2 !=0)=false:=by simp[hg.1]
     have g2:(f1 !=(k:Int))=false:=by simp[hg.2]
     have hG:Kj (AT b.ps b.root) b.cols k x=true:=by rw[Kj,aE hr,<-hf,hg.1,hg.2];simp
     rw[hG,if_pos rfl] at hno;(repeat' (first |refine A0 ?_ |refine A4 ?_ |refine A3 ?_ |((first |refine sR (fun K kp=>?_) |refine sI (id:=11) mixed 10 (fun K kp=>?_) |refine cR rc ?_ |refine cD key ?_ |refine cD fc ?_);simp(disch:=omega) only[go_sem,zk,hx,Ad,LG,zx,zr,e1,g1,g2];(repeat' (refine K _ ?_;clear K kp))) |refine A2 rfl ?_ |refine A1 rfl ?_));(refine BF (k+1) ?_ ?_;rotate_left;(·(refine AJ hE [0] rfl ?_ ?_<;>simp[Ai,AY,lk,ren,renL,AA,AU,Ad,hmt]<;>(try omega))));exact⟨by omega,hno⟩
    ·have hG:Kj (AT b.ps b.root) b.cols k x=false:=by
      rw[Kj,<-hf,eG]
      right
      rw[decide_eq_false_iff_not];intro e
      injection e with e1 e2
      exact hg ⟨e2,e1⟩
     rw[hG] at hno
     have hno:false=R:=by simpa using hno
     rw[<-hno]
     by_cases g1':f2=0
     ·have g1:(f2 !=0)=false:=by simp[g1']
      have g2:(f1 !=(k:Int))=true:=by rw[bne_iff_ne];exact fun e=>hg ⟨g1',e⟩
      (repeat' (first |refine A0 ?_ |refine A4 ?_ |refine A3 ?_ |((first |refine sR (fun K kp=>?_) |refine sI (id:=11) mixed 10 (fun K kp=>?_) |refine cR rc ?_ |refine cD key ?_ |refine cD fc ?_);simp(disch:=omega) only[go_sem,zk,hx,Ad,LG,zx,zr,e1,g1,g2];(repeat' (refine K _ ?_;clear K kp))) |refine A2 rfl ?_ |refine A1 rfl ?_ |refine A5 ?_));(refine rJ results40 ?_;exact eQ hE)
     ·have g1:(f2 !=0)=true:=by rw[bne_iff_ne];exact g1'
      (repeat' (first |refine A0 ?_ |refine A4 ?_ |refine A3 ?_ |((first |refine sR (fun K kp=>?_) |refine sI (id:=11) mixed 10 (fun K kp=>?_) |refine cR rc ?_ |refine cD key ?_ |refine cD fc ?_);simp(disch:=omega) only[go_sem,zk,hx,Ad,LG,zx,zr,e1,g1];(repeat' (refine K _ ?_;clear K kp))) |refine A2 rfl ?_ |refine A1 rfl ?_ |refine A5 ?_));(refine rJ results40 ?_;exact eQ hE)
   ·have zr:(Bb b.cols x !=0)=true:=by simp[hr]
    have hG:Kj (AT b.ps b.root) b.cols k x=false:=by rw[Kj,aC hr];rfl
    rw[hG] at hno
    have hno:false=R:=by simpa using hno
    rw[<-hno];(repeat' (first |refine A0 ?_ |refine A4 ?_ |refine A3 ?_ |((first |refine sR (fun K kp=>?_) |refine cR rc ?_);simp(disch:=omega) only[go_sem,zk,hx,Ad,LG,zx,zr,e1];(repeat' (refine K _ ?_;clear K kp))) |refine A2 rfl ?_ |refine A1 rfl ?_ |refine A5 ?_));(refine rJ results40 ?_;exact eQ hE)
 ·obtain rfl:k=b.rows.length:=by omega
  have hno:decide (C7 b.rows=(AT b.ps b.root).length)=R:=by
   rw[<-hno,cS,FL];simp
  have hq:(((AT b.ps b.root).length:Int)==((C7 b.rows:Nat):Int))=R:=by
   rw[<-hno,cQ,cY,aP];omega
  rw[bZ];(repeat' (first |refine A0 ?_ |refine A7 ?_ |((first |refine sR (fun K kp=>?_) |refine cR sc ?_);simp(disch:=omega) only[go_sem,Ad,hq];(repeat' (refine K _ ?_;clear K kp))) |((refine A6 rfl (fun h=>?_) (fun h=>?_)<;>try simp only[Af] at h)<;>(try (exfalso;omega))) |refine A5 ?_));(refine rJ results40 ?_;refine eN hE ?_;simp[A8,ren,renL,hq])
theorem CJ (G:GL)(t:Bool)(l:List TB)(g:Nat)(caps:List AV)(p:TB->Bool)(hl:l.length≤1048576)(hcap: ∀st,C0 st caps=some caps)(hren: ∀f,renL f caps=caps)(hf: ∀G x,Con prog G g (.agg (Ad x)::caps) [] 0 (Is (.r (.bool (p x))) [] 0) No):
  Con prog G 14 [.ro t 5 (l.map Ad),.fn g caps] [] 0 (Is (.r (.int .i64 (B9 p l 0))) [] 0) No:=by
 refine cJ func14 fun E hG hE=>?_;subst hG;simp only[AX];(repeat' (first |refine A0 ?_ |refine A4 ?_ |((refine sR (fun K kp=>?_));simp(disch:=omega) only[go_sem];(repeat' (refine K _ ?_;clear K kp)))));refine AB (fun k:Nat=>⟨[(8,.r (.int .i64 k)),(7,.r (.int .i64 l.length)),(0,.ro t 5 (l.map Ad)),(1,.fn g caps)],[],0⟩) (fun k=>k≤l.length/\B9 p (l.drop k) k=B9 p l 0) (fun k=>l.length - k) 0 ?_ ?_ ?_
 ·simp
 ·(refine AJ hE [] rfl ?_ ?_<;>simp[Ai,AY,lk,ren,renL,AA,AU,hren]<;>(try omega))
 intro k ⟨hk,hno⟩
 by_cases hk':k<l.length
 ·obtain⟨x,hx⟩: ∃x,l[k]?=some x:=⟨l[k],by simp[hk']⟩
  have hd:=Am hx;rw[hd,B9] at hno;have hfx:=hf E.G x;simp only[Ad] at hfx;(repeat' (first |refine A0 ?_ |refine A4 ?_ |refine A3 ?_ |((first |refine sR (fun K kp=>?_) |refine cR hfx ?_);simp(disch:=omega) only[go_sem,hx,Ad,hcap];(repeat' (refine K _ ?_;clear K kp))) |((refine A6 rfl (fun h=>?_) (fun h=>?_)<;>try simp only[Af] at h)<;>(try (exfalso;omega))) |refine A5 ?_))
  ·(refine rJ results14 ?_;refine eN hE ?_;simp[A8,ren,renL])
   rw[<-hno,if_pos h]
  ·(refine BF (k+1) ?_ ?_;rotate_left;(·(refine AJ hE [] rfl ?_ ?_<;>simp[Ai,AY,lk,ren,renL,AA,AU,hren]<;>(try omega))))
   exact⟨by omega,by rw[<-hno,if_neg (by simp[h])]⟩
 ·(repeat' (first |refine A0 ?_ |refine A7 ?_ |((refine sR (fun K kp=>?_));simp(disch:=omega) only[go_sem];(repeat' (refine K _ ?_;clear K kp))) |((refine A6 rfl (fun h=>?_) (fun h=>?_)<;>try simp only[Af] at h)<;>(try (exfalso;omega))) |refine A5 ?_))
  (refine rJ results14 ?_;refine eN hE ?_;simp[A8,ren,renL]);rw[<-hno,aR (by omega)];rfl
def Bq (s:ByteArray)(x:TB):Bool:=x.nm.toList==s.toList
theorem Rt (u:Bool)(s:ByteArray)(G:GL)(x:TB):Con prog G 76 [.agg (Ad x),.re u [.r (.string s)] 0] [] 0 (Is (.r (.bool (Bq s x))) [] 0) No:=by
 refine cJ func76 fun E hG hE=>?_;subst hG;simp only[AX];(repeat' (first |refine A0 ?_ |((refine sR (fun K kp=>?_));simp(disch:=omega) only[go_sem,Ad];(repeat' (refine K _ ?_;clear K kp))) |refine A5 ?_));(refine rJ results76 ?_;refine eN hE ?_;simp[A8,ren,renL,Bq])
theorem UO (G:GL)(t:Bool)(l:List TB)(s:ByteArray)(hl:l.length≤1048576):Con prog G 41 [.ro t 5 (l.map Ad),.r (.string s)] [] 0 (Is (.r (.int .i64 (B9 (Bq s) l 0))) [] 0) No:=by
 have ic:=CJ G t l 76 [.re false [.r (.string s)] 0] (Bq s) hl (fun st=>by simp[C0,FE]) (fun f=>by simp[renL,ren]) (fun G x=>Rt false s G x);refine cJ func41 fun E hG hE=>?_;subst hG;simp only[AX];(repeat' (first |refine A0 ?_ |((first |refine sR (fun K kp=>?_) |refine cR ic ?_);simp(disch:=omega) only[go_sem];(repeat' (refine K _ ?_;clear K kp))) |refine A5 ?_));(refine rJ results41 ?_;exact eQ hE)
theorem Co (G:GL)(t:Bool)(l:List TB)(s:ByteArray)(hl:l.length≤1048576):Con prog G 29 [.ro t 5 (l.map Ad),.r (.string s)] [] 0 (Is (.r (.int .i64 (B9 (Bq s) l 0))) [] 0) No:=by
 refine cJ func29 fun E hG hE=>?_;subst hG;simp only[AX];(repeat' (first |refine A0 ?_ |refine A4 ?_ |((refine sR (fun K kp=>?_));simp(disch:=omega) only[go_sem];(repeat' (refine K _ ?_;clear K kp)))));refine AB (fun k:Nat=>⟨[(5,.r (.int .i64 k)),(0,.ro t 5 (l.map Ad)),(1,.r (.string s))],[],0⟩) (fun k=>k≤l.length/\B9 (Bq s) (l.drop k) k=B9 (Bq s) l 0) (fun k=>l.length - k) 0 ?_ ?_ ?_
 ·simp
 ·(exact iK hE [])
 intro k ⟨hk,hno⟩
 by_cases hk':k<l.length
 ·have zk:((k:Int)<(l.length:Int))=True:=aK (by omega)
  obtain⟨x,hx⟩: ∃x,l[k]?=some x:=⟨l[k],by simp[hk']⟩;rw[Am hx,B9] at hno;cases hs:Bq s x
  ·rw[if_neg (by simp[hs])] at hno
   have hs':(x.nm.toList==s.toList)=false:=hs;(repeat' (first |refine A0 ?_ |refine A4 ?_ |refine A3 ?_ |((refine sR (fun K kp=>?_));simp(disch:=omega) only[go_sem,zk,hx,Ad,hs'];(repeat' (refine K _ ?_;clear K kp))) |refine A2 rfl ?_ |refine A1 rfl ?_));(refine BF (k+1) ?_ (iK hE []));exact⟨by omega,hno⟩
  ·rw[if_pos hs] at hno
   have hs':(x.nm.toList==s.toList)=true:=hs;(repeat' (first |refine A0 ?_ |refine A4 ?_ |refine A3 ?_ |((refine sR (fun K kp=>?_));simp(disch:=omega) only[go_sem,zk,hx,Ad,hs'];(repeat' (refine K _ ?_;clear K kp))) |refine A2 rfl ?_ |refine A5 ?_));(refine rJ results29 ?_;refine eN hE ?_;simp[A8,ren,renL]);exact hno
 ·have zk:((k:Int)<(l.length:Int))=False:=bH (by omega)
  (repeat' (first |refine A0 ?_ |refine A7 ?_ |((refine sR (fun K kp=>?_));simp(disch:=omega) only[go_sem,zk];(repeat' (refine K _ ?_;clear K kp))) |refine A1 rfl ?_ |refine A5 ?_));(refine rJ results29 ?_;refine eN hE ?_;simp[A8,ren,renL]);rw[<-hno,aR (by omega)];rfl
theorem I8 {l:List TB}{k:Nat}{t:TB}(h:l[k]?=some t):Bv (l.take k) (l.drop k)=if LU t=false then 11 else if (l.take k).any (Bq t.nm) then 11 else Bv (l.take (k+1)) (l.drop (k+1)):=by
 rw[Am h,Bv,aV,h];rfl
theorem CW {G:GL}(T:Tabs G)(HR:Ch G)(l:List TB)(ho:RO l):Con prog G 11 [.agg [.ro true 5 (l.map Ad)]] [] 0 (Is (.r (.int .i64 (B1 l))) [] 0) No:=by
 rw[B1];refine cJ func11 fun E hG hE=>?_;subst hG;simp only[AX]
 by_cases h4:4<l.length
 ·have z4:((l.length:Int)>4)=True:=aK (by omega)
  rw[if_pos h4];(repeat' (first |refine A0 ?_ |((refine sR (fun K kp=>?_));simp(disch:=omega) only[go_sem,z4];(repeat' (refine K _ ?_;clear K kp))) |refine A2 rfl ?_ |refine A5 ?_));(refine rJ results11 ?_;exact eQ hE)
 have z4:((l.length:Int)>4)=False:=bH (by omega);rw[if_neg h4];obtain⟨R,hR⟩: ∃R,Bv [] l=R:=⟨_,rfl⟩;rw[hR];(repeat' (first |refine A0 ?_ |refine A4 ?_ |refine A3 ?_ |((refine sR (fun K kp=>?_));simp(disch:=omega) only[go_sem,z4];(repeat' (refine K _ ?_;clear K kp))) |refine A1 rfl ?_));refine AB (fun k:Nat=>⟨[(12,.r (.int .i64 k)),(11,.r (.int .i64 l.length)),(10,.ro true 5 (l.map Ad)),(1,.p 0 0 0)],[(0,.box 24 [.ro true 5 (l.map Ad)])],1⟩) (fun k=>k≤l.length/\Bv (l.take k) (l.drop k)=R) (fun k=>l.length - k) 0 ?_ ?_ ?_
 ·exact⟨aU _,hR⟩
 ·(exact iK hE [0])
 rintro k ⟨hk,hno⟩
 by_cases hlt:k<l.length
 ·have zk:((k:Int)<(l.length:Int))=True:=aK (by omega)
  have zk2:((k:Int)≤(l.length:Int))=True:=aK (by omega);obtain⟨x,hx⟩: ∃x,l[k]?=some x:=⟨l[k],by simp[hlt]⟩;rw[I8 hx] at hno;have tc:=TU T HR x (ho.2 x (aB hx));simp only[Ad] at tc;have fc:=UO E.G true (l.take k) x.nm (by rw[aS];omega);have hany:=J6 (Bq x.nm) (l.take k) 0;rw[List.map_take] at fc;cases ht:LU x
  ·rw[if_pos ht] at hno
   rw[ht] at tc;rw[<-hno];(repeat' (first |refine A0 ?_ |refine A4 ?_ |refine A3 ?_ |((first |refine sR (fun K kp=>?_) |refine sI (id:=6) mixed 13 (fun K kp=>?_) |refine cD tc ?_);simp(disch:=omega) only[go_sem,zk,zk2,hx,Ad];(repeat' (refine K _ ?_;clear K kp))) |refine A2 rfl ?_ |refine A5 ?_));(refine rJ results11 ?_;exact eQ hE)
  ·rw[if_neg (by simp[ht])] at hno
   rw[ht] at tc;cases ha:(l.take k).any (Bq x.nm)
   ·rw[ha] at hno hany
    have hno:Bv (l.take (k+1)) (l.drop (k+1))=R:=by simpa using hno
    (repeat' (first |refine A0 ?_ |refine A4 ?_ |refine A3 ?_ |((first |refine sR (fun K kp=>?_) |refine sI (id:=6) mixed 13 (fun K kp=>?_) |refine cD tc ?_ |refine cD fc ?_);simp(disch:=omega) only[go_sem,zk,zk2,hx,Ad,hany];(repeat' (refine K _ ?_;clear K kp))) |refine A2 rfl ?_ |refine A1 rfl ?_));(refine BF (k+1) ?_ (iK hE [0]));exact⟨by omega,hno⟩
   ·rw[ha] at hno hany
    have hno:11=R:=by simpa using hno
    rw[<-hno];(repeat' (first |refine A0 ?_ |refine A4 ?_ |refine A3 ?_ |((first |refine sR (fun K kp=>?_) |refine sI (id:=6) mixed 13 (fun K kp=>?_) |refine cD tc ?_ |refine cD fc ?_);simp(disch:=omega) only[go_sem,zk,zk2,hx,Ad,hany];(repeat' (refine K _ ?_;clear K kp))) |refine A2 rfl ?_ |refine A5 ?_));(refine rJ results11 ?_;exact eQ hE)
 ·have zk:((k:Int)<(l.length:Int))=False:=bH (by omega)
  rw[aR (by omega),Bv] at hno;rw[<-hno];(repeat' (first |refine A0 ?_ |refine A7 ?_ |((refine sR (fun K kp=>?_));simp(disch:=omega) only[go_sem,zk];(repeat' (refine K _ ?_;clear K kp))) |refine A1 rfl ?_ |refine A5 ?_));(refine rJ results11 ?_;exact eQ hE)
theorem W_ {α:Type}{l:List α}{j:Nat}{x:α}(p:α->Bool)(h:l[j]?=some x):(l.take (j+1)).any p=((l.take j).any p||p x):=by
 rw[aV,h];simp
theorem LT (G:GL)(b:TB)(ho:okTB b):Con prog G 55 [.agg (Ad b)] [] 0 (Is (.r (.bool (!LU b))) [] 0) No:=by
 have nc:=CB G b.nm ho.nm;have cc:=E6 G b.cols ho.cl ho.cs;have kc:=N7 G true b.ps b.root (G3 ho.ps) ho.ps.1;rw[<-Xk] at kc;have hrl:=ho.rl;rw[LU];refine cJ func55 fun E hG hE=>?_;subst hG;simp only[AX]
 by_cases h1:AH b.nm=0
 rotate_left
 ·have z1:(AH b.nm !=0)=true:=by simp[h1]
  rw[aC h1];(repeat' (first |refine A0 ?_ |refine A4 ?_ |refine A3 ?_ |refine A7 ?_ |((first |refine sR (fun K kp=>?_) |refine sI (id:=10) mixed 9 (fun K kp=>?_) |refine cR nc ?_ |refine cD nc ?_ |refine iG ?_ |refine iD ?_);simp(disch:=omega) only[go_sem,z1,Ad];(repeat' (first |(refine K _ ?_;clear K kp) |(with_reducible refine And.intro ?_ ?_) |omega))) |((first |refine aG (fun h=>?_) (fun h=>?_) |refine aD (fun h=>?_) (fun h=>?_) |refine aX (fun h=>?_) (fun h=>?_))<;>simp only[h]) |refine A2 rfl ?_ |refine A1 rfl ?_ |((refine A6 rfl (fun h=>?_) (fun h=>?_)<;>try simp only[Af] at h)) |refine A5 ?_));(refine rJ results55 ?_;exact eQ hE)
 have z1:(AH b.nm !=0)=false:=by simp[h1]
 by_cases h2:Ag b.cols=0
 rotate_left
 ·have z2:(Ag b.cols !=0)=true:=by simp[h2]
  rw[aE h1,aC h2];(repeat' (first |refine A0 ?_ |refine A4 ?_ |refine A3 ?_ |refine A7 ?_ |((first |refine sR (fun K kp=>?_) |refine sI (id:=10) mixed 9 (fun K kp=>?_) |refine cR nc ?_ |refine cD nc ?_ |refine cR cc ?_ |refine cD cc ?_ |refine iG ?_ |refine iD ?_);simp(disch:=omega) only[go_sem,z1,z2,Ad];(repeat' (first |(refine K _ ?_;clear K kp) |(with_reducible refine And.intro ?_ ?_) |omega))) |((first |refine aG (fun h=>?_) (fun h=>?_) |refine aD (fun h=>?_) (fun h=>?_) |refine aX (fun h=>?_) (fun h=>?_))<;>simp only[h]) |refine A2 rfl ?_ |refine A1 rfl ?_ |((refine A6 rfl (fun h=>?_) (fun h=>?_)<;>try simp only[Af] at h)) |refine A5 ?_));(refine rJ results55 ?_;exact eQ hE)
 have z2:(Ag b.cols !=0)=false:=by simp[h2]
 by_cases h3:b.rows.length≤40
 rotate_left
 ·have z3:((b.rows.length:Int)>40)=True:=aK (by omega)
  rw[aE h1,aE h2,aC h3];(repeat' (first |refine A0 ?_ |refine A4 ?_ |refine A3 ?_ |refine A7 ?_ |((first |refine sR (fun K kp=>?_) |refine sI (id:=10) mixed 9 (fun K kp=>?_) |refine cR nc ?_ |refine cD nc ?_ |refine cR cc ?_ |refine cD cc ?_ |refine iG ?_ |refine iD ?_);simp(disch:=omega) only[go_sem,z1,z2,z3,Ad];(repeat' (first |(refine K _ ?_;clear K kp) |(with_reducible refine And.intro ?_ ?_) |omega))) |((first |refine aG (fun h=>?_) (fun h=>?_) |refine aD (fun h=>?_) (fun h=>?_) |refine aX (fun h=>?_) (fun h=>?_))<;>simp only[h]) |refine A2 rfl ?_ |refine A1 rfl ?_ |((refine A6 rfl (fun h=>?_) (fun h=>?_)<;>try simp only[Af] at h)) |refine A5 ?_));(refine rJ results55 ?_;exact eQ hE)
 have z3:((b.rows.length:Int)>40)=False:=bH (by omega)
 by_cases h4:Dj b.ps b.root=0
 rotate_left
 ·have z4:(Dj b.ps b.root !=0)=true:=by simp[h4]
  rw[aE h1,aE h2,aE h3,aC h4];(repeat' (first |refine A0 ?_ |refine A4 ?_ |refine A3 ?_ |refine A7 ?_ |((first |refine sR (fun K kp=>?_) |refine sI (id:=10) mixed 9 (fun K kp=>?_) |refine cR nc ?_ |refine cD nc ?_ |refine cR cc ?_ |refine cD cc ?_ |refine cR kc ?_ |refine cD kc ?_ |refine iG ?_ |refine iD ?_);simp(disch:=omega) only[go_sem,z1,z2,z3,z4,Ad];(repeat' (first |(refine K _ ?_;clear K kp) |(with_reducible refine And.intro ?_ ?_) |omega))) |((first |refine aG (fun h=>?_) (fun h=>?_) |refine aD (fun h=>?_) (fun h=>?_) |refine aX (fun h=>?_) (fun h=>?_))<;>simp only[h]) |refine A2 rfl ?_ |refine A1 rfl ?_ |((refine A6 rfl (fun h=>?_) (fun h=>?_)<;>try simp only[Af] at h)) |refine A5 ?_));(refine rJ results55 ?_;exact eQ hE)
 have z4:(Dj b.ps b.root !=0)=false:=by simp[h4]
 rw[aE h1,aE h2,aE h3,aE h4];obtain⟨R,hR⟩: ∃R,(FL (AT b.ps b.root) b.cols 0 b.rows&&decide (C7 b.rows=(AT b.ps b.root).length))=R:=⟨_,rfl⟩;simp only[Bool.true_and,hR];obtain⟨r0,d0,hr0,hT⟩:=Qc h4
 have hEn:AT b.ps b.root=BG b.ps d0 r0:=by rw[hr0,BJ hT]
 have hEl:(AT b.ps b.root).length≤16000:=by
  have:=Ej hT.ok (Cj b.ps d0 [r0]);have:=hT.many;rw[hEn,BG];omega
 have hsr:Qo (AT b.ps b.root):=by rw[hEn];exact H8 hT.ok d0 r0 [] [] hT.good
 have ec:=E5 E.G true hT ho.ps;rw[<-hEn,<-hr0] at ec;generalize AT b.ps b.root=en at *;(repeat' (first |refine A0 ?_ |refine A4 ?_ |refine A3 ?_ |refine A7 ?_ |((first |refine sR (fun K kp=>?_) |refine sI (id:=10) mixed 9 (fun K kp=>?_) |refine cR nc ?_ |refine cD nc ?_ |refine cR cc ?_ |refine cD cc ?_ |refine cR kc ?_ |refine cD kc ?_ |refine cR ec ?_ |refine cD ec ?_ |refine iG ?_ |refine iD ?_);simp(disch:=omega) only[go_sem,z1,z2,z3,z4,Ad];(repeat' (first |(refine K _ ?_;clear K kp) |(with_reducible refine And.intro ?_ ?_) |omega))) |((first |refine aG (fun h=>?_) (fun h=>?_) |refine aD (fun h=>?_) (fun h=>?_) |refine aX (fun h=>?_) (fun h=>?_))<;>simp only[h]) |refine A2 rfl ?_ |refine A1 rfl ?_ |((refine A6 rfl (fun h=>?_) (fun h=>?_)<;>try simp only[Af] at h)) |refine A5 ?_));clear nc cc kc z1 z2 z3 z4 h1 h2 ec hEn;refine AB (fun k:Nat=>⟨[(5,.r (.int .i64 k)),(4,.r (.int .i64 (C7 (b.rows.take k):Nat))),(3,.ro true 2 (en.map Cf)),(1,.p 0 0 0)],[(0,.box 45 (Ad b))],1⟩) (fun k=>k≤b.rows.length/\(FL en b.cols k (b.rows.drop k)&&decide (C7 b.rows=en.length))=R) (fun k=>b.rows.length - k) 0 ?_ ?_ ?_
 ·exact⟨aU _,hR⟩
 ·(refine AJ hE [0] rfl ?_ ?_<;>simp[Ai,AY,lk,ren,renL,AA,AU,Ad,C7]<;>(try omega))
 rintro k ⟨hk,hno⟩;have hm:=Iz (b.rows.take k)
 have hm2:(b.rows.take k).length≤k:=by rw[aS];omega
 by_cases hlt:k<b.rows.length
 ·have zk:((k:Int)<(b.rows.length:Int))=True:=aK (by omega)
  obtain⟨x,hx⟩: ∃x,b.rows[k]?=some x:=⟨_,aI hlt⟩;have hmt:=M4 hx;rw[Lk hx] at hno
  by_cases hx0:x.length=0
  ·have zx:((x.length:Int)==0)=true:=by simp[hx0]
   rw[if_pos hx0] at hno hmt;(repeat' (first |refine A0 ?_ |refine A4 ?_ |refine A3 ?_ |refine A7 ?_ |((first |refine sR (fun K kp=>?_) |refine sI (id:=10) mixed 9 (fun K kp=>?_) |refine iG ?_ |refine iD ?_);simp(disch:=omega) only[go_sem,zk,hx,Ad,LG,zx];(repeat' (first |(refine K _ ?_;clear K kp) |(with_reducible refine And.intro ?_ ?_) |omega))) |((first |refine aG (fun h=>?_) (fun h=>?_) |refine aD (fun h=>?_) (fun h=>?_) |refine aX (fun h=>?_) (fun h=>?_))<;>simp only[h]) |refine A2 rfl ?_ |refine A1 rfl ?_ |((refine A6 rfl (fun h=>?_) (fun h=>?_)<;>try simp only[Af] at h)) |refine A5 ?_))
   ((first |(refine Gp (k+1) ?_ ?_ ?_) |(refine Dl (k+1) ?_ ?_ ?_) |(refine nextE (k+1) ?_ ?_ ?_));rotate_left;(·(try dsimp only);(first |omega |(simp only[List.length_drop,List.length_cons,List.length_append];omega) |(simp;done) |(simp;omega)));(·(refine AJ hE [0] rfl ?_ ?_<;>simp[Ai,AY,lk,ren,renL,AA,AU,Ad,hmt]<;>(try omega))))
   exact⟨by omega,hno⟩
  ·have zx:((x.length:Int)==0)=false:=by rw[aT];omega
   rw[if_neg hx0] at hno hmt;obtain⟨ho1,ho2⟩:=ho.rs x (aB hx);have rc:=Ii (G:=E.G) b.cols x ho.cl ho1 ho.cs (fun v hv=>(ho2 v hv).1)
   have e1:((C7 (b.rows.take k):Nat):Int)+1=((C7 (b.rows.take k)+1:Nat):Int):=by omega
   by_cases hr:Bb b.cols x=0
   ·obtain⟨v,s,hvs,he,hkb⟩:=LA hr
    have key:=QA E.G true x (Cg x) ho1 (by omega) ho2 he;have hany:=Uj hsr (k:Int) (Cg x)
    have hG:Kj en b.cols k x=decide (H1 en (Cg x)=((k:Int),0)):=by rw[Kj,aE hr];rfl
    rw[hG,<-hany] at hno
    have zr:(Bb b.cols x !=0)=false:=by simp[hr]
    generalize Cg x=ky at *;clear hG hany he hkb hvs;(repeat' (first |refine A0 ?_ |refine A4 ?_ |refine A3 ?_ |refine A7 ?_ |((first |refine sR (fun K kp=>?_) |refine sI (id:=10) mixed 9 (fun K kp=>?_) |refine cR rc ?_ |refine cD rc ?_ |refine cR key ?_ |refine cD key ?_ |refine iG ?_ |refine iD ?_);simp(disch:=omega) only[go_sem,zk,hx,Ad,LG,zx,zr,e1];(repeat' (first |(refine K _ ?_;clear K kp) |(with_reducible refine And.intro ?_ ?_) |omega))) |((first |refine aG (fun h=>?_) (fun h=>?_) |refine aD (fun h=>?_) (fun h=>?_) |refine aX (fun h=>?_) (fun h=>?_))<;>simp only[h]) |refine A2 rfl ?_ |refine A1 rfl ?_ |((refine A6 rfl (fun h=>?_) (fun h=>?_)<;>try simp only[Af] at h)) |refine A5 ?_));refine AB (fun j:Nat=>⟨[(8,.r (.int .i64 j)),(7,.r (.bool ((en.take j).any fun e=>(e.2==(k:Int))&&(e.1==ky)))),(6,.ro true 1 (ky.map AC)),(5,.r (.int .i64 k)),(4,.r (.int .i64 (C7 (b.rows.take k)+1:Nat))),(3,.ro true 2 (en.map Cf)),(1,.p 0 0 0)],[(0,.box 45 (Ad b))],1⟩) (fun j=>j≤en.length) (fun j=>en.length - j) 0 ?_ ?_ ?_
    ·exact aU _
    ·(refine AJ hE [0] rfl ?_ ?_<;>simp[Ai,AY,lk,ren,renL,AA,AU,Ad]<;>(try omega))
    intro j hj
    by_cases hjl:j<en.length
    ·have zj:((j:Int)<(en.length:Int))=True:=aK (by omega)
     obtain⟨y,hy⟩: ∃y,en[j]?=some y:=⟨_,aI hjl⟩;have hat:=W_ (fun e:Et=>(e.2==(k:Int))&&(e.1==ky)) hy;have sk:=HP E.G true true y.1 ky
     cases ha:(en.take j).any fun e=>(e.2==(k:Int))&&(e.1==ky)
     ·rw[ha] at hat
      cases h1:(y.2==(k:Int))
      ·rw[h1] at hat
       (repeat' (first |refine A0 ?_ |refine A4 ?_ |refine A3 ?_ |refine A7 ?_ |((first |refine sR (fun K kp=>?_) |refine sI (id:=10) mixed 9 (fun K kp=>?_) |refine cR sk ?_ |refine cD sk ?_ |refine iG ?_ |refine iD ?_);simp(disch:=omega) only[go_sem,zj,hy,Cf,h1];(repeat' (first |(refine K _ ?_;clear K kp) |(with_reducible refine And.intro ?_ ?_) |omega))) |((first |refine aG (fun h=>?_) (fun h=>?_) |refine aD (fun h=>?_) (fun h=>?_) |refine aX (fun h=>?_) (fun h=>?_))<;>simp only[h]) |refine A2 rfl ?_ |refine A1 rfl ?_ |((refine A6 rfl (fun h=>?_) (fun h=>?_)<;>try simp only[Af] at h)) |refine A5 ?_))
       ((first |(refine Gp (j+1) ?_ ?_ ?_) |(refine Dl (j+1) ?_ ?_ ?_) |(refine nextE (j+1) ?_ ?_ ?_));rotate_left;(·(try dsimp only);(first |omega |(simp only[List.length_drop,List.length_cons,List.length_append];omega) |(simp;done) |(simp;omega)));(·(refine AJ hE [0] rfl ?_ ?_<;>simp[Ai,AY,lk,ren,renL,AA,AU,Ad,hat]<;>(try omega))))
       omega
      ·rw[h1] at hat
       (repeat' (first |refine A0 ?_ |refine A4 ?_ |refine A3 ?_ |refine A7 ?_ |((first |refine sR (fun K kp=>?_) |refine sI (id:=10) mixed 9 (fun K kp=>?_) |refine cR sk ?_ |refine cD sk ?_ |refine iG ?_ |refine iD ?_);simp(disch:=omega) only[go_sem,zj,hy,Cf,h1];(repeat' (first |(refine K _ ?_;clear K kp) |(with_reducible refine And.intro ?_ ?_) |omega))) |((first |refine aG (fun h=>?_) (fun h=>?_) |refine aD (fun h=>?_) (fun h=>?_) |refine aX (fun h=>?_) (fun h=>?_))<;>simp only[h]) |refine A2 rfl ?_ |refine A1 rfl ?_ |((refine A6 rfl (fun h=>?_) (fun h=>?_)<;>try simp only[Af] at h)) |refine A5 ?_))
       ((first |(refine Gp (j+1) ?_ ?_ ?_) |(refine Dl (j+1) ?_ ?_ ?_) |(refine nextE (j+1) ?_ ?_ ?_));rotate_left;(·(try dsimp only);(first |omega |(simp only[List.length_drop,List.length_cons,List.length_append];omega) |(simp;done) |(simp;omega)));(·(refine AJ hE [0] rfl ?_ ?_<;>simp[Ai,AY,lk,ren,renL,AA,AU,Ad,hat]<;>(try omega))))
       omega
     ·rw[ha] at hat
      (repeat' (first |refine A0 ?_ |refine A4 ?_ |refine A3 ?_ |refine A7 ?_ |((first |refine sR (fun K kp=>?_) |refine sI (id:=10) mixed 9 (fun K kp=>?_) |refine cR sk ?_ |refine cD sk ?_ |refine iG ?_ |refine iD ?_);simp(disch:=omega) only[go_sem,zj,hy,Cf];(repeat' (first |(refine K _ ?_;clear K kp) |(with_reducible refine And.intro ?_ ?_) |omega))) |((first |refine aG (fun h=>?_) (fun h=>?_) |refine aD (fun h=>?_) (fun h=>?_) |refine aX (fun h=>?_) (fun h=>?_))<;>simp only[h]) |refine A2 rfl ?_ |refine A1 rfl ?_ |((refine A6 rfl (fun h=>?_) (fun h=>?_)<;>try simp only[Af] at h)) |refine A5 ?_))
      ((first |(refine Gp (j+1) ?_ ?_ ?_) |(refine Dl (j+1) ?_ ?_ ?_) |(refine nextE (j+1) ?_ ?_ ?_));rotate_left;(·(try dsimp only);(first |omega |(simp only[List.length_drop,List.length_cons,List.length_append];omega) |(simp;done) |(simp;omega)));(·(refine AJ hE [0] rfl ?_ ?_<;>simp[Ai,AY,lk,ren,renL,AA,AU,Ad,hat]<;>(try omega))))
      omega
    ·have zj:((j:Int)<(en.length:Int))=False:=bH (by omega)
     obtain rfl:j=en.length:=by omega
     rw[bZ]
     cases ha:en.any fun e=>(e.2==(k:Int))&&(e.1==ky)
     ·rw[ha] at hno
      have hno:false=R:=by simpa using hno
      rw[<-hno];(repeat' (first |refine A0 ?_ |refine A4 ?_ |refine A3 ?_ |refine A7 ?_ |((first |refine sR (fun K kp=>?_) |refine sI (id:=10) mixed 9 (fun K kp=>?_) |refine iG ?_ |refine iD ?_);simp(disch:=omega) only[go_sem,zj];(repeat' (first |(refine K _ ?_;clear K kp) |(with_reducible refine And.intro ?_ ?_) |omega))) |((first |refine aG (fun h=>?_) (fun h=>?_) |refine aD (fun h=>?_) (fun h=>?_) |refine aX (fun h=>?_) (fun h=>?_))<;>simp only[h]) |refine A2 rfl ?_ |refine A1 rfl ?_ |((refine A6 rfl (fun h=>?_) (fun h=>?_)<;>try simp only[Af] at h)) |refine A5 ?_));(refine rJ results55 ?_;exact eQ hE)
     ·rw[ha,if_pos rfl] at hno
      (repeat' (first |refine A0 ?_ |refine A4 ?_ |refine A3 ?_ |refine A7 ?_ |((first |refine sR (fun K kp=>?_) |refine sI (id:=10) mixed 9 (fun K kp=>?_) |refine iG ?_ |refine iD ?_);simp(disch:=omega) only[go_sem,zj];(repeat' (first |(refine K _ ?_;clear K kp) |(with_reducible refine And.intro ?_ ?_) |omega))) |((first |refine aG (fun h=>?_) (fun h=>?_) |refine aD (fun h=>?_) (fun h=>?_) |refine aX (fun h=>?_) (fun h=>?_))<;>simp only[h]) |refine A2 rfl ?_ |refine A1 rfl ?_ |((refine A6 rfl (fun h=>?_) (fun h=>?_)<;>try simp only[Af] at h)) |refine A5 ?_))
      ((first |(refine Gp (k+1) ?_ ?_ ?_) |(refine Dl (k+1) ?_ ?_ ?_) |(refine nextE (k+1) ?_ ?_ ?_));rotate_left;(·(try dsimp only);(first |omega |(simp only[List.length_drop,List.length_cons,List.length_append];omega) |(simp;done) |(simp;omega)));(·(refine AJ hE [0] rfl ?_ ?_<;>simp[Ai,AY,lk,ren,renL,AA,AU,Ad,hmt]<;>(try omega))))
      exact⟨by omega,hno⟩
   ·have zr:(Bb b.cols x !=0)=true:=by simp[hr]
    have hG:Kj en b.cols k x=false:=by rw[Kj,aC hr];rfl
    rw[hG] at hno
    have hno:false=R:=by simpa using hno
    rw[<-hno];(repeat' (first |refine A0 ?_ |refine A4 ?_ |refine A3 ?_ |refine A7 ?_ |((first |refine sR (fun K kp=>?_) |refine sI (id:=10) mixed 9 (fun K kp=>?_) |refine cR rc ?_ |refine cD rc ?_ |refine iG ?_ |refine iD ?_);simp(disch:=omega) only[go_sem,zk,hx,Ad,LG,zx,zr,e1];(repeat' (first |(refine K _ ?_;clear K kp) |(with_reducible refine And.intro ?_ ?_) |omega))) |((first |refine aG (fun h=>?_) (fun h=>?_) |refine aD (fun h=>?_) (fun h=>?_) |refine aX (fun h=>?_) (fun h=>?_))<;>simp only[h]) |refine A2 rfl ?_ |refine A1 rfl ?_ |((refine A6 rfl (fun h=>?_) (fun h=>?_)<;>try simp only[Af] at h)) |refine A5 ?_));(refine rJ results55 ?_;exact eQ hE)
 ·have zk:((k:Int)<(b.rows.length:Int))=False:=bH (by omega)
  obtain rfl:k=b.rows.length:=by omega
  have hno:decide (C7 b.rows=en.length)=R:=by
   rw[<-hno,cS,FL];simp
  have hq:(((C7 b.rows:Nat):Int) !=(en.length:Int))= !R:=by
   rw[<-hno,cQ,bne_iff_ne,eH,decide_eq_false_iff_not];omega
  rw[bZ];(repeat' (first |refine A0 ?_ |refine A4 ?_ |refine A3 ?_ |refine A7 ?_ |((first |refine sR (fun K kp=>?_) |refine sI (id:=10) mixed 9 (fun K kp=>?_) |refine iG ?_ |refine iD ?_);simp(disch:=omega) only[go_sem,zk,Ad,hq];(repeat' (first |(refine K _ ?_;clear K kp) |(with_reducible refine And.intro ?_ ?_) |omega))) |((first |refine aG (fun h=>?_) (fun h=>?_) |refine aD (fun h=>?_) (fun h=>?_) |refine aX (fun h=>?_) (fun h=>?_))<;>simp only[h]) |refine A2 rfl ?_ |refine A1 rfl ?_ |((refine A6 rfl (fun h=>?_) (fun h=>?_)<;>try simp only[Af] at h)) |refine A5 ?_));(refine rJ results55 ?_;refine eN hE ?_;simp[A8,ren,renL,hq])
theorem BA (G:GL)(l:List TB)(ho:RO l):Con prog G 27 [.agg [.ro true 5 (l.map Ad)]] [] 0 (Is (.r (.int .i64 (B1 l))) [] 0) No:=by
 rw[B1];refine cJ func27 fun E hG hE=>?_;subst hG;simp only[AX]
 by_cases h4:4<l.length
 ·have z4:((l.length:Int)>4)=True:=aK (by omega)
  rw[if_pos h4];(repeat' (first |refine A0 ?_ |refine A4 ?_ |refine A3 ?_ |refine A7 ?_ |((first |refine sR (fun K kp=>?_) |refine sI (id:=6) mixed 20 (fun K kp=>?_) |refine iG ?_ |refine iD ?_);simp(disch:=omega) only[go_sem,z4];(repeat' (first |(refine K _ ?_;clear K kp) |(with_reducible refine And.intro ?_ ?_) |omega))) |((first |refine aG (fun h=>?_) (fun h=>?_) |refine aD (fun h=>?_) (fun h=>?_) |refine aX (fun h=>?_) (fun h=>?_))<;>simp only[h]) |refine A2 rfl ?_ |refine A1 rfl ?_ |((refine A6 rfl (fun h=>?_) (fun h=>?_)<;>try simp only[Af] at h)) |refine A5 ?_));(refine rJ results27 ?_;exact eQ hE)
 have z4:((l.length:Int)>4)=False:=bH (by omega);rw[if_neg h4];obtain⟨R,hR⟩: ∃R,Bv [] l=R:=⟨_,rfl⟩;rw[hR];(repeat' (first |refine A0 ?_ |refine A4 ?_ |refine A3 ?_ |refine A7 ?_ |((first |refine sR (fun K kp=>?_) |refine sI (id:=6) mixed 20 (fun K kp=>?_) |refine iG ?_ |refine iD ?_);simp(disch:=omega) only[go_sem,z4];(repeat' (first |(refine K _ ?_;clear K kp) |(with_reducible refine And.intro ?_ ?_) |omega))) |((first |refine aG (fun h=>?_) (fun h=>?_) |refine aD (fun h=>?_) (fun h=>?_) |refine aX (fun h=>?_) (fun h=>?_))<;>simp only[h]) |refine A2 rfl ?_ |refine A1 rfl ?_ |((refine A6 rfl (fun h=>?_) (fun h=>?_)<;>try simp only[Af] at h)) |refine A5 ?_));refine AB (fun k:Nat=>⟨[(3,.r (.int .i64 k)),(1,.p 0 0 0)],[(0,.box 24 [.ro true 5 (l.map Ad)])],1⟩) (fun k=>k≤l.length/\Bv (l.take k) (l.drop k)=R) (fun k=>l.length - k) 0 ?_ ?_ ?_
 ·exact⟨aU _,hR⟩
 ·(exact iK hE [0])
 rintro k ⟨hk,hno⟩
 by_cases hlt:k<l.length
 ·have zk:((k:Int)<(l.length:Int))=True:=aK (by omega)
  have zk2:((k:Int)≤(l.length:Int))=True:=aK (by omega);obtain⟨x,hx⟩: ∃x,l[k]?=some x:=⟨l[k],by simp[hlt]⟩;rw[I8 hx] at hno;have tc:=LT E.G x (ho.2 x (aB hx));simp only[Ad] at tc;have fc:=Co E.G true (l.take k) x.nm (by rw[aS];omega);have hany:=J6 (Bq x.nm) (l.take k) 0;rw[List.map_take] at fc;cases ht:LU x
  ·rw[if_pos ht] at hno
   rw[ht] at tc;rw[<-hno];(repeat' (first |refine A0 ?_ |refine A4 ?_ |refine A3 ?_ |refine A7 ?_ |((first |refine sR (fun K kp=>?_) |refine sI (id:=6) mixed 20 (fun K kp=>?_) |refine cR tc ?_ |refine cD tc ?_ |refine cR fc ?_ |refine cD fc ?_ |refine iG ?_ |refine iD ?_);simp(disch:=omega) only[go_sem,zk,zk2,hx,Ad];(repeat' (first |(refine K _ ?_;clear K kp) |(with_reducible refine And.intro ?_ ?_) |omega))) |((first |refine aG (fun h=>?_) (fun h=>?_) |refine aD (fun h=>?_) (fun h=>?_) |refine aX (fun h=>?_) (fun h=>?_))<;>simp only[h]) |refine A2 rfl ?_ |refine A1 rfl ?_ |((refine A6 rfl (fun h=>?_) (fun h=>?_)<;>try simp only[Af] at h)) |refine A5 ?_));(refine rJ results27 ?_;exact eQ hE)
  ·rw[if_neg (by simp[ht])] at hno
   rw[ht] at tc;cases ha:(l.take k).any (Bq x.nm)
   ·rw[ha] at hno hany
    have hno:Bv (l.take (k+1)) (l.drop (k+1))=R:=by simpa using hno
    (repeat' (first |refine A0 ?_ |refine A4 ?_ |refine A3 ?_ |refine A7 ?_ |((first |refine sR (fun K kp=>?_) |refine sI (id:=6) mixed 20 (fun K kp=>?_) |refine cR tc ?_ |refine cD tc ?_ |refine cR fc ?_ |refine cD fc ?_ |refine iG ?_ |refine iD ?_);simp(disch:=omega) only[go_sem,zk,zk2,hx,Ad,hany];(repeat' (first |(refine K _ ?_;clear K kp) |(with_reducible refine And.intro ?_ ?_) |omega))) |((first |refine aG (fun h=>?_) (fun h=>?_) |refine aD (fun h=>?_) (fun h=>?_) |refine aX (fun h=>?_) (fun h=>?_))<;>simp only[h]) |refine A2 rfl ?_ |refine A1 rfl ?_ |((refine A6 rfl (fun h=>?_) (fun h=>?_)<;>try simp only[Af] at h)) |refine A5 ?_))
    ((first |(refine Gp (k+1) ?_ ?_ ?_) |(refine Dl (k+1) ?_ ?_ ?_) |(refine nextE (k+1) ?_ ?_ ?_));rotate_left;(·(try dsimp only);(first |omega |(simp only[List.length_drop,List.length_cons,List.length_append];omega) |(simp;done) |(simp;omega)));(·(exact iK hE [0])))
    exact⟨by omega,hno⟩
   ·rw[ha] at hno hany
    have hno:11=R:=by simpa using hno
    rw[<-hno];(repeat' (first |refine A0 ?_ |refine A4 ?_ |refine A3 ?_ |refine A7 ?_ |((first |refine sR (fun K kp=>?_) |refine sI (id:=6) mixed 20 (fun K kp=>?_) |refine cR tc ?_ |refine cD tc ?_ |refine cR fc ?_ |refine cD fc ?_ |refine iG ?_ |refine iD ?_);simp(disch:=omega) only[go_sem,zk,zk2,hx,Ad,hany];(repeat' (first |(refine K _ ?_;clear K kp) |(with_reducible refine And.intro ?_ ?_) |omega))) |((first |refine aG (fun h=>?_) (fun h=>?_) |refine aD (fun h=>?_) (fun h=>?_) |refine aX (fun h=>?_) (fun h=>?_))<;>simp only[h]) |refine A2 rfl ?_ |refine A1 rfl ?_ |((refine A6 rfl (fun h=>?_) (fun h=>?_)<;>try simp only[Af] at h)) |refine A5 ?_));(refine rJ results27 ?_;exact eQ hE)
 ·have zk:((k:Int)<(l.length:Int))=False:=bH (by omega)
  rw[aR (by omega),Bv] at hno;rw[<-hno];(repeat' (first |refine A0 ?_ |refine A4 ?_ |refine A3 ?_ |refine A7 ?_ |((first |refine sR (fun K kp=>?_) |refine sI (id:=6) mixed 20 (fun K kp=>?_) |refine iG ?_ |refine iD ?_);simp(disch:=omega) only[go_sem,zk];(repeat' (first |(refine K _ ?_;clear K kp) |(with_reducible refine And.intro ?_ ?_) |omega))) |((first |refine aG (fun h=>?_) (fun h=>?_) |refine aD (fun h=>?_) (fun h=>?_) |refine aX (fun h=>?_) (fun h=>?_))<;>simp only[h]) |refine A2 rfl ?_ |refine A1 rfl ?_ |((refine A6 rfl (fun h=>?_) (fun h=>?_)<;>try simp only[Af] at h)) |refine A5 ?_));(refine rJ results27 ?_;exact eQ hE)
theorem Lb: ∀l:List V,EN l l=true
 | []=>rfl
 |x::r=>by rw[EN,Lb r];simp[NZ]
theorem Ki (G:GL)(t u:Bool)(a b:List V)(ha:a.length≤1048576)(hb:b.length≤1048576):Con prog G 119 [.ro t 3 (a.map eV),.ro u 3 (b.map eV)] [] 0 (Is (.r (.bool (EN a b))) [] 0) No:=by
 refine cJ func119 fun E hG hE=>?_;subst hG;simp only[AX];(repeat' (first |refine A0 ?_ |refine A4 ?_ |refine A3 ?_ |((refine sR (fun K kp=>?_));simp -implicitDefEqProofs (disch:=omega) only[go_sem];(repeat' (refine K _ ?_;clear K kp))) |((refine A6 rfl (fun h=>?_) (fun h=>?_)<;>try simp only[Af] at h)<;>(try (exfalso;omega))) |refine A5 ?_))
 ·(refine rJ results119 ?_;refine eN hE ?_;simp[A8,ren,renL])
  cases hs:EN a b
  ·rfl
  ·exact(h (by rw[La hs])).elim
 have hab:a.length=b.length:=by omega
 refine AB (fun k:Nat=>⟨[(5,.r (.int .i64 k)),(0,.ro t 3 (a.map eV)),(1,.ro u 3 (b.map eV))],[],0⟩) (fun k=>k≤a.length/\EN (a.drop k) (b.drop k)=EN a b) (fun k=>a.length - k) 0 ?_ ?_ ?_
 ·simp
 ·(exact iK hE [])
 intro k ⟨hk,hno⟩
 by_cases hk':k<a.length
 ·obtain⟨x,hx⟩: ∃x,a[k]?=some x:=⟨a[k],by simp[hk']⟩
  obtain⟨y,hy⟩: ∃x,b[k]?=some x:=⟨b[k]'(by omega),by simp⟩;rw[Am hx,Am hy,EN] at hno;(repeat' (first |refine A0 ?_ |refine A4 ?_ |refine A3 ?_ |((first |refine sR (fun K kp=>?_) |refine sI (id:=6) mixed 9 (fun K kp=>?_));simp -implicitDefEqProofs (disch:=omega) only[go_sem,hx,hy,eV];(repeat' (refine K _ ?_;clear K kp))) |((refine A6 rfl (fun h=>?_) (fun h=>?_)<;>try simp only[Af] at h)<;>(try (exfalso;omega))) |refine A5 ?_))
  ·(refine rJ results119 ?_;refine eN hE ?_;simp[A8,ren,renL])
   rw[<-hno];have h:NZ x y=false:=Bool.eq_false_iff.2 (fun hh=>by rw[NZ] at hh;rw[hh] at h;cases h);rw[h];rfl
  ·(refine BF (k+1) ?_ (iK hE []))
   have h:NZ x y=true:=by
    rw[NZ];cases hh:(x.k==y.k&&(x.n==y.n&&x.s.toList==y.s.toList))
    ·rw[hh] at h;cases h
    ·rfl
   rw[h] at hno;exact⟨by omega,by simpa using hno⟩
 ·(repeat' (first |refine A0 ?_ |refine A7 ?_ |((refine sR (fun K kp=>?_));simp -implicitDefEqProofs (disch:=omega) only[go_sem];(repeat' (refine K _ ?_;clear K kp))) |((refine A6 rfl (fun h=>?_) (fun h=>?_)<;>try simp only[Af] at h)<;>(try (exfalso;omega))) |refine A5 ?_))
  (refine rJ results119 ?_;refine eN hE ?_;simp[A8,ren,renL]);rw[<-hno,aR (by omega),aR (by omega)];rfl
theorem A1Y:Xz []=some []:=rfl
structure TabOK (t:TB):Prop where
 nm:AH t.nm=0
 cl:Ag t.cols=0
 rl:t.rows.length≤40
 ck:Dj t.ps t.root=0
 rs:FL (AT t.ps t.root) t.cols 0 t.rows=true
 mn:C7 t.rows=(AT t.ps t.root).length
theorem YW {t:TB}(h:LU t=true):TabOK t:=by
 unfold LU at h;simp only[aJ,aP] at h;obtain⟨h1,h2,h3,h4,h5,h6⟩:=h;exact⟨h1,h2,h3,h4,h5,h6⟩
theorem TabOK.few {t:TB}(h:TabOK t):(AT t.ps t.root).length≤40:=by
 have:=Iz t.rows;have:=h.mn;have:=h.rl;omega
theorem Qk: ∀ {p l:List TB},Bv p l=0-> ∀t ∈ l,LU t=true
 |_,[],_,t,ht=>by cases ht
 |p,x::s,h,t,ht=>by
  rw[Bv] at h;split at h
  ·cases h
  ·rename_i hx
   split at h
   ·cases h
   ·rcases bA.1 ht with rfl |ht
    ·simpa using hx
    ·exact Qk h t ht
def A0Y (t:TB)(en:List Et)(j:Nat):List (List V):=(en.take j).map fun e=>t.rows.getD e.2.toNat []
theorem Yi (t:TB)(en:List Et):A0Y t en 0=[]:=rfl
theorem OQ (G:GL)(l:List (List V))(hl:l.length≤1048576)(hr: ∀r ∈ l,r.length≤1048576):Con prog G 70 [.ro true 1 (l.map LG),.ro true 1 (l.map LG)] [] 0 (Is (.r (.bool true)) [] 0) No:=by
 have zl:((l.length:Int) !=(l.length:Int))=false:=by simp
 refine cJ func70 fun E hG hE=>?_;subst hG;simp only[AX];(repeat' (first |refine A0 ?_ |refine A4 ?_ |refine A3 ?_ |refine A7 ?_ |((first |refine sR (fun K kp=>?_) |refine sI (id:=6) mixed 10 (fun K kp=>?_) |refine iG ?_ |refine iD ?_);simp -implicitDefEqProofs (disch:=omega) only[go_sem,zl];(repeat' (first |(refine K _ ?_;clear K kp) |(with_reducible refine And.intro ?_ ?_) |omega))) |((first |refine aG (fun h=>?_) (fun h=>?_) |refine aD (fun h=>?_) (fun h=>?_) |refine aX (fun h=>?_) (fun h=>?_))<;>simp only[h]) |refine A2 rfl ?_ |refine A1 rfl ?_ |((refine A6 rfl (fun h=>?_) (fun h=>?_)<;>try simp only[Af] at h)<;>(try (exfalso;omega))) |refine A5 ?_));refine AB (fun k:Nat=>⟨[(5,.r (.int .i64 k)),(0,.ro true 1 (l.map LG)),(1,.ro true 1 (l.map LG))],[],0⟩) (fun k=>k≤l.length) (fun k=>l.length - k) 0 ?_ ?_ ?_
 ·exact aU _
 ·(exact iK hE [])
 intro k hk
 by_cases hk':k<l.length
 ·have zk:((k:Int)<(l.length:Int))=True:=aK (by omega)
  obtain⟨x,hx⟩: ∃x,l[k]?=some x:=⟨l[k],by simp[hk']⟩;have hxl:=hr x (aB hx);have sc:=Ki E.G true true x x hxl hxl;rw[Lb] at sc;(repeat' (first |refine A0 ?_ |refine A4 ?_ |refine A3 ?_ |refine A7 ?_ |((first |refine sR (fun K kp=>?_) |refine sI (id:=6) mixed 10 (fun K kp=>?_) |refine cR sc ?_ |refine cD sc ?_ |refine iG ?_ |refine iD ?_);simp -implicitDefEqProofs (disch:=omega) only[go_sem,zk,hx,LG];(repeat' (first |(refine K _ ?_;clear K kp) |(with_reducible refine And.intro ?_ ?_) |omega))) |((first |refine aG (fun h=>?_) (fun h=>?_) |refine aD (fun h=>?_) (fun h=>?_) |refine aX (fun h=>?_) (fun h=>?_))<;>simp only[h]) |refine A2 rfl ?_ |refine A1 rfl ?_ |((refine A6 rfl (fun h=>?_) (fun h=>?_)<;>try simp only[Af] at h)<;>(try (exfalso;omega))) |refine A5 ?_))
  ((first |(refine Gp (k+1) ?_ ?_ ?_) |(refine Dl (k+1) ?_ ?_ ?_) |(refine nextE (k+1) ?_ ?_ ?_));rotate_left;(·(try dsimp only);(first |omega |(simp only[List.length_drop,List.length_cons,List.length_append];omega) |(simp;done) |(simp;omega)));(·(exact iK hE [])))
  omega
 ·have zk:((k:Int)<(l.length:Int))=False:=bH (by omega)
  (repeat' (first |refine A0 ?_ |refine A4 ?_ |refine A3 ?_ |refine A7 ?_ |((first |refine sR (fun K kp=>?_) |refine sI (id:=6) mixed 10 (fun K kp=>?_) |refine iG ?_ |refine iD ?_);simp -implicitDefEqProofs (disch:=omega) only[go_sem,zk];(repeat' (first |(refine K _ ?_;clear K kp) |(with_reducible refine And.intro ?_ ?_) |omega))) |((first |refine aG (fun h=>?_) (fun h=>?_) |refine aD (fun h=>?_) (fun h=>?_) |refine aX (fun h=>?_) (fun h=>?_))<;>simp only[h]) |refine A2 rfl ?_ |refine A1 rfl ?_ |((refine A6 rfl (fun h=>?_) (fun h=>?_)<;>try simp only[Af] at h)<;>(try (exfalso;omega))) |refine A5 ?_));(refine rJ results70 ?_;exact eQ hE)
def okA (k:Ky)(l:List Et):Prop:= ∀e ∈ l,e.1=k
def YK (k:Ky)(l:List Et):Prop:= ∃l' e,l=l'++[e]/\okA k l'/\e.1≠k
def SQ:Option Et->AV
 |some e=> .tup [.agg (Cf e),.r (.int .i64 0)]
 |none=> .tup [.agg [.r (.slice none 0 0),.r (.int .i64 0)],.r (.int .i64 8)]
theorem Sy {k:Ky}{l:List Et}(h:okA k l):l.find? (fun e=>e.1 !=k)=none:=by
 rw[fZ];intro e he;simp[h e he]
theorem Vy {k:Ky}{l all:List Et}(h:YK k l)(hp:l <+: all):all.find? (fun e=>e.1 !=k)=l.getLast?:=by
 obtain⟨l',e,rfl,hk,hs⟩:=h;obtain⟨r,rfl⟩:=hp;rw[List.getLast?_concat,bB,List.find?_append,Sy hk];simp[hs]
theorem SO (l:List Et)(k:Ky):(l.filter (fun e=> !BI e.1 k)).find? (fun e=>e.1 !=k)=l.find? (fun e=>BI k e.1):=by
 rw[List.find?_filter]
 congr 1
 funext e
 cases h1:BI k e.1
 ·cases h2:BI e.1 k
  ·rw[Jj h1 h2];simp
  ·simp
 ·have h2:=Fi h1
  have h3:e.1≠k:=(Rc h1).symm;simp[h2,h3]
theorem SP (G:GL){ps:List PG}{r d:Nat}(h:Trd ps r d)(ho:Dk ps)(hc:ChkOK ps r)(k:Ky)(hk:k.length≤100):
  Con prog G 52 [.agg [.ro true 5 (ps.map eP),.r (.int .i64 r)],.ro true 1 (k.map AC)] [] 0 (Is (SQ (((BG ps d r).filter (fun e=> !BI e.1 k)).find? (fun e=>e.1 !=k))) [] 0) No:=by
 obtain⟨q0,hq0,hq1,hq2⟩:=Ss h k;have hL:=YC h
 have fc: ∀G,Con prog G 126 [.agg [.ro true 5 (ps.map eP),.r (.int .i64 r)],.ro true 1 (k.map AC)] [] 0 (Is (.tup [.r (.int .i64 (Ds (Cj ps d [r]) q0)),.r (.int .i64 (Ah (pg ps (C8 ps k d r)) k)),.r (.bool (G1 (pg ps (C8 ps k d r)) k))]) [] 0) No:=fun G=>by
  rw[hq1];exact Jt G true true ps r d k h.ok h.kin h.good h.rl h.n h.dl
 rw[<-hq2];generalize hall:EU ps (Cj ps d [r]) q0 (Ah (pg ps (C8 ps k d r)) k)=all at *;refine⟨by kernel_rfl,fun w0 th z0 own vs hown hmem hr=>?_⟩;have hth:th=[]:=bV.1 hmem.len;subst hth;have hz0:=hmem.zlt;have hG0:=hmem.globs;have hA0:=My (G:=G) (N:=(f52).ntmps) hz0 hG0 hr (aZ (by kernel_rfl));refine(callsIn_wide (n:=9)).1 (callsIn_of_wp_marks func52 rfl trivial ((wpIn_wide).2 ?_));generalize ({tmps:=_,defers:=[]}:Act)=a0 at hA0 ⊢;obtain⟨E,hEq⟩: ∃E:Env,E=⟨w0,fun _=>False,z0,G,[],[]⟩:=⟨_,rfl⟩
 have hE:E.th0.length=0:=by rw[hEq];rfl
 have hGE:E.G=G:=by rw[hEq]
 unfold At at hA0;rw[<-hEq] at hA0;have cc:=Dx E.G ps r (G3 ho);rw[K1 hc] at cc;have ec:=QU E.G true true ps r k;have g1:((k.length:Int)>100)=False:=bH (by omega);refine wp_seq ?_;refine Kh (S1:=⟨[(5,.p 3 0 0),(4,.p 2 0 0),(3,.p 1 0 0),(2,.p 0 0 0)],[(0,.box 43 [.ro true 5 (ps.map eP),.r (.int .i64 r)]),(1,.box 58 [.ro true 1 (k.map AC)]),(2,.box 75 [.r (.slice none 0 0),.r (.int .i64 0)]),(3,.box 33 [.r (.int .i64 0)])],4⟩) ?_ hA0 ?_
 ·simp only[AX]
  (repeat' ((refine sR (fun K kp=>?_));simp only[go_sem];(repeat' (refine K _ ?_;clear K kp))));show Emb E _ _ _;(exact iK hE [0,1,2,3])
 intro th1 z1 a1 w1 hs1;refine wp_seq ?_;refine Kh (S1:=⟨[(5,.p 3 0 0),(4,.p 2 0 0),(3,.p 1 0 0),(2,.p 0 0 0)],[(0,.box 43 [.ro true 5 (ps.map eP),.r (.int .i64 r)]),(1,.box 58 [.ro true 1 (k.map AC)]),(2,.box 75 [.r (.slice none 0 0),.r (.int .i64 0)]),(3,.box 33 [.r (.int .i64 0)])],4⟩) ?_ hs1 ?_
 ·(repeat' (first |refine A0 ?_ |refine A3 ?_ |((first |refine sR (fun K kp=>?_) |refine cR cc ?_);simp only[go_sem,bY];(repeat' (refine K _ ?_;clear K kp))) |refine A1 rfl ?_))
  show Emb E _ _ _;(exact iK hE [0,1,2,3])
 intro th2 z2 a2 w2 hs2;refine wp_seq ?_;refine Kh (S1:=⟨[(5,.p 3 0 0),(4,.p 2 0 0),(3,.p 1 0 0),(2,.p 0 0 0)],[(0,.box 43 [.ro true 5 (ps.map eP),.r (.int .i64 r)]),(1,.box 58 [.ro true 1 (k.map AC)]),(2,.box 75 [.r (.slice none 0 0),.r (.int .i64 0)]),(3,.box 33 [.r (.int .i64 0)])],4⟩) ?_ hs2 ?_
 ·(repeat' (first |refine A0 ?_ |refine A3 ?_ |((refine sR (fun K kp=>?_));simp only[go_sem,g1];(repeat' (refine K _ ?_;clear K kp))) |refine A1 rfl ?_))
  show Emb E _ _ _;(exact iK hE [0,1,2,3])
 intro th3 z3 a3 w3 hs3;refine wp_seq ?_;refine wp_seq ?_;refine Kh (S1:=⟨[(20,I5 true true ps r k),(5,.p 3 0 0),(4,.p 2 0 0),(3,.p 1 0 0),(2,.p 0 0 0)],[(0,.box 43 [.ro true 5 (ps.map eP),.r (.int .i64 r)]),(1,.box 58 [.ro true 1 (k.map AC)]),(2,.box 75 [.r (.slice none 0 0),.r (.int .i64 0)]),(3,.box 33 [.r (.int .i64 0)])],4⟩) ?_ hs3 ?_
 ·simp only[I5] at ec
  (repeat' ((first |refine sR (fun K kp=>?_) |refine cR ec ?_);simp only[go_sem];(repeat' (refine K _ ?_;clear K kp))));show Emb E _ _ _;(refine AJ hE [0,1,2,3] rfl ?_ ?_<;>simp[Ai,AY,lk,ren,renL,AA,AU,I5]<;>(try omega))
 intro th5 z5 a5 w5 hs5;refine wp_block ?_;rw[hEq] at hs5;clear hs1 hs2 hs3 hA0 cc ec;obtain⟨y,hy,hry⟩:=hs5.slots 20 _ rfl;unfold I5 at hry
 cases hry with
 |fn _ _ _ ys hl hx=>
 have hr2:Reps w5 z5 th5 [.re true [.ro true 5 (ps.map eP),.r (.int .i64 r)] 0,.re true [.ro true 1 (k.map AC)] 0] ys:=⟨hl,hx⟩;obtain⟨pT,qT,rfl,r1,r2⟩:=hr2.head;obtain⟨pK,qK,rfl,r3,r4⟩:=r2.head;obtain rfl:=r4.of_nil;have r1:=Rep.unpure rfl r1;have r3:=Rep.unpure rfl r3;have hlen5:th5.length=4:=hs5.mem.len;have hS05:Since w0 z0 w5 z5:=Ct hs5.mem;refine PC (G:=G) (N:=(f52).ntmps) (kk:=7) (w0:=w0) (z0:=z0) (zc:=z5) (th0:=th5) (th:=th5) (m:=[(5,.p 3 0 0),(4,.p 2 0 0),(3,.p 1 0 0),(2,.p 0 0 0)]) (eA:=fun x:Et=> .agg (Cf x)) (all:=all) (gf:=146) (lb:= #[pT,pK])
  (fun _=>[(0,.box 43 [.ro true 5 (ps.map eP),.r (.int .i64 r)]),(1,.box 58 [.ro true 1 (k.map AC)]),(2,.box 75 [.r (.slice none 0 0),.r (.int .i64 0)]),(3,.box 33 [.r (.int .i64 0)])]) 4
  (fun _ x=>⟨[(7,.p 4 0 0),(5,.p 3 0 0),(4,.p 2 0 0),(3,.p 1 0 0),(2,.p 0 0 0)],[(0,.box 43 [.ro true 5 (ps.map eP),.r (.int .i64 r)]),(1,.box 58 [.ro true 1 (k.map AC)]),(2,.box 75 [.r (.slice none 0 0),.r (.int .i64 0)]),(3,.box 33 [.r (.int .i64 0)]),(4,.box 75 (Cf x))],5⟩)
  (fun _ pre=>[(0,.box 43 [.ro true 5 (ps.map eP),.r (.int .i64 r)]),(1,.box 58 [.ro true 1 (k.map AC)]),(2,.box 75 (Cf (pre.getLastD ([],0)))),(3,.box 33 [.r (.int .i64 0)])]) 4
  (okA k) (fun e pre=>e= .ret/\YK k pre) (fun _=>rfl) (fun _ _=>rfl) (fun _ _=>rfl) (fun v pre h=>(by cases h.1)) ?hok hs5.mem ?hsl (fun _ _ h=>h) hs5.size hs5.dfs ?hg (by kernel_rfl) (aZ (by kernel_rfl)) rfl ?hit ?hassign ?hbody ?hdone ?hstop
 case hok=>exact fun e he=>(by cases he)
 case hsl=>
  intro i x hi;refine hs5.slots i x ?_;simp only[lk] at hi ⊢
  by_cases h20:20=i
  ·subst h20;simp at hi
  ·rw[if_neg h20];exact hi
 case hg=>simp only[Act.eval,dE,hy,dH]
 case hit=>
  intro J Jx W z Y hzlt hS hJ;rw[<-hall] at Y
  have he:=O8 (G:=G) hL ho h.ok fc Y W z hzlt (fun g cs hg=>by
   obtain⟨h1,h2⟩:=hG0 g cs hg;have h3:=hS05.trans hS
   exact⟨h3.sub _ _ h1,fun j v hv=>(BO (h3.ext.same g (hz0 _ _ h1)) j).trans (h2 j v hv)⟩) pT pK
   (.cons (r1.on' ⟨hS.sub,fun t b hb=>hS.ext.same b (hs5.mem.zlt t b hb)⟩) (.cons (r3.on' ⟨hS.sub,fun t b hb=>hS.ext.same b (hs5.mem.zlt t b hb)⟩) .nil)) hJ
  rw[hall] at he;simpa using he
 case hassign=>
  intro E pre x hpx hk hG hE;rw[hlen5] at hE;refine DM (fun _ _ K kp=>?_);(simp only[go_sem,Cf];(repeat' (first |(refine K _ ?_;clear K kp) |(with_reducible refine And.intro ?_ ?_))))
  ·rfl
  ·(refine AJ hE [0,1,2,3,4] rfl ?_ ?_<;>simp[Ai,AY,lk,ren,renL,AA,AU,Cf]<;>(try omega))
 case hbody=>
  intro E pre x hpx hok hG hE;rw[hlen5] at hE;have hbc:=Hl E.G true true x.1 k;refine OC ?_;refine LJ ?_;refine DM (fun _ _ K kp=>?_);cases hx1:(x.1==k)
  ·rw[hx1] at hbc
   have hne:x.1≠k:=by simpa using hx1
   (simp only[go_sem,Cf];(repeat' (omega)));refine cR hbc ?_;(simp only[go_sem,Cf];(repeat' (refine K _ ?_;clear K kp)));refine Mw rfl ?_;refine LJ ?_;refine DM (fun _ _ K kp=>?_);(simp only[go_sem,Cf];(repeat' (refine K _ ?_;clear K kp)));refine Xu ?_;refine Or.inr ⟨by simp,⟨rfl,pre,x,rfl,hok,hne⟩,?_⟩;rw[show(pre++[x]).getLastD ([],0)=x by simp];(refine AJ hE [0,1,2,3] rfl ?_ ?_<;>simp[Ai,AY,lk,ren,renL,AA,AU,Cf]<;>(try omega))
  ·rw[hx1] at hbc
   have he:x.1=k:=by simpa using hx1
   (simp only[go_sem,Cf];(repeat' (omega)));refine cR hbc ?_;(simp only[go_sem,Cf];(repeat' (refine K _ ?_;clear K kp)));refine IV rfl ?_;refine Mv ?_;refine Or.inl ⟨rfl,?_,?_⟩
   ·intro e he'
    rcases cK.1 he' with he' |he'
    ·exact hok e he'
    ·rw[aW.1 he'];exact he
   ·(refine AJ hE [0,1,2,3] rfl ?_ ?_<;>simp[Ai,AY,lk,ren,renL,AA,AU,Cf]<;>(try omega))
 case hdone=>
  intro W z' hk hJ hd;have hres:=Sy hk;dsimp only[Exit.inBlock,Exit.then];rw[hres];obtain⟨th6,z6,hs6,hb6,hD6⟩:=hJ.sim hs5.size;have hE:(EpM w5.heap.size w0 G th5 W z6).th0.length=4:=hlen5;refine wp_seq ?_;refine Kh (S1:=⟨[(5,.p 3 0 0),(4,.p 2 0 0)],[(0,.box 43 [.ro true 5 (ps.map eP),.r (.int .i64 r)]),(1,.box 58 [.ro true 1 (k.map AC)]),(2,.box 75 [.r (.slice none 0 0),.r (.int .i64 0)]),(3,.box 33 [.r (.int .i64 8)])],4⟩) ?_ hs6 ?_
  ·(repeat' ((refine sR (fun K kp=>?_));simp only[go_sem];(repeat' (refine K _ ?_;clear K kp))))
   show Emb _ _ _ _;(exact iK hE [0,1,2,3])
  intro th7 z7 a7 w7 hs7;refine wp_ret ?_;refine HT hs7 rfl hb6 hS05.ext.size hD6 hd hG0 hz0 ?_;intro E hE;refine⟨_,by(simp only[go_sem,results52];rfl),?_⟩;refine eN hE ?_;simp[A8,ren,renL,SQ]
 case hstop=>
  intro e pre W z' hpre hX hJ hd;obtain⟨rfl,hcut⟩:=hX;have hres:=Vy hcut hpre;obtain⟨l',x,rfl,_,_⟩:=hcut;rw[List.getLast?_concat] at hres;refine wp_ret ?_;dsimp only[Exit.inBlock,Exit.then];rw[hres];obtain⟨th6,z6,hs6,hb6,hD6⟩:=hJ.sim hs5.size;refine HT hs6 rfl hb6 hS05.ext.size hD6 hd hG0 hz0 ?_;intro E hE;rw[show(l'++[x]).getLastD ([],0)=x by simp];refine⟨_,by(simp only[go_sem,results52,Cf];rfl),?_⟩;refine eN hE ?_;simp[A8,ren,renL,SQ,Cf]
noncomputable def Ql (ps:List PG)(root:Int)(k:Ky):Int:=if Dj ps root≠0 then Dj ps root else if k.length≤100 then 0 else 1
theorem WZ {ps:List PG}{root:Int}{k:Ky}(h:Ql ps root k=0):ChkOK ps root/\k.length≤100:=by
 rw[Ql] at h
 by_cases hc:ChkOK ps root
 ·rw[K1 hc] at h
  refine⟨hc,?_⟩
  by_cases hl:k.length≤100
  ·exact hl
  ·rw[if_neg (by simp),if_neg hl] at h;cases h
 ·rw[IS hc] at h;simp at h
def Zd (k:Ky):List Et->Option Et
 | []=>none
 |e::r=>if BI k e.1=true then some e else Zd k r
theorem Wb (k:Ky): ∀l,Zd k l=l.find? (fun e=>BI k e.1)
 | []=>rfl
 |e::r=>by
  rw[Zd,List.find?_cons];cases h:BI k e.1
  ·simp only[bU,if_false];exact Wb k r
  ·simp
def Zc (a:Int)(R:Option Et):AV:=if a=0 then (match R with
 |some e=> .tup [.agg (Cf e),.r (.int .i64 0)]
 |none=> .tup [.agg [.ro true 1 [],.r (.int .i64 0)],.r (.int .i64 8)]) else .tup [.agg [.ro true 1 [],.r (.int .i64 0)],.r (.int .i64 a)]
theorem Lo {w:World}{z:AO}{th:List NLoc}{t:Bool}{k:Nat}{x y:AV}{v:Value}(h:Rep w z th (.tup [.agg [.r (.slice none 0 0),x],y]) v):Rep w z th (.tup [.agg [.ro t k [],x],y]) v:=by
 cases h with
 |tup _ c ys hl hx=>
  refine .tup _ _ ys hl (fun i u q h1 h2=>?_)
  cases i with
  |zero=>
   have:=hx 0 _ q rfl h2;cases h1
   cases this with
   |agg _ c2 us hl2 hx2=>
    refine .agg _ _ us hl2 (fun j u2 q2 h3 h4=>?_)
    cases j with
    |zero=>
     have:=hx2 0 _ q2 rfl h4;cases h3
     cases this with
     |r=>exact .nil _ _ _ _ _
    |succ j=>exact hx2 (j+1) u2 q2 h3 h4
  |succ i=>exact hx (i+1) u q h1 h2
theorem Ul (G:GL)(ps:List PG)(root:Int)(k:Ky)(ho:Dk ps)(R:Option Et)(hR:Ql ps root k=0-> ∀r d:Nat,root=r->Trd ps r d->R=Zd k (BG ps d r)):
  Con prog G 52 [.agg [.ro true 5 (ps.map eP),.r (.int .i64 root)],.ro true 1 (k.map AC)] [] 0 (Is (Zc (Ql ps root k) R) [] 0) No:=by
 unfold Zc
 by_cases h0:Ql ps root k=0
 ·obtain⟨hc,hk⟩:=WZ h0
  obtain⟨r,d,rfl,h⟩:=Eo hc;rw[if_pos h0,hR h0 r d rfl h,Wb,<-SO];have ag:=SP G h ho hc k hk
  cases hf:((BG ps d r).filter (fun e=> !BI e.1 k)).find? (fun e=>e.1 !=k) with
  |some e=>rw[hf] at ag;exact ag
  |none=>rw[hf] at ag;exact ag.res (fun w z th v hr=>Lo hr)
 ·have cc:=Dx G ps root (G3 ho)
  rw[if_neg h0];rw[Ql] at h0 ⊢;obtain⟨c,hc⟩: ∃c,Dj ps root=c:=⟨_,rfl⟩;rw[hc] at h0 cc ⊢;refine Con.res (y:= .tup [.agg [.r (.slice none 0 0),.r (.int .i64 0)],.r (.int .i64 (if c≠0 then c else if k.length≤100 then 0 else 1))]) ?_ (fun w z th v hr=>Lo hr);refine cJ func52 fun E hG hE=>?_;subst hG;simp only[AX]
  by_cases h1:c=0
  ·subst h1
   rw[if_neg (by simp)] at h0 ⊢;have hk: ¬k.length≤100:=fun hl=>h0 (if_pos hl);rw[if_neg hk];have g1:((k.length:Int)>100)=True:=aK (by omega);(repeat' (first |refine A0 ?_ |refine A3 ?_ |((first |refine sR (fun K kp=>?_) |refine cR cc ?_);simp -implicitDefEqProofs (disch:=omega) only[go_sem,bY,g1];(repeat' (refine K _ ?_;clear K kp))) |refine A2 rfl ?_ |refine A1 rfl ?_ |refine A5 ?_));(refine rJ results52 ?_;exact eQ hE)
  ·have z0:(c !=0)=true:=by simp[h1]
   rw[if_pos h1];(repeat' (first |refine A0 ?_ |((first |refine sR (fun K kp=>?_) |refine cR cc ?_);simp -implicitDefEqProofs (disch:=omega) only[go_sem,z0];(repeat' (refine K _ ?_;clear K kp))) |refine A2 rfl ?_ |refine A5 ?_));(refine rJ results52 ?_;exact eQ hE)
end Go.AM
namespace Go.Proofs.YtmohnlbeiaifhaaGreatDoor
open Go.ChangeShapes Go.WideShapes Go.ChangeAt Go.RowKit
theorem own:ownKnob Tryz.prog.godebug=none:=by kernel_rfl
theorem St:laidOutB Tryz.prog=true:=by kernel_rfl
theorem Z_ {P:Program}{w:World}{t e:TypeId}{n fuel:Nat}{cs:List Value}{ls:List (List UInt8)}{p:List MemPlace}{base:Nat}{spare:Nat->Bool}{held:Bool}
  (ht:P.underlying t=some (.array n e)) (he:P.underlying e=some .string) (hce:P.cellsOf e=1)
  (h:DataW.trod (fun _=>()) P w base spare held fuel t cs=some (.agg (ls.map fun l=> .lit (.string l)),p)):
  ls.length=n/\ ∀j:Nat,j<n->cs[j]?=some (.string (str (ls.getD j []))):=by
 obtain⟨xs,m',rfl,hx,hl,hn,hi⟩:=DataW.trod_array ht h;simp only[cH,DataW.agg.injEq] at hx
 have hlen:ls.length=n:=by
  have:=congrArg List.length hx.1;simpa[hn] using this
 refine⟨hlen,fun j hj=>?_⟩;have h1:=hi j hj;obtain⟨y,hy⟩: ∃y,xs[j]?=some y:=⟨xs[j],by simp[hn,hj]⟩;rw[hy] at h1;obtain⟨s,e1,rfl,_⟩:=dB he h1;have h2:=congrArg (fun l=>l[j]?) hx.1;simp only[List.getElem?_map,hy,Option.map_some] at h2
 have hj':j<ls.length:=by omega
 rw[aI hj'] at h2;simp only[Option.map_some,aM,DataW.lit.injEq,Lit.string.injEq] at h2;rw[hce] at e1;have h4:=congrArg (fun l=>l[0]?) e1;simp at h4;rw[h4]
 have:s=str (ls.getD j []):=by
  rw[List.getD,aI hj',dH,h2]
  rfl
 rw[this]
def OY:List (List UInt8):=[[60,61],[62,61],[60,62],[40],[41],[44],[42],[43],[45],[61],[60],[62]]
theorem Vq:Tryz.prog.globalNamed "padlock/lex.marks" =some 2:=by kernel_rfl
theorem Xa:(Tryz.prog.globals[2]?).map (·.type)=some 191:=by kernel_rfl
theorem Ra {W:World}{rest:List (String×DataW Unit)}{ps:List MemPlace}(h:DataW.LaidVars Tryz.prog W (("padlock/lex.marks",Rows.laid_padlock_lex_marks)::rest) ps):
  StrsAt W 2 BM/\2<W.heap.size/\ ∃q,DataW.LaidVars Tryz.prog W rest q:=by
 obtain⟨g,t,cs,fuel,p,q,hg,ht,hvar,hd,hr,_⟩:=h;obtain rfl:=bD (Vq.symm.trans hg);obtain rfl:=bD (Xa.symm.trans ht);have e:(Rows.laid_padlock_lex_marks:DataW Unit)= .agg (OY.map fun l=> .lit (.string l)):=rfl;rw[e] at hd;obtain⟨h1,h2⟩:=Z_ Tryz.underlying191 Tryz.underlying9 (by kernel_rfl) hd
 have hc: ∀j:Nat,j<12->W.cell? ⟨2,j,none⟩=some (.string (str (OY.getD j []))):=fun j hj=>by
  rw[World.var?_cell Vq hvar];have:=h2 j hj
  rwa [bW] at this
 refine⟨fun j hj=>?_,?_,q,hr⟩
 ·rw[hc j hj]
  have:BM=OY.map str:=rfl;rw[this,List.getD,List.getD,List.getElem?_map,aI (show j<OY.length from hj)]
  rfl
 ·have h0:=hc 0 (by decide)
  rcases fW 2 W.heap.size with h |h
  ·exact h
  ·simp[World.cell?,gH h] at h0
theorem Vo:Tryz.prog.globalNamed "padlock/parse.words" =some 1:=by kernel_rfl
theorem XZ:(Tryz.prog.globals[1]?).map (·.type)=some 154:=by kernel_rfl
theorem Qt {W:World}{rest:List (String×DataW Unit)}{ps:List MemPlace}(h:DataW.LaidVars Tryz.prog W (("padlock/parse.words",Rows.laid_padlock_parse_words)::rest) ps):
  StrsAt W 1 B4/\1<W.heap.size/\ ∃q,DataW.LaidVars Tryz.prog W rest q:=by
 obtain⟨g,t,cs,fuel,p,q,hg,ht,hvar,hd,hr,_⟩:=h;obtain rfl:=bD (Vo.symm.trans hg);obtain rfl:=bD (XZ.symm.trans ht);have e:(Rows.laid_padlock_parse_words:DataW Unit)= .agg (JU.map fun l=> .lit (.string l)):=rfl;rw[e] at hd;obtain⟨h1,h2⟩:=Z_ Tryz.underlying154 Tryz.underlying9 (by kernel_rfl) hd
 have hc: ∀j:Nat,j<30->W.cell? ⟨1,j,none⟩=some (.string (str (JU.getD j []))):=fun j hj=>by
  rw[World.var?_cell Vo hvar];have:=h2 j hj
  rwa [bW] at this
 refine⟨fun j hj=>?_,?_,q,hr⟩
 ·rw[hc j hj]
  have:B4=JU.map str:=rfl;rw[this,List.getD,List.getD,List.getElem?_map,aI (show j<JU.length from hj)]
  rfl
 ·have h0:=hc 0 (by decide)
  rcases fW 1 W.heap.size with h |h
  ·exact h
  ·simp[World.cell?,gH h] at h0
theorem ZD {n:Int}(h:(Lit.int .i64 n).wf=true): -9223372036854775808≤n/\n≤9223372036854775807:=by
 simp[Lit.wf,IntKind.min,IntKind.max,IntKind.signed,IntKind.bits] at h;omega
open Go.ChangeShapes Go.WideShapes Go.ChangeAt Go.RowKit Go.AM
theorem WK {H:Type}(d:DataW H):1≤Rows.uptoBulk d:=by
 cases d with
 |lit l=>cases l<;>simp[Rows.uptoBulk]
 |nil=>simp[Rows.uptoBulk]
 |ptr d=>simp[Rows.uptoBulk]
 |slice elems spare=>simp[Rows.uptoBulk]
 |agg parts=>simp[Rows.uptoBulk]
 |iface t d=>simp[Rows.uptoBulk]
 |map entries=>simp[Rows.uptoBulk]
 |held h=>simp[Rows.uptoBulk]
theorem Kd {H:Type}: ∀l:List (DataW H),l.length≤Rows.uptoBulkAll l
 | []=>by simp[Rows.uptoBulkAll]
 |x::r=>by have:=WK x;have:=Kd r;simp only[Rows.uptoBulkAll,List.length_cons];omega
theorem SF {H:Type}(ds rest:List (DataW H)):ds.length+1≤Rows.uptoBulk (.slice ds rest):=by
 have:=Kd ds;simp only[Rows.uptoBulk];omega
theorem SG {H:Type}{l:List (DataW H)}(hk:Rows.uptoSmall H l=true):Rows.uptoBulkAll l≤1048576:=aZ hk
theorem Cl {H α:Type}{l:List α}{R:α->DataW H->Prop}{d:DataW H}(h:(l=[]/\d= .nil)\/ ∃ds rest,d= .slice ds rest/\ds.length=l.length/\ ∀(i:Nat) y,l[i]?=some y-> ∃d,ds[i]?=some d/\R y d):l.length≤Rows.uptoBulk d:=by
 rcases h with ⟨rfl,_⟩ |⟨ds,rest,rfl,h,_⟩
 ·exact aU _
 ·have:=SF ds rest;omega
def Qw:List (List UInt8):=[[],[66,79,79,76],[73,78,84],[84,69,88,84]]
theorem Vp:Tryz.prog.globalNamed "padlock/parse.types" =some 0:=by kernel_rfl
theorem X_:(Tryz.prog.globals[0]?).map (·.type)=some 129:=by kernel_rfl
theorem Qv {W:World}{rest:List (String×DataW Unit)}{ps:List MemPlace}(h:DataW.LaidVars Tryz.prog W (("padlock/parse.types",Rows.laid_padlock_parse_types)::rest) ps):
  (∀j:Nat,j<4->W.cell? ⟨0,j,none⟩=some (.string (str (Qw.getD j []))))/\0<W.heap.size/\ ∃q,DataW.LaidVars Tryz.prog W rest q:=by
 obtain⟨g,t,cs,fuel,p,q,hg,ht,hvar,hd,hr,_⟩:=h;obtain rfl:=bD (Vp.symm.trans hg);obtain rfl:=bD (X_.symm.trans ht);have e:(Rows.laid_padlock_parse_types:DataW Unit)= .agg (Qw.map fun l=> .lit (.string l)):=rfl;rw[e] at hd;obtain⟨h1,h2⟩:=Z_ Tryz.underlying129 Tryz.underlying9 (by kernel_rfl) hd
 have hc: ∀j:Nat,j<4->W.cell? ⟨0,j,none⟩=some (.string (str (Qw.getD j []))):=fun j hj=>by
  rw[World.var?_cell Vp hvar];have:=h2 j hj
  rwa [bW] at this
 refine⟨hc,?_,q,hr⟩;have h0:=hc 0 (by decide)
 rcases fW 0 W.heap.size with h |h
 ·exact h
 ·simp[World.cell?,gH h] at h0
def GT:List (Nat×List Value):=[(0,JY.map .string),(2,BM.map .string),(1,B4.map .string)]
theorem Mo:Tryz.prog.cellsOf 80=2:=by kernel_rfl
theorem Q6 {H:Type}{E:TypeId×Value->H}{w:World}{base:Nat}{spare:Nat->Bool}{held:Bool}(fuel:Nat)(cs:List Value)(x:DataW H×List MemPlace)
  (h:DataW.trod E Tryz.prog w base spare held fuel 80 cs=some x): ∃y:CO,Reps w (FH w) [] (eC y) cs/\(∀v ∈ cs,v.oneCell'=true)/\FG y.nm:=by
 obtain⟨y0,y1,n,_,hl,h0,h1⟩:=trod_struct2 Tryz.underlying80 h;rw[Mo] at hl
 obtain⟨c0,c1,rfl⟩: ∃a b,cs=[a,b]:=by
  match cs,hl with
  | [a,b],_=>exact⟨a,b,rfl⟩
 obtain⟨s,e0,_,w0⟩:=dB Tryz.underlying9 h0;obtain⟨k,e1,_,_⟩:=dD Tryz.underlying3 h1;rw[show Tryz.prog.cellsOf 9=1 by kernel_rfl] at e0;rw[show Tryz.prog.cellsOf 3=1 by kernel_rfl] at e1;simp at e0 e1;subst e0 e1;exact⟨⟨s,k⟩,.cons (.r _ _) (.cons (.r _ _) .nil),by simp[Value.oneCell'],w0⟩
theorem R_ (W:World)(h:W.ShapedOpen Tryz.prog): ∃m,W.cell? ⟨3,0,none⟩=some (.int .i64 m):=
 Go.Proofs.cell_of_shapedOpen_int (zero:= #[.int .i64 0]) (t:=3) h (aZ (by kernel_rfl)) (by kernel_rfl) rfl (by kernel_rfl) (by kernel_rfl) Tryz.underlying3
def GM (m:Int):List (Nat×List Value):=(3,[.int .i64 m])::GT
theorem YV (m:Int):Tabs (GM m):=⟨by simp[GM,GT],by simp[GM,GT],rfl⟩
theorem XY {W:World}{m:Int}(hm:W.cell? ⟨3,0,none⟩=some (.int .i64 m))(h:Qp GT W):Qp (GM m) W:=by
 intro g cs hg
 rcases bA.1 hg with hg |hg
 ·cases hg
  refine⟨World.block_lt_of_cell? _ _ hm,fun j u hu=>?_⟩
  cases j with
  |zero=>simp at hu;subst hu;exact hm
  |succ j=>simp at hu
 ·exact h g cs hg
theorem TT {W:World}(h:laidMetH Tryz.prog [("unicode/utf8.acceptRanges",Rows.laid_unicode_utf8_acceptRanges),("padlock/lex.marks",Rows.laid_padlock_lex_marks),("padlock/parse.words",Rows.laid_padlock_parse_words),("padlock/parse.types",Rows.laid_padlock_parse_types),("unicode/utf8.first",Rows.laid_unicode_utf8_first)] W):Qp GT W:=by
 obtain⟨ps,h,_⟩:=h;obtain⟨_,_,_,_,_,_,_,_,_,_,h,_⟩:=h;obtain⟨h1,h2,q,h3⟩:=Ra h;obtain⟨h4,h5,q2,h6⟩:=Qt h3;obtain⟨h7,h8,_⟩:=Qv h6;intro g cs hg;simp only[GT,bA,cH,eU,or_false] at hg
 rcases hg with ⟨rfl,rfl⟩ |⟨rfl,rfl⟩ |⟨rfl,rfl⟩
 ·refine⟨h8,fun j u hu=>?_⟩
  have hj:j<4:=by have:=(aA.1 hu).1;simpa[JY] using this
  rw[h7 j hj,<-hu]
  match j,hj with
  |0,_=>rfl
  |1,_=>rfl
  |2,_=>rfl
  |3,_=>rfl
 ·refine⟨h2,fun j u hu=>?_⟩
  have hj:=(aA.1 hu).1;rw[List.length_map] at hj;rw[h1 j hj,<-hu,List.getElem?_map,List.getD,aI hj];rfl
 ·refine⟨h5,fun j u hu=>?_⟩
  have hj:=(aA.1 hu).1;rw[List.length_map] at hj;rw[h4 j hj,<-hu,List.getElem?_map,List.getD,aI hj];rfl
end Go.Proofs.YtmohnlbeiaifhaaGreatDoor
namespace Go.AM
section
variable {α β:Type}
def D4 (ar:α->Nat)(f:α->β->β->Except Int β)(z:β):List α->List β->Except Int (List β)
 | [],st=> .ok st
 |o::r,st=>match f o (if 0<ar o then st.getD (st.length - ar o) z else z) (if 1<ar o then st.getD (st.length - ar o+1) z else z) with
  | .error e=> .error e
  | .ok x=>D4 ar f z r (st.take (st.length - ar o)++[x])
def Fr (f:α->β->β->Except Int β)(z:β):RT α->Except Int β
 | .l o=>f o z z
 | .u o t=>match Fr f z t with
   | .error e=> .error e
   | .ok a=>f o a z
 | .b o s t=>match Fr f z s with
   | .error e=> .error e
   | .ok a=>match Fr f z t with
     | .error e=> .error e
     | .ok b=>f o a b
theorem F5 (ar:α->Nat)(f:α->β->β->Except Int β)(z:β): ∀(t:RT α)(rest:List α)(st:List β),t.wf ar->
  D4 ar f z (t.flat++rest) st=match Fr f z t with
   | .error e=> .error e
   | .ok x=>D4 ar f z rest (st++[x])
 | .l o,rest,st,h=>by
   simp only[RT.wf] at h;simp only[RT.flat,List.cons_append,List.nil_append,D4,Fr,h,fM,if_false,Nat.sub_zero,bZ,show ¬1<0 by omega]
 | .u o t,rest,st,h=>by
   obtain⟨h1,h2⟩:=h;simp only[RT.flat,bB];rw[F5 ar f z t _ st h2,Fr]
   cases Fr f z t with
   |error e=>rfl
   |ok a=>
    simp only[List.cons_append,List.nil_append,D4,h1,List.length_append,List.length_cons,List.length_nil,dF,show ¬1<1 by omega,if_false,Nat.zero_add];simp
 | .b o s t,rest,st,h=>by
   obtain⟨h1,h2,h3⟩:=h;simp only[RT.flat,bB];rw[F5 ar f z s _ st h2,Fr]
   cases Fr f z s with
   |error e=>rfl
   |ok a=>
    simp only;rw[F5 ar f z t _ _ h3]
    cases Fr f z t with
    |error e=>rfl
    |ok b=>
     have e1:(st++[a]++[b]).length - 2=st.length:=by simp
     have e2:(st++[a]++[b]).getD st.length z=a:=by simp[List.getD]
     have e3:(st++[a]++[b]).getD (st.length+1) z=b:=by simp[List.getD]
     have e4:(st++[a]++[b]).take st.length=st:=by simp
     simp only[List.cons_append,List.nil_append,D4,h1,e1,e2,e3,e4,show 0<2 by omega,show 1<2 by omega,if_true]
end
open Go Go.RowKit
open Go.Proofs.YtmohnlbeiaifhaaGreatDoor (OP AH Bc AZ B0 DN BR)
def BN (o:OP):Nat:=(BR o.k).toNat
theorem P7 (o:OP):BN o≤2:=by
 have:=(Go.Proofs.YtmohnlbeiaifhaaGreatDoor.EA o.k).2;simp only[BN];omega
theorem Sa {o:OP}{h:Int}(e:DN o h=0):1≤o.k/\o.k≤11/\Bc o.vk o.vn o.vs=0/\(o.k=2->AH o.nm=0)/\BR o.k≤h:=by
 unfold DN at e;split at e
 ·cases e
 rename_i h1;split at e
 ·rename_i h2;exact(h2 e).elim
 rename_i h2;split at e
 ·cases e
 split at e
 ·rename_i h3;exact(h3.2 e).elim
 rename_i h3;split at e
 ·cases e
 rename_i h4;refine⟨by omega,by omega,by simpa using h2,fun hk=>?_,by omega⟩
 cases Int.decEq (AH o.nm) 0 with
 |isTrue h=>exact h
 |isFalse h=>exact(h3 ⟨hk,h⟩).elim
theorem FO: ∀(l:List OP)(n:Nat),B0 l n=0->hgt BN l n=some 1
 | [],n,e=>by
   unfold B0 at e;split at e
   ·cases e
   ·rename_i h;simp only[hgt,aM];simp only[ne_eq,Decidable.not_not] at h;omega
 |o::r,n,e=>by
  unfold B0 at e;split at e
  ·rename_i h;exact(h e).elim
  rename_i h
  have hs:DN o n=0:=by simpa using h
  obtain⟨_,_,_,_,hp⟩:=Sa hs;have hb:=Go.Proofs.YtmohnlbeiaifhaaGreatDoor.EA o.k;unfold hgt
  have hle: ¬n<BN o:=by simp only[BN];omega
  rw[if_neg hle];refine FO r _ ?_
  have e2:((n+1 - BN o:Nat):Int)=(n:Int)+1 - BR o.k:=by simp only[BN] at hle ⊢;omega
  rw[e2];exact e
theorem MV: ∀(l:List OP)(n:Int),B0 l n=0-> ∀o ∈ l,1≤o.k/\o.k≤11/\Bc o.vk o.vn o.vs=0/\(o.k=2->AH o.nm=0)
 | [],_,_=>by simp
 |o::r,n,e=>by
  unfold B0 at e;split at e
  ·rename_i h;exact(h e).elim
  rename_i h;obtain⟨h1,h2,h3,h4,_⟩:=Sa (show DN o n=0 by simpa using h);intro x hx
  rcases bA.1 hx with rfl |hx
  ·exact⟨h1,h2,h3,h4⟩
  ·exact MV r _ e x hx
theorem CU {l:List OP}(h:AZ l=0):l.length≤40/\(∀o ∈ l,1≤o.k/\o.k≤11/\Bc o.vk o.vn o.vs=0/\(o.k=2->AH o.nm=0))/\ ∃t:RT OP,t.wf BN/\t.flat=l:=by
 unfold AZ at h;split at h
 ·cases h
 ·exact⟨by omega,MV l 0 h,Wp P7 (FO l 0 h)⟩
attribute [local irreducible] AWP DU
def KS (n:ByteArray)(c:CO):Bool:=c.nm.toList==n.toList
def Ab (l:List CO)(n:ByteArray):Int:=B9 (KS n) l 0
theorem UQ (u:Bool)(n:ByteArray)(G:GL)(x:CO):Con prog G 172 [.agg (eC x),.re u [.r (.string n)] 0] [] 0 (Is (.r (.bool (KS n x))) [] 0) No:=by
 refine cJ func172 fun E hG hE=>?_;subst hG;simp only[AX];(repeat' (first |refine A0 ?_ |((refine sR (fun K kp=>?_));simp -implicitDefEqProofs (disch:=omega) only[go_sem,eC];(repeat' (refine K _ ?_;clear K kp))) |refine A5 ?_));(refine rJ results172 ?_;refine eN hE ?_;simp[A8,ren,renL,KS])
theorem Vz (G:GL)(t:Bool)(l:List CO)(n:ByteArray)(hl:l.length≤1048576):Con prog G 162 [.ro t 2 (l.map eC),.r (.string n)] [] 0 (Is (.r (.int .i64 (Ab l n))) [] 0) No:=by
 refine cJ func162 fun E hG hE=>?_;subst hG;simp only[AX];have ic:=F3 E.G t l 172 [.re false [.r (.string n)] 0] (KS n) hl (by simp[C0,FE]) (by simp[renL,ren]) (fun G x=>UQ false n G x);(repeat' (first |refine A0 ?_ |((first |refine sR (fun K kp=>?_) |refine cR ic ?_);simp -implicitDefEqProofs (disch:=omega) only[go_sem];(repeat' (refine K _ ?_;clear K kp))) |refine A5 ?_));(refine rJ results162 ?_;refine eN hE ?_;simp[A8,ren,renL,Ab])
theorem Hi (G:GL)(t:Bool)(l:List CO)(n:ByteArray)(hl:l.length≤1048576):Con prog G 61 [.ro t 2 (l.map eC),.r (.string n)] [] 0 (Is (.r (.int .i64 (Ab l n))) [] 0) No:=by
 refine cJ func61 fun E hG hE=>?_;subst hG;simp only[AX];(repeat' (first |refine A0 ?_ |refine A4 ?_ |((refine sR (fun K kp=>?_));simp -implicitDefEqProofs (disch:=omega) only[go_sem];(repeat' (refine K _ ?_;clear K kp)))));refine AB (fun k:Nat=>⟨[(5,.r (.int .i64 k)),(0,.ro t 2 (l.map eC)),(1,.r (.string n))],[],0⟩) (fun k=>k≤l.length/\B9 (KS n) (l.drop k) k=Ab l n) (fun k=>l.length - k) 0 ?_ ?_ ?_
 ·exact⟨by simp,by simp[Ab]⟩
 ·(exact iK hE [])
 intro k ⟨hk,hno⟩
 by_cases hk':k<l.length
 ·obtain⟨x,hx⟩: ∃x,l[k]?=some x:=⟨l[k],by simp[hk']⟩
  rw[Am hx,B9] at hno;cases hs:(x.nm.toList==n.toList)
  ·rw[if_neg (by rw[KS,hs];decide)] at hno
   (repeat' (first |refine A0 ?_ |refine A4 ?_ |refine A3 ?_ |((refine sR (fun K kp=>?_));simp -implicitDefEqProofs (disch:=omega) only[go_sem,hx,eC,hs];(repeat' (refine K _ ?_;clear K kp))) |refine A1 rfl ?_ |((refine A6 rfl (fun h=>?_) (fun h=>?_)<;>try simp only[Af] at h)<;>(try (exfalso;omega)))));(refine BF (k+1) ?_ (iK hE []));exact⟨by omega,hno⟩
  ·rw[if_pos (show KS n x=true from hs)] at hno
   (repeat' (first |refine A0 ?_ |refine A4 ?_ |refine A3 ?_ |((refine sR (fun K kp=>?_));simp -implicitDefEqProofs (disch:=omega) only[go_sem,hx,eC,hs];(repeat' (refine K _ ?_;clear K kp))) |refine A2 rfl ?_ |((refine A6 rfl (fun h=>?_) (fun h=>?_)<;>try simp only[Af] at h)<;>(try (exfalso;omega))) |refine A5 ?_));(refine rJ results61 ?_;refine eN hE ?_;simp[A8,ren,renL]);exact hno
 ·(repeat' (first |refine A0 ?_ |refine A7 ?_ |((refine sR (fun K kp=>?_));simp -implicitDefEqProofs (disch:=omega) only[go_sem];(repeat' (refine K _ ?_;clear K kp))) |((refine A6 rfl (fun h=>?_) (fun h=>?_)<;>try simp only[Af] at h)<;>(try (exfalso;omega))) |refine A5 ?_))
  (refine rJ results61 ?_;refine eN hE ?_;simp[A8,ren,renL]);rw[<-hno,aR (by omega)];rfl
theorem IB (G:GL)(k:Int):Con prog G 151 [.r (.int .i64 k)] [] 0 (Is (.r (.int .i64 (BR k))) [] 0) No:=
 Al (by kernel_rfl) (fun w z vs hz hr hG=>by
  obtain⟨v,r,rfl,h1,h2⟩:=hr.head;obtain rfl:=h1.r_inv;obtain rfl:=h2.of_nil
  exact(Go.Proofs.YtmohnlbeiaifhaaGreatDoor.NM k w).mono (fun e w' ⟨he,hw⟩=>by subst hw;exact⟨he,bE _ _⟩))
theorem Qb {α:Type}{ar:α->Nat}{l:List α}{i n:Nat}{o:α}(h:l[i]?=some o):cnt ar (l.take (i+1)).reverse (n+1)=1+cnt ar (l.take i).reverse (n+ar o):=by
 rw[aV,h];simp[cnt]
theorem IU (G:GL)(t:Bool)(l:List OP)(e:Nat)(hl:l.length≤1000)(he:e≤l.length)(hc: ∀(i n:Nat),i≤e->cnt BN (l.take e).reverse 1=(e - i)+cnt BN (l.take i).reverse (n+1)->0<i):
  Con prog G 118 [.ro t 5 (l.map eO),.r (.int .i64 e)] [] 0 (Is (.r (.int .i64 (Hq BN l e))) [] 0) No:=by
 refine cJ func118 fun E hG hE=>?_;subst hG;simp only[AX];(repeat' (first |refine A0 ?_ |refine A4 ?_ |((refine sR (fun K kp=>?_));simp -implicitDefEqProofs (disch:=omega) only[go_sem];(repeat' (refine K _ ?_;clear K kp)))));refine AB (fun q:Nat×Nat=>⟨[(6,.r (.int .i64 q.1)),(5,.r (.int .i64 q.2)),(0,.ro t 5 (l.map eO))],[],0⟩) (fun q=>q.1≤e/\q.2≤1+2 * (e - q.1)/\cnt BN (l.take e).reverse 1=(e - q.1)+cnt BN (l.take q.1).reverse q.2) (fun q=>q.1) (e,1) ?_ ?_ ?_
 ·exact⟨Nat.le_refl _,by simp,by simp⟩
 ·(exact iK hE [])
 rintro⟨i,n⟩ ⟨hi,hn,hno⟩;simp only at hi hn hno ⊢
 cases n with
 |zero=>
  have hb:Hq BN l e=i:=by unfold Hq;rw[hno];simp[cnt];omega
  (repeat' (first |refine A0 ?_ |refine A7 ?_ |((refine sR (fun K kp=>?_));simp -implicitDefEqProofs (disch:=omega) only[go_sem];(repeat' (refine K _ ?_;clear K kp))) |refine A1 rfl ?_ |refine A5 ?_));(refine rJ results118 ?_;refine eN hE ?_;simp[A8,ren,renL,hb])
 |succ n=>
  have h0:=hc i n hi hno;obtain⟨j,rfl⟩: ∃j,i=j+1:=⟨i - 1,by omega⟩;obtain⟨o,hx⟩: ∃o,l[j]?=some o:=⟨l[j]'(by omega),by simp⟩;rw[Qb hx] at hno;have wc:=IB E.G o.k;have hpb:=Go.Proofs.YtmohnlbeiaifhaaGreatDoor.EA o.k
  have hpa:BR o.k=(BN o:Nat):=by unfold BN;omega
  have e1:((j+1:Nat):Int) - 1=(j:Nat):=by omega
  have e2:((n+1:Nat):Int) - 1=(n:Nat):=by omega
  have e3:(n:Int)+(BN o:Nat)=(n+BN o:Nat):=by omega
  (repeat' (first |refine A0 ?_ |refine A4 ?_ |refine A3 ?_ |((first |refine sR (fun K kp=>?_) |refine cR wc ?_);simp -implicitDefEqProofs (disch:=omega) only[go_sem,hx,eO,e1,e2,hpa,Int.toNat_natCast,Int.natCast_nonneg];(repeat' (refine K _ ?_;clear K kp))) |((refine A6 rfl (fun h=>?_) (fun h=>?_)<;>try simp only[Af] at h)<;>(try (exfalso;omega)))));(refine XB ((j,n+BN o)) ?_ (iK hE []));refine⟨by omega,by dsimp only;omega,by dsimp only;omega⟩
def LB (k want:Int):Bool:=k==want||k==0
theorem Bn (G:GL)(k want:Int):Con prog G 161 [.r (.int .i64 k),.r (.int .i64 want)] [] 0 (Is (.r (.bool (LB k want))) [] 0) No:=by
 refine cJ func161 fun E hG hE=>?_;subst hG;simp only[AX];cases h:(k==want)
 ·(repeat' (first |refine A0 ?_ |((refine sR (fun K kp=>?_));simp only[go_sem,h];(repeat' (refine K _ ?_;clear K kp))) |refine A5 ?_))
  (refine rJ results161 ?_;refine eN hE ?_;simp[A8,ren,renL,LB,h])
 ·(repeat' (first |refine A0 ?_ |((refine sR (fun K kp=>?_));simp only[go_sem,h];(repeat' (refine K _ ?_;clear K kp))) |refine A5 ?_))
  (refine rJ results161 ?_;refine eN hE ?_;simp[A8,ren,renL,LB,h])
def Ac (l:List CO)(o:OP)(a b:Int):Except Int Int:=
 if o.k=1 then .ok o.vk
 else if o.k=2 then (if Ab l o.nm<0 then .error 8 else match l[(Ab l o.nm).toNat]? with
  |some c=> .ok c.k
  |none=> .error 8)
 else if o.k=3\/o.k=4 then (if (LB a 1&&LB b 1)=true then .ok 1 else .error 4)
 else if o.k=5 then (if LB a 1=true then .ok 1 else .error 4)
 else if o.k=6\/o.k=7 then (if (LB a b||b==0)=true then .ok 1 else .error 4)
 else if o.k=8\/o.k=9\/o.k=10 then (if (LB a 2&&LB b 2)=true then .ok 2 else .error 4)
 else .ok 1
def A_:Except Int Int->AV
 | .ok k=> .tup [.r (.int .i64 k),.r (.int .i64 0)]
 | .error e=> .tup [.r (.int .i64 0),.r (.int .i64 e)]
theorem J9 (l:List CO)(n:ByteArray)(h: ¬Ab l n<0): ∃c,l[(Ab l n).toNat]?=some c:=by
 have key: ∀(r:List CO)(k:Nat),¬B9 (KS n) r k<0-> ∃j,j<r.length/\B9 (KS n) r k=((k+j:Nat):Int):=by
  intro r
  induction r with
  |nil=>intro k h;simp[B9] at h
  |cons x r ih=>
   intro k h;unfold B9 at h ⊢
   by_cases e:KS n x=true
   ·exact⟨0,by simp,by rw[if_pos e];rfl⟩
   ·rw[if_neg e] at h ⊢
    obtain⟨j,h1,h2⟩:=ih (k+1) h;exact⟨j+1,by simp;omega,by rw[h2];congr 1;omega⟩
 obtain⟨j,h1,h2⟩:=key l 0 h
 have:(Ab l n).toNat=j:=by rw[Ab,h2];omega
 exact⟨l[j],by rw[this];simp[h1]⟩
theorem Vc (G:GL)(t:Bool)(l:List CO)(o:OP)(a b:Int)(hl:l.length≤1048576)(h1:1≤o.k)(h11:o.k≤11):Con prog G 137 [.agg (eO o),.ro t 2 (l.map eC),.r (.int .i64 a),.r (.int .i64 b)] [] 0 (Is (A_ (Ac l o a b)) [] 0) No:=by
 refine cJ func137 fun E hG hE=>?_;subst hG;simp only[AX]
 obtain h |h |h |h |h |h |h |h |h |h |h:o.k=1\/o.k=2\/o.k=3\/o.k=4\/o.k=5\/o.k=6\/o.k=7\/o.k=8\/o.k=9\/o.k=10\/o.k=11:=by omega
 ·(repeat' (first |refine A0 ?_ |refine A4 ?_ |((refine sR (fun K kp=>?_));simp only[go_sem,eO,h];(repeat' (refine K _ ?_;clear K kp))) |refine A2 rfl ?_ |refine A5 ?_))
  (refine rJ results137 ?_;refine eN hE ?_;simp[A8,ren,renL,Ac,h,A_])
 ·have fc:=Vz E.G t l o.nm hl
  by_cases hf:Ab l o.nm<0
  ·have d1:decide (Ab l o.nm<0)=true:=aE hf
   (repeat' (first |refine A0 ?_ |refine A4 ?_ |((first |refine sR (fun K kp=>?_) |refine cR fc ?_);simp only[go_sem,eO,h,d1];(repeat' (refine K _ ?_;clear K kp))) |refine A2 rfl ?_ |refine A1 rfl ?_ |refine A5 ?_));(refine rJ results137 ?_;refine eN hE ?_;simp[A8,ren,renL,Ac,h,hf,A_])
  ·have d1:decide (Ab l o.nm<0)=false:=aC hf
   obtain⟨c,hc⟩:=J9 l o.nm hf;have hg:(0≤Ab l o.nm)=True:=aK (by omega);(repeat' (first |refine A0 ?_ |refine A4 ?_ |refine A3 ?_ |((first |refine sR (fun K kp=>?_) |refine cR fc ?_);simp only[go_sem,eO,h,d1,hc,hg,eC];(repeat' (refine K _ ?_;clear K kp))) |refine A2 rfl ?_ |refine A1 rfl ?_ |refine A5 ?_));(refine rJ results137 ?_;refine eN hE ?_;simp[A8,ren,renL,Ac,h,hf,hc,A_])
 ·have ma:=Bn E.G a 1
  have mb:=Bn E.G b 1;cases ha:LB a 1
  ·rw[ha] at ma
   (repeat' (first |refine A0 ?_ |refine A4 ?_ |refine A3 ?_ |((first |refine sR (fun K kp=>?_) |refine cR ma ?_);simp only[go_sem,eO,h];(repeat' (refine K _ ?_;clear K kp))) |refine A2 rfl ?_ |refine A1 rfl ?_ |refine A5 ?_));(refine rJ results137 ?_;refine eN hE ?_;simp[A8,ren,renL,Ac,h,ha,A_])
  ·rw[ha] at ma
   cases hb:LB b 1
   ·rw[hb] at mb
    (repeat' (first |refine A0 ?_ |refine A4 ?_ |refine A3 ?_ |((first |refine sR (fun K kp=>?_) |refine cR ma ?_ |refine cR mb ?_);simp only[go_sem,eO,h];(repeat' (refine K _ ?_;clear K kp))) |refine A2 rfl ?_ |refine A1 rfl ?_ |refine A5 ?_));(refine rJ results137 ?_;refine eN hE ?_;simp[A8,ren,renL,Ac,h,ha,hb,A_])
   ·rw[hb] at mb
    (repeat' (first |refine A0 ?_ |refine A4 ?_ |refine A3 ?_ |((first |refine sR (fun K kp=>?_) |refine cR ma ?_ |refine cR mb ?_);simp only[go_sem,eO,h];(repeat' (refine K _ ?_;clear K kp))) |refine A2 rfl ?_ |refine A1 rfl ?_ |refine A5 ?_));(refine rJ results137 ?_;refine eN hE ?_;simp[A8,ren,renL,Ac,h,ha,hb,A_])
 ·have ma:=Bn E.G a 1
  have mb:=Bn E.G b 1;cases ha:LB a 1
  ·rw[ha] at ma
   (repeat' (first |refine A0 ?_ |refine A4 ?_ |((first |refine sR (fun K kp=>?_) |refine cR ma ?_);simp only[go_sem,eO,h];(repeat' (refine K _ ?_;clear K kp))) |refine A2 rfl ?_ |refine A1 rfl ?_ |refine A5 ?_));(refine rJ results137 ?_;refine eN hE ?_;simp[A8,ren,renL,Ac,h,ha,A_])
  ·rw[ha] at ma
   cases hb:LB b 1
   ·rw[hb] at mb
    (repeat' (first |refine A0 ?_ |refine A4 ?_ |((first |refine sR (fun K kp=>?_) |refine cR ma ?_ |refine cR mb ?_);simp only[go_sem,eO,h];(repeat' (refine K _ ?_;clear K kp))) |refine A2 rfl ?_ |refine A1 rfl ?_ |refine A5 ?_));(refine rJ results137 ?_;refine eN hE ?_;simp[A8,ren,renL,Ac,h,ha,hb,A_])
   ·rw[hb] at mb
    (repeat' (first |refine A0 ?_ |refine A4 ?_ |refine A3 ?_ |((first |refine sR (fun K kp=>?_) |refine cR ma ?_ |refine cR mb ?_);simp only[go_sem,eO,h];(repeat' (refine K _ ?_;clear K kp))) |refine A2 rfl ?_ |refine A1 rfl ?_ |refine A5 ?_));(refine rJ results137 ?_;refine eN hE ?_;simp[A8,ren,renL,Ac,h,ha,hb,A_])
 ·have ma:=Bn E.G a 1
  cases ha:LB a 1
  ·rw[ha] at ma
   (repeat' (first |refine A0 ?_ |refine A4 ?_ |((first |refine sR (fun K kp=>?_) |refine cR ma ?_);simp only[go_sem,eO,h];(repeat' (refine K _ ?_;clear K kp))) |refine A2 rfl ?_ |refine A1 rfl ?_ |refine A5 ?_));(refine rJ results137 ?_;refine eN hE ?_;simp[A8,ren,renL,Ac,h,ha,A_])
  ·rw[ha] at ma
   (repeat' (first |refine A0 ?_ |refine A4 ?_ |refine A3 ?_ |((first |refine sR (fun K kp=>?_) |refine cR ma ?_);simp only[go_sem,eO,h];(repeat' (refine K _ ?_;clear K kp))) |refine A2 rfl ?_ |refine A1 rfl ?_ |refine A5 ?_));(refine rJ results137 ?_;refine eN hE ?_;simp[A8,ren,renL,Ac,h,ha,A_])
 ·have ma:=Bn E.G a b
  cases ha:LB a b
  ·rw[ha] at ma
   cases hb:(b==0)
   ·(repeat' (first |refine A0 ?_ |refine A4 ?_ |refine A3 ?_ |((first |refine sR (fun K kp=>?_) |refine cR ma ?_);simp only[go_sem,eO,h,hb];(repeat' (refine K _ ?_;clear K kp))) |refine A2 rfl ?_ |refine A1 rfl ?_ |refine A5 ?_))
    (refine rJ results137 ?_;refine eN hE ?_;simp[A8,ren,renL,Ac,h,ha,hb,A_])
   ·(repeat' (first |refine A0 ?_ |refine A4 ?_ |refine A3 ?_ |((first |refine sR (fun K kp=>?_) |refine cR ma ?_);simp only[go_sem,eO,h,hb];(repeat' (refine K _ ?_;clear K kp))) |refine A2 rfl ?_ |refine A1 rfl ?_ |refine A5 ?_))
    (refine rJ results137 ?_;refine eN hE ?_;simp[A8,ren,renL,Ac,h,ha,hb,A_])
  ·rw[ha] at ma
   (repeat' (first |refine A0 ?_ |refine A4 ?_ |refine A3 ?_ |((first |refine sR (fun K kp=>?_) |refine cR ma ?_);simp only[go_sem,eO,h];(repeat' (refine K _ ?_;clear K kp))) |refine A2 rfl ?_ |refine A1 rfl ?_ |refine A5 ?_));(refine rJ results137 ?_;refine eN hE ?_;simp[A8,ren,renL,Ac,h,ha,A_])
 ·have ma:=Bn E.G a b
  cases ha:LB a b
  ·rw[ha] at ma
   cases hb:(b==0)
   ·(repeat' (first |refine A0 ?_ |refine A4 ?_ |((first |refine sR (fun K kp=>?_) |refine cR ma ?_);simp only[go_sem,eO,h,hb];(repeat' (refine K _ ?_;clear K kp))) |refine A2 rfl ?_ |refine A1 rfl ?_ |refine A5 ?_))
    (refine rJ results137 ?_;refine eN hE ?_;simp[A8,ren,renL,Ac,h,ha,hb,A_])
   ·(repeat' (first |refine A0 ?_ |refine A4 ?_ |refine A3 ?_ |((first |refine sR (fun K kp=>?_) |refine cR ma ?_);simp only[go_sem,eO,h,hb];(repeat' (refine K _ ?_;clear K kp))) |refine A2 rfl ?_ |refine A1 rfl ?_ |refine A5 ?_))
    (refine rJ results137 ?_;refine eN hE ?_;simp[A8,ren,renL,Ac,h,ha,hb,A_])
  ·rw[ha] at ma
   (repeat' (first |refine A0 ?_ |refine A4 ?_ |refine A3 ?_ |((first |refine sR (fun K kp=>?_) |refine cR ma ?_);simp only[go_sem,eO,h];(repeat' (refine K _ ?_;clear K kp))) |refine A2 rfl ?_ |refine A1 rfl ?_ |refine A5 ?_));(refine rJ results137 ?_;refine eN hE ?_;simp[A8,ren,renL,Ac,h,ha,A_])
 ·have ma:=Bn E.G a 2
  have mb:=Bn E.G b 2;cases ha:LB a 2
  ·rw[ha] at ma
   (repeat' (first |refine A0 ?_ |refine A4 ?_ |refine A3 ?_ |((first |refine sR (fun K kp=>?_) |refine cR ma ?_);simp only[go_sem,eO,h];(repeat' (refine K _ ?_;clear K kp))) |refine A2 rfl ?_ |refine A1 rfl ?_ |refine A5 ?_));(refine rJ results137 ?_;refine eN hE ?_;simp[A8,ren,renL,Ac,h,ha,A_])
  ·rw[ha] at ma
   cases hb:LB b 2
   ·rw[hb] at mb
    (repeat' (first |refine A0 ?_ |refine A4 ?_ |refine A3 ?_ |((first |refine sR (fun K kp=>?_) |refine cR ma ?_ |refine cR mb ?_);simp only[go_sem,eO,h];(repeat' (refine K _ ?_;clear K kp))) |refine A2 rfl ?_ |refine A1 rfl ?_ |refine A5 ?_));(refine rJ results137 ?_;refine eN hE ?_;simp[A8,ren,renL,Ac,h,ha,hb,A_])
   ·rw[hb] at mb
    (repeat' (first |refine A0 ?_ |refine A4 ?_ |refine A3 ?_ |((first |refine sR (fun K kp=>?_) |refine cR ma ?_ |refine cR mb ?_);simp only[go_sem,eO,h];(repeat' (refine K _ ?_;clear K kp))) |refine A2 rfl ?_ |refine A1 rfl ?_ |refine A5 ?_));(refine rJ results137 ?_;refine eN hE ?_;simp[A8,ren,renL,Ac,h,ha,hb,A_])
 ·have ma:=Bn E.G a 2
  have mb:=Bn E.G b 2;cases ha:LB a 2
  ·rw[ha] at ma
   (repeat' (first |refine A0 ?_ |refine A4 ?_ |refine A3 ?_ |((first |refine sR (fun K kp=>?_) |refine cR ma ?_);simp only[go_sem,eO,h];(repeat' (refine K _ ?_;clear K kp))) |refine A2 rfl ?_ |refine A1 rfl ?_ |refine A5 ?_));(refine rJ results137 ?_;refine eN hE ?_;simp[A8,ren,renL,Ac,h,ha,A_])
  ·rw[ha] at ma
   cases hb:LB b 2
   ·rw[hb] at mb
    (repeat' (first |refine A0 ?_ |refine A4 ?_ |refine A3 ?_ |((first |refine sR (fun K kp=>?_) |refine cR ma ?_ |refine cR mb ?_);simp only[go_sem,eO,h];(repeat' (refine K _ ?_;clear K kp))) |refine A2 rfl ?_ |refine A1 rfl ?_ |refine A5 ?_));(refine rJ results137 ?_;refine eN hE ?_;simp[A8,ren,renL,Ac,h,ha,hb,A_])
   ·rw[hb] at mb
    (repeat' (first |refine A0 ?_ |refine A4 ?_ |refine A3 ?_ |((first |refine sR (fun K kp=>?_) |refine cR ma ?_ |refine cR mb ?_);simp only[go_sem,eO,h];(repeat' (refine K _ ?_;clear K kp))) |refine A2 rfl ?_ |refine A1 rfl ?_ |refine A5 ?_));(refine rJ results137 ?_;refine eN hE ?_;simp[A8,ren,renL,Ac,h,ha,hb,A_])
 ·have ma:=Bn E.G a 2
  have mb:=Bn E.G b 2;cases ha:LB a 2
  ·rw[ha] at ma
   (repeat' (first |refine A0 ?_ |refine A4 ?_ |((first |refine sR (fun K kp=>?_) |refine cR ma ?_);simp only[go_sem,eO,h];(repeat' (refine K _ ?_;clear K kp))) |refine A2 rfl ?_ |refine A1 rfl ?_ |refine A5 ?_));(refine rJ results137 ?_;refine eN hE ?_;simp[A8,ren,renL,Ac,h,ha,A_])
  ·rw[ha] at ma
   cases hb:LB b 2
   ·rw[hb] at mb
    (repeat' (first |refine A0 ?_ |refine A4 ?_ |((first |refine sR (fun K kp=>?_) |refine cR ma ?_ |refine cR mb ?_);simp only[go_sem,eO,h];(repeat' (refine K _ ?_;clear K kp))) |refine A2 rfl ?_ |refine A1 rfl ?_ |refine A5 ?_));(refine rJ results137 ?_;refine eN hE ?_;simp[A8,ren,renL,Ac,h,ha,hb,A_])
   ·rw[hb] at mb
    (repeat' (first |refine A0 ?_ |refine A4 ?_ |refine A3 ?_ |((first |refine sR (fun K kp=>?_) |refine cR ma ?_ |refine cR mb ?_);simp only[go_sem,eO,h];(repeat' (refine K _ ?_;clear K kp))) |refine A2 rfl ?_ |refine A1 rfl ?_ |refine A5 ?_));(refine rJ results137 ?_;refine eN hE ?_;simp[A8,ren,renL,Ac,h,ha,hb,A_])
 ·(repeat' (first |refine A0 ?_ |refine A4 ?_ |refine A3 ?_ |((refine sR (fun K kp=>?_));simp only[go_sem,eO,h];(repeat' (refine K _ ?_;clear K kp))) |refine A1 rfl ?_ |refine A5 ?_))
  (refine rJ results137 ?_;refine eN hE ?_;simp[A8,ren,renL,Ac,h,A_])
theorem NL (G:GL)(o:OP)(h1:1≤o.k)(h11:o.k≤11):Con prog G 138 [.r (.int .i64 o.k)] [] 0 (Is (.r (.int .i64 (BN o))) [] 0) No:=by
 refine cJ func138 fun E hG hE=>?_;subst hG;simp only[AX]
 obtain h |h |h |h |h |h |h |h |h |h |h:o.k=1\/o.k=2\/o.k=3\/o.k=4\/o.k=5\/o.k=6\/o.k=7\/o.k=8\/o.k=9\/o.k=10\/o.k=11:=by omega
 all_goals
  (repeat' (first |refine A0 ?_ |refine A4 ?_ |refine A3 ?_ |((refine sR (fun K kp=>?_));simp -implicitDefEqProofs (disch:=omega) only[go_sem,h];(repeat' (refine K _ ?_;clear K kp))) |refine A2 rfl ?_ |refine A1 rfl ?_ |refine A5 ?_));(refine rJ results138 ?_;refine eN hE ?_;simp[A8,ren,renL,BN,BR,h])
theorem Gy (G:GL)(u t:Bool)(l:List CO)(o:OP)(a b:Int)(hl:l.length≤1048576)(h1:1≤o.k)(h11:o.k≤11):Con prog G 136 [.agg (eO o),.r (.int .i64 a),.r (.int .i64 b),.re u [.ro t 2 (l.map eC)] 0] [] 0 (Is (A_ (Ac l o a b)) [] 0) No:=by
 refine cJ func136 fun E hG hE=>?_;subst hG;simp only[AX];have mc:=Vc E.G t l o a b hl h1 h11
 cases hm:Ac l o a b with
 |error e=>
  rw[hm] at mc;simp only[A_] at mc;(repeat' (first |refine A0 ?_ |((first |refine sR (fun K kp=>?_) |refine cR mc ?_);simp -implicitDefEqProofs (disch:=omega) only[go_sem,eO];(repeat' (refine K _ ?_;clear K kp))) |refine A5 ?_));(refine rJ results136 ?_;refine eN hE ?_;simp[A8,ren,renL,A_])
 |ok k=>
  rw[hm] at mc;simp only[A_] at mc;(repeat' (first |refine A0 ?_ |((first |refine sR (fun K kp=>?_) |refine cR mc ?_);simp -implicitDefEqProofs (disch:=omega) only[go_sem,eO];(repeat' (refine K _ ?_;clear K kp))) |refine A5 ?_));(refine rJ results136 ?_;refine eN hE ?_;simp[A8,ren,renL,A_])
theorem Qj (G:GL)(t:Bool)(l:List OP)(e:Nat)(hl:l.length≤1000)(he:e≤l.length)(hk: ∀o ∈ l,1≤o.k/\o.k≤11)(hc: ∀(i n:Nat),i≤e->cnt BN (l.take e).reverse 1=(e - i)+cnt BN (l.take i).reverse (n+1)->0<i):
  Con prog G 93 [.ro t 5 (l.map eO),.r (.int .i64 e)] [] 0 (Is (.r (.int .i64 (Hq BN l e))) [] 0) No:=by
 refine cJ func93 fun E hG hE=>?_;subst hG;simp only[AX];(repeat' (first |refine A0 ?_ |refine A4 ?_ |((refine sR (fun K kp=>?_));simp -implicitDefEqProofs (disch:=omega) only[go_sem];(repeat' (refine K _ ?_;clear K kp)))));refine AB (fun q:Nat×Nat=>⟨[(5,.r (.int .i64 q.1)),(6,.r (.int .i64 q.2)),(0,.ro t 5 (l.map eO))],[],0⟩) (fun q=>q.1≤e/\q.2≤1+2 * (e - q.1)/\cnt BN (l.take e).reverse 1=(e - q.1)+cnt BN (l.take q.1).reverse q.2) (fun q=>q.1) (e,1) ?_ ?_ ?_
 ·exact⟨Nat.le_refl _,by simp,by simp⟩
 ·(exact iK hE [])
 rintro⟨i,n⟩ ⟨hi,hn,hno⟩;simp only at hi hn hno ⊢
 cases n with
 |zero=>
  have hb:Hq BN l e=i:=by unfold Hq;rw[hno];simp[cnt];omega
  (repeat' (first |refine A0 ?_ |refine A7 ?_ |((refine sR (fun K kp=>?_));simp -implicitDefEqProofs (disch:=omega) only[go_sem];(repeat' (refine K _ ?_;clear K kp))) |refine A1 rfl ?_ |refine A5 ?_));(refine rJ results93 ?_;refine eN hE ?_;simp[A8,ren,renL,hb])
 |succ n=>
  have h0:=hc i n hi hno;obtain⟨j,rfl⟩: ∃j,i=j+1:=⟨i - 1,by omega⟩;obtain⟨o,hx⟩: ∃o,l[j]?=some o:=⟨l[j]'(by omega),by simp⟩;rw[Qb hx] at hno;obtain⟨g1,g11⟩:=hk o (aB hx);have wc:=NL E.G o g1 g11;have h2:=P7 o
  have e4:(n:Int)+1+((BN o:Nat) - 1:Int)=(n+BN o:Nat):=by omega
  have e5:((n+1:Nat):Int)+((BN o:Nat) - 1:Int)=(n+BN o:Nat):=by omega
  have e1:((j+1:Nat):Int) - 1=(j:Nat):=by omega
  have e2:((n+1:Nat):Int) - 1=(n:Nat):=by omega
  have e3:(n:Int)+(BN o:Nat)=(n+BN o:Nat):=by omega
  (repeat' (first |refine A0 ?_ |refine A4 ?_ |refine A3 ?_ |((first |refine sR (fun K kp=>?_) |refine cR wc ?_);simp -implicitDefEqProofs (disch:=omega) only[go_sem,hx,eO,e1,e2,e4,e5,Int.toNat_natCast,Int.natCast_nonneg];(repeat' (refine K _ ?_;clear K kp))) |((refine A6 rfl (fun h=>?_) (fun h=>?_)<;>try simp only[Af] at h)<;>(try (exfalso;omega)))));(refine XB ((j,n+BN o)) ?_ (iK hE []));refine⟨by omega,by dsimp only;omega,by dsimp only;omega⟩
open Go.Proofs.YtmohnlbeiaifhaaGreatDoor (OP AH Bc AZ B0 DN BR AW)
def Az (key:ByteArray)(o:OP):Bool:=o.k==2&&o.nm.toList==key.toList
def Be (o:OP):Bool:=o.k==1&&o.vk !=0
def Aw (o:OP):V:=⟨o.vk,o.vn,o.vs⟩
def Cu (key:ByteArray)(nt:Bool):List OP->Option (Int×V)
 | [a,b,c]=>if (Az key a&&b.k==1)=true then (if b.vk=0 then none else if c.k=6/\nt=false then some (0,Aw b) else if c.k≠7 then none else if nt=true then some (-1,Aw b) else some (1,Aw b))
   else if (Az key b&&a.k==1)=true then (if a.vk=0 then none else if c.k=6/\nt=false then some (0,Aw a) else if c.k≠7 then none else if nt=true then some (1,Aw a) else some (-1,Aw a))
   else none
 |_=>none
def D8 (key:ByteArray)(ops:List OP):Option (Int×V):=match ops.getLast? with
 |none=>none
 |some o=>if o.k=5 then Cu key true ops.dropLast else Cu key false ops
def CY (key:ByteArray)(st:List UInt8×List UInt8)(ops:List OP):List UInt8×List UInt8:=match D8 key ops with
 |none=>st
 |some (w,v)=>(if w≤0/\Op.bytesLess st.1 (CL v)=true then CL v else st.1,if 0≤w/\(st.2=[]\/Op.bytesLess (CL v) st.2=true) then CL v else st.2)
def BD:RT OP->List (List OP)
 | .b o p q=>if o.k=3 then BD p++BD q else [(RT.b o p q).flat]
 |t=>[t.flat]
def CM (key:ByteArray)(st:List UInt8×List UInt8)(tr:RT OP):List UInt8×List UInt8:=(BD tr).foldl (CY key) st
theorem WB (a b:List UInt8):decide (Lib.compareBytes a b>0)=Op.bytesLess b a:=by
 rw[Go.Proofs.YtmohnlbeiaifhaaGreatDoor.Di]
 by_cases h:Op.bytesLess a b=true
 ·rw[if_pos h,Go.Proofs.YtmohnlbeiaifhaaGreatDoor.GZ _ _ h];rfl
 ·rw[if_neg h]
  by_cases h2:Op.bytesLess b a=true
  ·rw[if_pos h2,h2];rfl
  ·rw[if_neg h2];simp at h2;rw[h2];rfl
theorem WA (a b:List UInt8):decide (Lib.compareBytes a b<0)=Op.bytesLess a b:=by
 rw[Go.Proofs.YtmohnlbeiaifhaaGreatDoor.Di]
 by_cases h:Op.bytesLess a b=true
 ·rw[if_pos h,h];rfl
 ·rw[if_neg h]
  simp at h;rw[h]
  split<;>rfl
theorem CK (G:GL)(t:Bool)(l:List OP)(g:Nat)(caps:List AV)(p:OP->Bool)(hl:l.length≤1048576)(hcap: ∀st,C0 st caps=some caps)(hren: ∀f,renL f caps=caps)(hf: ∀G x,Con prog G g (.agg (eO x)::caps) [] 0 (Is (.r (.bool (p x))) [] 0) No):
  Con prog G 94 [.ro t 5 (l.map eO),.fn g caps] [] 0 (Is (.r (.int .i64 (B9 p l 0))) [] 0) No:=by
 refine cJ func94 fun E hG hE=>?_;subst hG;simp only[AX];(repeat' (first |refine A0 ?_ |refine A4 ?_ |((refine sR (fun K kp=>?_));simp -implicitDefEqProofs (disch:=omega) only[go_sem];(repeat' (refine K _ ?_;clear K kp)))));refine AB (fun k:Nat=>⟨[(8,.r (.int .i64 k)),(7,.r (.int .i64 l.length)),(0,.ro t 5 (l.map eO)),(1,.fn g caps)],[],0⟩) (fun k=>k≤l.length/\B9 p (l.drop k) k=B9 p l 0) (fun k=>l.length - k) 0 ?_ ?_ ?_
 ·simp
 ·(refine AJ hE [] rfl ?_ ?_<;>simp[Ai,AY,lk,ren,renL,AA,AU,hren]<;>(try omega))
 intro k ⟨hk,hno⟩
 by_cases hk':k<l.length
 ·obtain⟨x,hx⟩: ∃x,l[k]?=some x:=⟨l[k],by simp[hk']⟩
  have hd:=Am hx;rw[hd,B9] at hno;have hfx:=hf E.G x;simp only[eO] at hfx;(repeat' (first |refine A0 ?_ |refine A4 ?_ |refine A3 ?_ |((first |refine sR (fun K kp=>?_) |refine cR hfx ?_);simp -implicitDefEqProofs (disch:=omega) only[go_sem,hx,eO,hcap];(repeat' (refine K _ ?_;clear K kp))) |((refine A6 rfl (fun h=>?_) (fun h=>?_)<;>try simp only[Af] at h)<;>(try (exfalso;omega))) |refine A5 ?_))
  ·(refine rJ results94 ?_;refine eN hE ?_;simp[A8,ren,renL])
   rw[<-hno,if_pos h]
  ·(refine BF (k+1) ?_ ?_;rotate_left;(·(refine AJ hE [] rfl ?_ ?_<;>simp[Ai,AY,lk,ren,renL,AA,AU,hren]<;>(try omega))))
   exact⟨by omega,by rw[<-hno,if_neg (by simp[h])]⟩
 ·(repeat' (first |refine A0 ?_ |refine A7 ?_ |((refine sR (fun K kp=>?_));simp -implicitDefEqProofs (disch:=omega) only[go_sem];(repeat' (refine K _ ?_;clear K kp))) |((refine A6 rfl (fun h=>?_) (fun h=>?_)<;>try simp only[Af] at h)<;>(try (exfalso;omega))) |refine A5 ?_))
  (refine rJ results94 ?_;refine eN hE ?_;simp[A8,ren,renL]);rw[<-hno,aR (by omega)];rfl
theorem Gt (u:Bool)(key:ByteArray)(G:GL)(x:OP):Con prog G 95 [.agg (eO x),.re u [.r (.string key)] 0] [] 0 (Is (.r (.bool (Az key x))) [] 0) No:=by
 refine cJ func95 fun E hG hE=>?_;subst hG;simp only[AX];cases h2:(x.k==2)
 all_goals
  (repeat' (first |refine A0 ?_ |((refine sR (fun K kp=>?_));simp -implicitDefEqProofs (disch:=omega) only[go_sem,eO,h2];(repeat' (refine K _ ?_;clear K kp))) |refine A5 ?_));(refine rJ results95 ?_;refine eN hE ?_;simp[A8,ren,renL,Az,h2])
theorem Gs (G:GL)(x:OP):Con prog G 96 [.agg (eO x)] [] 0 (Is (.r (.bool (Be x))) [] 0) No:=by
 refine cJ func96 fun E hG hE=>?_;subst hG;simp only[AX];cases h2:(x.k==1)
 all_goals
  (repeat' (first |refine A0 ?_ |((refine sR (fun K kp=>?_));simp -implicitDefEqProofs (disch:=omega) only[go_sem,eO,h2];(repeat' (refine K _ ?_;clear K kp))) |refine A5 ?_));(refine rJ results96 ?_;refine eN hE ?_;simp[A8,ren,renL,Be,h2])
def Ax:V:=⟨0,0,⟨#[]⟩⟩
def BB:Option (Int×V)->AV
 |none=> .tup [.r (.int .i64 0),.agg (eV Ax),.r (.bool false)]
 |some (w,v)=> .tup [.r (.int .i64 w),.agg (eV v),.r (.bool true)]
theorem NY {key:ByteArray}{nt:Bool}{l:List OP}(h:l.length≠3):Cu key nt l=none:=by
 match l,h with
 | [],_=>rfl
 | [_],_=>rfl
 | [_,_],_=>rfl
 |_::_::_::_::_,_=>rfl
theorem L_ (G:GL)(t:Bool)(key:ByteArray)(ops:List OP)(n:Nat)(o:OP)(hn:ops.length=n+1)(hx:ops[n]?=some o)(hl:n≤1000)(hs:if o.k=5 then n≠3 else n≠2):
  Con prog G 66 [.r (.string key),.ro t 5 (ops.map eO)] [] 0 (Is (BB (D8 key ops)) [] 0) No:=by
 have hgl:ops.getLast?=some o:=by rw[List.getLast?_eq_getElem?,hn,dF,hx]
 have hU:D8 key ops=none:=by
  rw[D8,hgl];simp only;split at hs
  ·rename_i h5;rw[if_pos h5,NY (by rw[List.length_dropLast];omega)]
  ·rename_i h5;rw[if_neg h5,NY (by omega)]
 rw[hU];simp only[BB,Ax,eV];refine cJ func66 fun E hG hE=>?_;subst hG;simp only[AX]
 have e1:(ops.length:Int) - 1=(n:Nat):=by omega
 by_cases h5:o.k=5
 ·rw[if_pos h5] at hs
  have hle:(n:Int)≤ops.length:=by omega
  have htl:(List.take n (List.map eO ops)).length=n:=by rw[aS,List.length_map];omega
  have d1:((n:Int) !=3)=true:=by simp;omega
  (repeat' (first |refine A0 ?_ |((refine sR (fun K kp=>?_));simp -implicitDefEqProofs (disch:=omega) only[go_sem,hx,eO,e1,h5,d1,htl];(repeat' (refine K _ ?_;clear K kp))) |refine A2 rfl ?_ |refine A5 ?_));(refine rJ results66 ?_;exact eQ hE)
 ·rw[if_neg h5] at hs
  have d1:((ops.length:Int) !=3)=true:=by simp;omega
  have k5:(o.k==5)=false:=by simpa using h5
  (repeat' (first |refine A0 ?_ |refine A3 ?_ |((refine sR (fun K kp=>?_));simp -implicitDefEqProofs (disch:=omega) only[go_sem,hx,eO,e1,k5,d1];(repeat' (refine K _ ?_;clear K kp))) |refine A2 rfl ?_ |refine A1 rfl ?_ |refine A5 ?_));(refine rJ results66 ?_;exact eQ hE)
theorem LZ (G:GL)(t:Bool)(key:ByteArray)(nt:Bool)(a b c o:OP)(ho:o.k=5)(hc:nt=false->c.k≠5):
  Con prog G 66 [.r (.string key),.ro t 5 ((if nt then [a,b,c,o] else [a,b,c]).map eO)] [] 0 (Is (BB (Cu key nt [a,b,c])) [] 0) No:=by
 refine cJ func66 fun E hG hE=>?_;subst hG;simp only[AX]
 have b2:Cu key nt [a,b,c]=if (Az key a&&b.k==1)=true then (if b.vk=0 then none else if c.k=6/\nt=false then some (0,Aw b) else if c.k≠7 then none else if nt=true then some (-1,Aw b) else some (1,Aw b))
  else if (Az key b&&a.k==1)=true then (if a.vk=0 then none else if c.k=6/\nt=false then some (0,Aw a) else if c.k≠7 then none else if nt=true then some (1,Aw a) else some (-1,Aw a))
  else none:=rfl
 have k5':nt=false->(c.k==5)=false:=fun h=>by simpa using hc h
 by_cases hf:Az key a=true/\b.k=1
 ·obtain⟨hf1,kb⟩:=hf
  have ka:a.k=2:=by simp[Az] at hf1;exact hf1.1
  have kn:(a.nm.toList==key.toList)=true:=by simp only[Az,aJ] at hf1;exact hf1.2
  by_cases hv:b.vk=0
  ·have hS:Cu key nt [a,b,c]=none:=by rw[b2];simp[hf1,kb,hv]
   rw[hS];cases nt
   ·have k5:=k5' rfl
    simp only[if_neg (show ¬(false=true) by decide),List.map_cons,List.map_nil];(repeat' (first |refine A0 ?_ |refine A3 ?_ |((refine sR (fun K kp=>?_));simp -implicitDefEqProofs (disch:=omega) only[go_sem,eO,eV,Ax,k5,ka,kb,kn,hv];(repeat' (refine K _ ?_;clear K kp))) |refine A2 rfl ?_ |refine A1 rfl ?_ |refine A5 ?_));(refine rJ results66 ?_;refine eN hE ?_;simp[A8,ren,renL,BB,eV,Ax,Aw])
   ·skip
    simp only[if_true,List.map_cons,List.map_nil];(repeat' (first |refine A0 ?_ |refine A3 ?_ |((refine sR (fun K kp=>?_));simp -implicitDefEqProofs (disch:=omega) only[go_sem,eO,eV,Ax,ho,ka,kb,kn,hv];(repeat' (refine K _ ?_;clear K kp))) |refine A2 rfl ?_ |refine A1 rfl ?_ |refine A5 ?_));(refine rJ results66 ?_;refine eN hE ?_;simp[A8,ren,renL,BB,eV,Ax,Aw])
  ·have hv0:(b.vk==0)=false:=by simpa using hv
   by_cases h6:c.k=6
   ·cases nt
    ·have k5:=k5' rfl
     have hS:Cu key false [a,b,c]=some (0,Aw b):=by rw[b2];simp[hf1,kb,hv,h6]
     rw[hS];simp only[if_neg (show ¬(false=true) by decide),List.map_cons,List.map_nil];(repeat' (first |refine A0 ?_ |refine A3 ?_ |((first |refine sR (fun K kp=>?_) |refine sI (id:=17) mixed 2 (fun K kp=>?_));simp -implicitDefEqProofs (disch:=omega) only[go_sem,eO,eV,Ax,k5,ka,kb,kn,hv0,h6];(repeat' (refine K _ ?_;clear K kp))) |refine A2 rfl ?_ |refine A1 rfl ?_ |refine A5 ?_));(refine rJ results66 ?_;refine eN hE ?_;simp[A8,ren,renL,BB,eV,Ax,Aw])
    ·have hS:Cu key true [a,b,c]=none:=by rw[b2];simp[hf1,kb,hv,h6]
     rw[hS];simp only[if_true,List.map_cons,List.map_nil];(repeat' (first |refine A0 ?_ |refine A3 ?_ |((refine sR (fun K kp=>?_));simp -implicitDefEqProofs (disch:=omega) only[go_sem,eO,eV,Ax,ho,ka,kb,kn,hv0,h6];(repeat' (refine K _ ?_;clear K kp))) |refine A2 rfl ?_ |refine A1 rfl ?_ |refine A5 ?_));(refine rJ results66 ?_;refine eN hE ?_;simp[A8,ren,renL,BB,eV,Ax,Aw])
   ·have k6:(c.k==6)=false:=by simpa using h6
    by_cases h7:c.k=7
    ·cases nt
     ·have k5:=k5' rfl
      have hS:Cu key false [a,b,c]=some (1,Aw b):=by rw[b2];simp[hf1,kb,hv,h7]
      rw[hS];simp only[if_neg (show ¬(false=true) by decide),List.map_cons,List.map_nil];(repeat' (first |refine A0 ?_ |refine A3 ?_ |((first |refine sR (fun K kp=>?_) |refine sI (id:=21) mixed 2 (fun K kp=>?_));simp -implicitDefEqProofs (disch:=omega) only[go_sem,eO,eV,Ax,k5,ka,kb,kn,hv0,h7];(repeat' (refine K _ ?_;clear K kp))) |refine A2 rfl ?_ |refine A1 rfl ?_ |refine A5 ?_));(refine rJ results66 ?_;refine eN hE ?_;simp[A8,ren,renL,BB,eV,Ax,Aw])
     ·skip
      have hS:Cu key true [a,b,c]=some (-1,Aw b):=by rw[b2];simp[hf1,kb,hv,h7]
      rw[hS];simp only[if_true,List.map_cons,List.map_nil];(repeat' (first |refine A0 ?_ |refine A3 ?_ |((first |refine sR (fun K kp=>?_) |refine sI (id:=22) mixed 2 (fun K kp=>?_));simp -implicitDefEqProofs (disch:=omega) only[go_sem,eO,eV,Ax,ho,ka,kb,kn,hv0,h7];(repeat' (refine K _ ?_;clear K kp))) |refine A2 rfl ?_ |refine A1 rfl ?_ |refine A5 ?_));(refine rJ results66 ?_;refine eN hE ?_;simp[A8,ren,renL,BB,eV,Ax,Aw])
    ·have k7:(c.k !=7)=true:=by simpa using h7
     have hS:Cu key nt [a,b,c]=none:=by rw[b2];simp[hf1,kb,hv,h6,h7]
     rw[hS];cases nt
     ·have k5:=k5' rfl
      simp only[if_neg (show ¬(false=true) by decide),List.map_cons,List.map_nil];(repeat' (first |refine A0 ?_ |refine A3 ?_ |((refine sR (fun K kp=>?_));simp -implicitDefEqProofs (disch:=omega) only[go_sem,eO,eV,Ax,k5,ka,kb,kn,hv0,k6,k7];(repeat' (refine K _ ?_;clear K kp))) |refine A2 rfl ?_ |refine A1 rfl ?_ |refine A5 ?_));(refine rJ results66 ?_;refine eN hE ?_;simp[A8,ren,renL,BB,eV,Ax,Aw])
     ·skip
      simp only[if_true,List.map_cons,List.map_nil];(repeat' (first |refine A0 ?_ |refine A3 ?_ |((refine sR (fun K kp=>?_));simp -implicitDefEqProofs (disch:=omega) only[go_sem,eO,eV,Ax,ho,ka,kb,kn,hv0,k6,k7];(repeat' (refine K _ ?_;clear K kp))) |refine A2 rfl ?_ |refine A1 rfl ?_ |refine A5 ?_));(refine rJ results66 ?_;refine eN hE ?_;simp[A8,ren,renL,BB,eV,Ax,Aw])
 by_cases hg:Az key b=true/\a.k=1
 ·obtain⟨hg1,ka⟩:=hg
  have kb:b.k=2:=by simp[Az] at hg1;exact hg1.1
  have kn:(b.nm.toList==key.toList)=true:=by simp only[Az,aJ] at hg1;exact hg1.2
  have ca:Az key a=false:=by simp[Az,ka]
  by_cases hv:a.vk=0
  ·have hS:Cu key nt [a,b,c]=none:=by rw[b2];simp[hg1,ka,ca,hv]
   rw[hS];cases nt
   ·have k5:=k5' rfl
    simp only[if_neg (show ¬(false=true) by decide),List.map_cons,List.map_nil];(repeat' (first |refine A0 ?_ |refine A3 ?_ |((refine sR (fun K kp=>?_));simp -implicitDefEqProofs (disch:=omega) only[go_sem,eO,eV,Ax,k5,ka,kb,kn,hv];(repeat' (refine K _ ?_;clear K kp))) |refine A2 rfl ?_ |refine A1 rfl ?_ |refine A5 ?_));(refine rJ results66 ?_;refine eN hE ?_;simp[A8,ren,renL,BB,eV,Ax,Aw])
   ·skip
    simp only[if_true,List.map_cons,List.map_nil];(repeat' (first |refine A0 ?_ |refine A3 ?_ |((refine sR (fun K kp=>?_));simp -implicitDefEqProofs (disch:=omega) only[go_sem,eO,eV,Ax,ho,ka,kb,kn,hv];(repeat' (refine K _ ?_;clear K kp))) |refine A2 rfl ?_ |refine A1 rfl ?_ |refine A5 ?_));(refine rJ results66 ?_;refine eN hE ?_;simp[A8,ren,renL,BB,eV,Ax,Aw])
  ·have hv0:(a.vk==0)=false:=by simpa using hv
   by_cases h6:c.k=6
   ·cases nt
    ·have k5:=k5' rfl
     have hS:Cu key false [a,b,c]=some (0,Aw a):=by rw[b2];simp[hg1,ka,ca,hv,h6]
     rw[hS];simp only[if_neg (show ¬(false=true) by decide),List.map_cons,List.map_nil];(repeat' (first |refine A0 ?_ |refine A3 ?_ |((first |refine sR (fun K kp=>?_) |refine sI (id:=17) mixed 2 (fun K kp=>?_));simp -implicitDefEqProofs (disch:=omega) only[go_sem,eO,eV,Ax,k5,ka,kb,kn,hv0,h6];(repeat' (refine K _ ?_;clear K kp))) |refine A2 rfl ?_ |refine A1 rfl ?_ |refine A5 ?_));(refine rJ results66 ?_;refine eN hE ?_;simp[A8,ren,renL,BB,eV,Ax,Aw])
    ·have hS:Cu key true [a,b,c]=none:=by rw[b2];simp[hg1,ka,ca,hv,h6]
     rw[hS];simp only[if_true,List.map_cons,List.map_nil];(repeat' (first |refine A0 ?_ |refine A3 ?_ |((refine sR (fun K kp=>?_));simp -implicitDefEqProofs (disch:=omega) only[go_sem,eO,eV,Ax,ho,ka,kb,kn,hv0,h6];(repeat' (refine K _ ?_;clear K kp))) |refine A2 rfl ?_ |refine A1 rfl ?_ |refine A5 ?_));(refine rJ results66 ?_;refine eN hE ?_;simp[A8,ren,renL,BB,eV,Ax,Aw])
   ·have k6:(c.k==6)=false:=by simpa using h6
    by_cases h7:c.k=7
    ·cases nt
     ·have k5:=k5' rfl
      have hS:Cu key false [a,b,c]=some (-1,Aw a):=by rw[b2];simp[hg1,ka,ca,hv,h7]
      rw[hS];simp only[if_neg (show ¬(false=true) by decide),List.map_cons,List.map_nil];(repeat' (first |refine A0 ?_ |refine A3 ?_ |((first |refine sR (fun K kp=>?_) |refine sI (id:=22) mixed 2 (fun K kp=>?_));simp -implicitDefEqProofs (disch:=omega) only[go_sem,eO,eV,Ax,k5,ka,kb,kn,hv0,h7];(repeat' (refine K _ ?_;clear K kp))) |refine A1 rfl ?_ |refine A5 ?_));(refine rJ results66 ?_;refine eN hE ?_;simp[A8,ren,renL,BB,eV,Ax,Aw])
     ·skip
      have hS:Cu key true [a,b,c]=some (1,Aw a):=by rw[b2];simp[hg1,ka,ca,hv,h7]
      rw[hS];simp only[if_true,List.map_cons,List.map_nil];(repeat' (first |refine A0 ?_ |refine A3 ?_ |((first |refine sR (fun K kp=>?_) |refine sI (id:=21) mixed 2 (fun K kp=>?_));simp -implicitDefEqProofs (disch:=omega) only[go_sem,eO,eV,Ax,ho,ka,kb,kn,hv0,h7];(repeat' (refine K _ ?_;clear K kp))) |refine A2 rfl ?_ |refine A1 rfl ?_ |refine A5 ?_));(refine rJ results66 ?_;refine eN hE ?_;simp[A8,ren,renL,BB,eV,Ax,Aw])
    ·have k7:(c.k !=7)=true:=by simpa using h7
     have hS:Cu key nt [a,b,c]=none:=by rw[b2];simp[hg1,ka,ca,hv,h6,h7]
     rw[hS];cases nt
     ·have k5:=k5' rfl
      simp only[if_neg (show ¬(false=true) by decide),List.map_cons,List.map_nil];(repeat' (first |refine A0 ?_ |refine A3 ?_ |((refine sR (fun K kp=>?_));simp -implicitDefEqProofs (disch:=omega) only[go_sem,eO,eV,Ax,k5,ka,kb,kn,hv0,k6,k7];(repeat' (refine K _ ?_;clear K kp))) |refine A2 rfl ?_ |refine A1 rfl ?_ |refine A5 ?_));(refine rJ results66 ?_;refine eN hE ?_;simp[A8,ren,renL,BB,eV,Ax,Aw])
     ·skip
      simp only[if_true,List.map_cons,List.map_nil];(repeat' (first |refine A0 ?_ |refine A3 ?_ |((refine sR (fun K kp=>?_));simp -implicitDefEqProofs (disch:=omega) only[go_sem,eO,eV,Ax,ho,ka,kb,kn,hv0,k6,k7];(repeat' (refine K _ ?_;clear K kp))) |refine A2 rfl ?_ |refine A1 rfl ?_ |refine A5 ?_));(refine rJ results66 ?_;refine eN hE ?_;simp[A8,ren,renL,BB,eV,Ax,Aw])
 have hS:Cu key nt [a,b,c]=none:=by
  have f1:(Az key a&&b.k==1)=false:=by
   cases h1:Az key a
   ·rfl
   ·cases h2:(b.k==1)
    ·rfl
    ·exact(hf ⟨h1,by simpa using h2⟩).elim
  have f2:(Az key b&&a.k==1)=false:=by
   cases h1:Az key b
   ·rfl
   ·cases h2:(a.k==1)
    ·rfl
    ·exact(hg ⟨h1,by simpa using h2⟩).elim
  rw[b2,f1,f2];simp
 rw[hS]
 have fA:((a.k==2)=false\/(a.k=2/\(a.nm.toList==key.toList)=false))\/((a.k=2/\(a.nm.toList==key.toList)=true)/\(b.k==1)=false):=by
  cases h1:(a.k==2)
  ·exact .inl (.inl rfl)
  ·have h1':a.k=2:=by simpa using h1
   cases h2:(a.nm.toList==key.toList)
   ·exact .inl (.inr ⟨h1',rfl⟩)
   ·refine .inr ⟨⟨h1',rfl⟩,?_⟩
    cases h3:(b.k==1)
    ·rfl
    ·exact(hf ⟨by simp[Az,h1',by simpa using h2],by simpa using h3⟩).elim
 have fB:((b.k==2)=false\/(b.k=2/\(b.nm.toList==key.toList)=false))\/((b.k=2/\(b.nm.toList==key.toList)=true)/\(a.k==1)=false):=by
  cases h1:(b.k==2)
  ·exact .inl (.inl rfl)
  ·have h1':b.k=2:=by simpa using h1
   cases h2:(b.nm.toList==key.toList)
   ·exact .inl (.inr ⟨h1',rfl⟩)
   ·refine .inr ⟨⟨h1',rfl⟩,?_⟩
    cases h3:(a.k==1)
    ·rfl
    ·exact(hg ⟨by simp[Az,h1',by simpa using h2],by simpa using h3⟩).elim
 clear hf hg hS b2
 rcases fA with (pa |⟨pa,qa⟩) |⟨⟨pa,qa⟩,ra⟩
 ·rcases fB with (pb |⟨pb,qb⟩) |⟨⟨pb,qb⟩,rb⟩
  ·cases nt
   ·have k5:=k5' rfl
    simp only[if_neg (show ¬(false=true) by decide),List.map_cons,List.map_nil];(repeat' (first |refine A0 ?_ |refine A3 ?_ |((refine sR (fun K kp=>?_));simp -implicitDefEqProofs (disch:=omega) only[go_sem,eO,eV,Ax,k5,pa,pb];(repeat' (refine K _ ?_;clear K kp))) |refine A2 rfl ?_ |refine A1 rfl ?_ |refine A5 ?_));(refine rJ results66 ?_;refine eN hE ?_;simp[A8,ren,renL,BB,eV,Ax,Aw])
   ·skip
    simp only[if_true,List.map_cons,List.map_nil];(repeat' (first |refine A0 ?_ |refine A3 ?_ |((refine sR (fun K kp=>?_));simp -implicitDefEqProofs (disch:=omega) only[go_sem,eO,eV,Ax,ho,pa,pb];(repeat' (refine K _ ?_;clear K kp))) |refine A2 rfl ?_ |refine A1 rfl ?_ |refine A5 ?_));(refine rJ results66 ?_;refine eN hE ?_;simp[A8,ren,renL,BB,eV,Ax,Aw])
  ·cases nt
   ·have k5:=k5' rfl
    simp only[if_neg (show ¬(false=true) by decide),List.map_cons,List.map_nil];(repeat' (first |refine A0 ?_ |refine A3 ?_ |((refine sR (fun K kp=>?_));simp -implicitDefEqProofs (disch:=omega) only[go_sem,eO,eV,Ax,k5,pa,pb,qb];(repeat' (refine K _ ?_;clear K kp))) |refine A2 rfl ?_ |refine A1 rfl ?_ |refine A5 ?_));(refine rJ results66 ?_;refine eN hE ?_;simp[A8,ren,renL,BB,eV,Ax,Aw])
   ·skip
    simp only[if_true,List.map_cons,List.map_nil];(repeat' (first |refine A0 ?_ |refine A3 ?_ |((refine sR (fun K kp=>?_));simp -implicitDefEqProofs (disch:=omega) only[go_sem,eO,eV,Ax,ho,pa,pb,qb];(repeat' (refine K _ ?_;clear K kp))) |refine A2 rfl ?_ |refine A1 rfl ?_ |refine A5 ?_));(refine rJ results66 ?_;refine eN hE ?_;simp[A8,ren,renL,BB,eV,Ax,Aw])
  ·cases nt
   ·have k5:=k5' rfl
    simp only[if_neg (show ¬(false=true) by decide),List.map_cons,List.map_nil];(repeat' (first |refine A0 ?_ |refine A3 ?_ |((refine sR (fun K kp=>?_));simp -implicitDefEqProofs (disch:=omega) only[go_sem,eO,eV,Ax,k5,pa,pb,qb,rb];(repeat' (refine K _ ?_;clear K kp))) |refine A2 rfl ?_ |refine A1 rfl ?_ |refine A5 ?_));(refine rJ results66 ?_;refine eN hE ?_;simp[A8,ren,renL,BB,eV,Ax,Aw])
   ·skip
    simp only[if_true,List.map_cons,List.map_nil];(repeat' (first |refine A0 ?_ |refine A3 ?_ |((refine sR (fun K kp=>?_));simp -implicitDefEqProofs (disch:=omega) only[go_sem,eO,eV,Ax,ho,pa,pb,qb,rb];(repeat' (refine K _ ?_;clear K kp))) |refine A2 rfl ?_ |refine A1 rfl ?_ |refine A5 ?_));(refine rJ results66 ?_;refine eN hE ?_;simp[A8,ren,renL,BB,eV,Ax,Aw])
 ·rcases fB with (pb |⟨pb,qb⟩) |⟨⟨pb,qb⟩,rb⟩
  ·cases nt
   ·have k5:=k5' rfl
    simp only[if_neg (show ¬(false=true) by decide),List.map_cons,List.map_nil];(repeat' (first |refine A0 ?_ |refine A3 ?_ |((refine sR (fun K kp=>?_));simp -implicitDefEqProofs (disch:=omega) only[go_sem,eO,eV,Ax,k5,pa,qa,pb];(repeat' (refine K _ ?_;clear K kp))) |refine A2 rfl ?_ |refine A1 rfl ?_ |refine A5 ?_));(refine rJ results66 ?_;refine eN hE ?_;simp[A8,ren,renL,BB,eV,Ax,Aw])
   ·skip
    simp only[if_true,List.map_cons,List.map_nil];(repeat' (first |refine A0 ?_ |refine A3 ?_ |((refine sR (fun K kp=>?_));simp -implicitDefEqProofs (disch:=omega) only[go_sem,eO,eV,Ax,ho,pa,qa,pb];(repeat' (refine K _ ?_;clear K kp))) |refine A2 rfl ?_ |refine A1 rfl ?_ |refine A5 ?_));(refine rJ results66 ?_;refine eN hE ?_;simp[A8,ren,renL,BB,eV,Ax,Aw])
  ·cases nt
   ·have k5:=k5' rfl
    simp only[if_neg (show ¬(false=true) by decide),List.map_cons,List.map_nil];(repeat' (first |refine A0 ?_ |refine A3 ?_ |((refine sR (fun K kp=>?_));simp -implicitDefEqProofs (disch:=omega) only[go_sem,eO,eV,Ax,k5,pa,qa,pb,qb];(repeat' (refine K _ ?_;clear K kp))) |refine A2 rfl ?_ |refine A1 rfl ?_ |refine A5 ?_));(refine rJ results66 ?_;refine eN hE ?_;simp[A8,ren,renL,BB,eV,Ax,Aw])
   ·skip
    simp only[if_true,List.map_cons,List.map_nil];(repeat' (first |refine A0 ?_ |refine A3 ?_ |((refine sR (fun K kp=>?_));simp -implicitDefEqProofs (disch:=omega) only[go_sem,eO,eV,Ax,ho,pa,qa,pb,qb];(repeat' (refine K _ ?_;clear K kp))) |refine A2 rfl ?_ |refine A1 rfl ?_ |refine A5 ?_));(refine rJ results66 ?_;refine eN hE ?_;simp[A8,ren,renL,BB,eV,Ax,Aw])
  ·cases nt
   ·have k5:=k5' rfl
    simp only[if_neg (show ¬(false=true) by decide),List.map_cons,List.map_nil];(repeat' (first |refine A0 ?_ |refine A3 ?_ |((refine sR (fun K kp=>?_));simp -implicitDefEqProofs (disch:=omega) only[go_sem,eO,eV,Ax,k5,pa,qa,pb,qb,rb];(repeat' (refine K _ ?_;clear K kp))) |refine A2 rfl ?_ |refine A1 rfl ?_ |refine A5 ?_));(refine rJ results66 ?_;refine eN hE ?_;simp[A8,ren,renL,BB,eV,Ax,Aw])
   ·skip
    simp only[if_true,List.map_cons,List.map_nil];(repeat' (first |refine A0 ?_ |refine A3 ?_ |((refine sR (fun K kp=>?_));simp -implicitDefEqProofs (disch:=omega) only[go_sem,eO,eV,Ax,ho,pa,qa,pb,qb,rb];(repeat' (refine K _ ?_;clear K kp))) |refine A2 rfl ?_ |refine A1 rfl ?_ |refine A5 ?_));(refine rJ results66 ?_;refine eN hE ?_;simp[A8,ren,renL,BB,eV,Ax,Aw])
 ·rcases fB with (pb |⟨pb,qb⟩) |⟨⟨pb,qb⟩,rb⟩
  ·cases nt
   ·have k5:=k5' rfl
    simp only[if_neg (show ¬(false=true) by decide),List.map_cons,List.map_nil];(repeat' (first |refine A0 ?_ |refine A3 ?_ |((refine sR (fun K kp=>?_));simp -implicitDefEqProofs (disch:=omega) only[go_sem,eO,eV,Ax,k5,pa,qa,ra,pb];(repeat' (refine K _ ?_;clear K kp))) |refine A2 rfl ?_ |refine A1 rfl ?_ |refine A5 ?_));(refine rJ results66 ?_;refine eN hE ?_;simp[A8,ren,renL,BB,eV,Ax,Aw])
   ·skip
    simp only[if_true,List.map_cons,List.map_nil];(repeat' (first |refine A0 ?_ |refine A3 ?_ |((refine sR (fun K kp=>?_));simp -implicitDefEqProofs (disch:=omega) only[go_sem,eO,eV,Ax,ho,pa,qa,ra,pb];(repeat' (refine K _ ?_;clear K kp))) |refine A2 rfl ?_ |refine A1 rfl ?_ |refine A5 ?_));(refine rJ results66 ?_;refine eN hE ?_;simp[A8,ren,renL,BB,eV,Ax,Aw])
  ·cases nt
   ·have k5:=k5' rfl
    simp only[if_neg (show ¬(false=true) by decide),List.map_cons,List.map_nil];(repeat' (first |refine A0 ?_ |refine A3 ?_ |((refine sR (fun K kp=>?_));simp -implicitDefEqProofs (disch:=omega) only[go_sem,eO,eV,Ax,k5,pa,qa,ra,pb,qb];(repeat' (refine K _ ?_;clear K kp))) |refine A2 rfl ?_ |refine A1 rfl ?_ |refine A5 ?_));(refine rJ results66 ?_;refine eN hE ?_;simp[A8,ren,renL,BB,eV,Ax,Aw])
   ·skip
    simp only[if_true,List.map_cons,List.map_nil];(repeat' (first |refine A0 ?_ |refine A3 ?_ |((refine sR (fun K kp=>?_));simp -implicitDefEqProofs (disch:=omega) only[go_sem,eO,eV,Ax,ho,pa,qa,ra,pb,qb];(repeat' (refine K _ ?_;clear K kp))) |refine A2 rfl ?_ |refine A1 rfl ?_ |refine A5 ?_));(refine rJ results66 ?_;refine eN hE ?_;simp[A8,ren,renL,BB,eV,Ax,Aw])
  ·cases nt
   ·have k5:=k5' rfl
    simp only[if_neg (show ¬(false=true) by decide),List.map_cons,List.map_nil];(repeat' (first |refine A0 ?_ |refine A3 ?_ |((refine sR (fun K kp=>?_));simp -implicitDefEqProofs (disch:=omega) only[go_sem,eO,eV,Ax,k5,pa,qa,ra,pb,qb,rb];(repeat' (refine K _ ?_;clear K kp))) |refine A2 rfl ?_ |refine A1 rfl ?_ |refine A5 ?_));(refine rJ results66 ?_;refine eN hE ?_;simp[A8,ren,renL,BB,eV,Ax,Aw])
   ·skip
    simp only[if_true,List.map_cons,List.map_nil];(repeat' (first |refine A0 ?_ |refine A3 ?_ |((refine sR (fun K kp=>?_));simp -implicitDefEqProofs (disch:=omega) only[go_sem,eO,eV,Ax,ho,pa,qa,ra,pb,qb,rb];(repeat' (refine K _ ?_;clear K kp))) |refine A2 rfl ?_ |refine A1 rfl ?_ |refine A5 ?_));(refine rJ results66 ?_;refine eN hE ?_;simp[A8,ren,renL,BB,eV,Ax,Aw])
def Nz (x:Except Int (List Int)):AV:=match x with
 | .error e=>A_ (.error e)
 | .ok st=>A_ (.ok (st.getD 0 0))
theorem Fh {l:List CO}{o:OP}{a b e:Int}(h:Ac l o a b= .error e):e≠0:=by
 unfold Ac at h
 repeat' split at h
 all_goals cases h
 all_goals decide
theorem Vm {o:OP}{r:List OP}{n m:Nat}(h:hgt BN (o::r) n=some m):BN o≤n/\hgt BN r (n+1 - BN o)=some m:=by
 unfold hgt at h;split at h
 ·cases h
 ·exact⟨by omega,h⟩
theorem Vs (G:GL)(u t:Bool)(l:List CO)(ops:List OP)(hl:l.length≤1048576)(ho:ops.length≤40)(hk: ∀o ∈ ops,1≤o.k/\o.k≤11)(hh:hgt BN ops 0=some 1):
  Con prog G 135 [.ro t 5 (ops.map eO),.fn 136 [.re u [.ro true 2 (l.map eC)] 0]] [] 0 (Is (Nz (D4 BN (Ac l) 0 ops [])) [] 0) No:=by
 refine cJ func135 fun E hG hE=>?_;subst hG;simp only[AX];(repeat' (first |refine A0 ?_ |refine A4 ?_ |((refine sR (fun K kp=>?_));simp(disch:=omega) only[go_sem];(repeat' (refine K _ ?_;clear K kp)))));(refine AWP.emb (BY 7 3 1 ?_) ?_;(·rfl);dsimp only);refine AB (fun q:Nat×List Int=>⟨[(18,.r (.int .i64 q.1)),(17,.r (.int .i64 ops.length)),(16,.ro t 5 (ops.map eO)),(7,.s 0 0 q.2.length),(1,.fn 136 [.re u [.ro true 2 (l.map eC)] 0]),(6,.r (.int .i64 0))],[(0,.lst 3 1 (q.2.map eI))],1⟩)
  (fun q=>q.1≤ops.length/\q.2.length≤q.1/\D4 BN (Ac l) 0 (ops.drop q.1) q.2=D4 BN (Ac l) 0 ops []/\hgt BN (ops.drop q.1) q.2.length=some 1) (fun q=>ops.length - q.1) (0,[]) ?_ ?_ ?_
 ·exact⟨by simp,by simp,by simp,by simpa using hh⟩
 ·(exact iK hE [0])
 rintro⟨k,st⟩ ⟨hkl,hsl,hno,hg⟩;simp only at hkl hsl hno hg ⊢
 by_cases hlt:k<ops.length
 ·obtain⟨o,hx⟩: ∃x,ops[k]?=some x:=⟨ops[k],by simp[hlt]⟩
  obtain⟨g1,g11⟩:=hk o (aB hx);rw[Am hx] at hno hg;obtain⟨har,hg2⟩:=Vm hg;have wc:=NL E.G o g1 g11;rw[D4] at hno;have h2:=P7 o
  obtain h0 |h0 |h0:BN o=0\/BN o=1\/BN o=2:=by omega
  ·rw[h0] at wc hno hg2
   simp only[Int.cast_ofNat_Int] at wc
   have em:((st.length:Int) - 0)=(st.length:Int):=by omega
   simp only[fM,if_false,Nat.sub_zero,bZ,show ¬1<0 by omega] at hno;have kc:=Gy E.G u true l o 0 0 hl g1 g11
   cases hm:Ac l o 0 0 with
   |error e=>
    rw[hm] at kc hno;simp only[A_,eO] at kc
    have he:(e !=0)=true:=by simp[Fh hm]
    (repeat' (first |refine A0 ?_ |refine A4 ?_ |refine A3 ?_ |((first |refine sR (fun K kp=>?_) |refine cR wc ?_ |refine cR kc ?_);simp(disch:=omega) only[go_sem,hx,eO,eI,he,em];(repeat' (refine K _ ?_;clear K kp))) |refine A2 rfl ?_ |refine A1 rfl ?_ |((refine A6 rfl (fun h=>?_) (fun h=>?_)<;>try simp only[Af] at h)<;>(try (exfalso;omega))) |refine A5 ?_));rw[<-hno];simp only[Nz,A_];(refine rJ results135 ?_;exact eQ hE)
   |ok x=>
    rw[hm] at kc hno;simp only[A_,eO] at kc;(repeat' (first |refine A0 ?_ |refine A4 ?_ |refine A3 ?_ |((first |refine sR (fun K kp=>?_) |refine cR wc ?_ |refine cR kc ?_);simp(disch:=omega) only[go_sem,hx,eO,eI,em];(repeat' (first |(refine K _ ?_;clear K kp) |(with_reducible refine And.intro ?_ ?_) |omega))) |refine A1 rfl ?_ |((refine A6 rfl (fun h=>?_) (fun h=>?_)<;>try simp only[Af] at h)<;>(try (exfalso;omega)))));(refine BF ((k+1,st++[x])) ?_ ?_;rotate_left;(·(refine AJ hE [3] rfl ?_ ?_<;>simp[Ai,AY,lk,ren,renL,AA,AU,eI,hx]<;>(try omega))));exact⟨by omega,by simp;omega,hno,by first |(rw[<-hg2];congr 1;simp;done) |(rw[<-hg2];congr 1;simp;omega)⟩
  ·rw[h0] at wc hno hg2
   simp only[Int.cast_ofNat_Int] at wc;obtain⟨m,hm0⟩: ∃m,st.length=m+1:=⟨st.length - 1,by omega⟩
   have em:((st.length:Int) - 1)=(m:Int):=by omega
   have em2:st.length - 1=m:=by omega
   obtain⟨a,ha⟩: ∃a,st[m]?=some a:=⟨st[m]'(by omega),by simp⟩;have l1:((m:Int)<(st.length:Int))=True:=aK (by omega)
   have ga:st.getD m 0=a:=by rw[List.getD,ha];rfl
   simp only[em2,show 0<1 by omega,fM,if_true,if_false,ga] at hno;have kc:=Gy E.G u true l o a 0 hl g1 g11
   cases hm:Ac l o a 0 with
   |error e=>
    rw[hm] at kc hno;simp only[A_,eO] at kc
    have he:(e !=0)=true:=by simp[Fh hm]
    (repeat' (first |refine A0 ?_ |refine A4 ?_ |refine A3 ?_ |((first |refine sR (fun K kp=>?_) |refine cR wc ?_ |refine cR kc ?_);simp(disch:=omega) only[go_sem,hx,eO,eI,he,em,ha,l1];(repeat' (refine K _ ?_;clear K kp))) |refine A2 rfl ?_ |refine A1 rfl ?_ |((refine A6 rfl (fun h=>?_) (fun h=>?_)<;>try simp only[Af] at h)<;>(try (exfalso;omega))) |refine A5 ?_));rw[<-hno];simp only[Nz,A_];(refine rJ results135 ?_;exact eQ hE)
   |ok x=>
    rw[hm] at kc hno;simp only[A_,eO] at kc;(repeat' (first |refine A0 ?_ |refine A4 ?_ |refine A3 ?_ |((first |refine sR (fun K kp=>?_) |refine cR wc ?_ |refine cR kc ?_);simp(disch:=omega) only[go_sem,hx,eO,eI,em,ha,l1];(repeat' (first |(refine K _ ?_;clear K kp) |(with_reducible refine And.intro ?_ ?_) |omega))) |refine A2 rfl ?_ |refine A1 rfl ?_ |((refine A6 rfl (fun h=>?_) (fun h=>?_)<;>try simp only[Af] at h)<;>(try (exfalso;omega)))));(refine BF ((k+1,st.take m++[x])) ?_ ?_;rotate_left;(·(refine AJ hE [3] rfl ?_ ?_<;>simp[Ai,AY,lk,ren,renL,AA,AU,eI,List.map_take]<;>(try omega))));exact⟨by omega,by simp;omega,hno,by first |(rw[<-hg2];congr 1;simp;done) |(rw[<-hg2];congr 1;simp;omega)⟩
  ·rw[h0] at wc hno hg2
   simp only[Int.cast_ofNat_Int] at wc;obtain⟨m,hm0⟩: ∃m,st.length=m+2:=⟨st.length - 2,by omega⟩
   have em:((st.length:Int) - 2)=(m:Int):=by omega
   have em2:st.length - 2=m:=by omega
   obtain⟨a,ha⟩: ∃a,st[m]?=some a:=⟨st[m]'(by omega),by simp⟩;have l1:((m:Int)<(st.length:Int))=True:=aK (by omega)
   have ga:st.getD m 0=a:=by rw[List.getD,ha];rfl
   obtain⟨b,hb⟩: ∃b,st[m+1]?=some b:=⟨st[m+1]'(by omega),by simp⟩;have l2:((m:Int)+1<(st.length:Int))=True:=aK (by omega)
   have gb:st.getD (m+1) 0=b:=by rw[List.getD,hb];rfl
   simp only[em2,show 0<2 by omega,show 1<2 by omega,if_true,ga,gb] at hno;have kc:=Gy E.G u true l o a b hl g1 g11
   cases hm:Ac l o a b with
   |error e=>
    rw[hm] at kc hno;simp only[A_,eO] at kc
    have he:(e !=0)=true:=by simp[Fh hm]
    (repeat' (first |refine A0 ?_ |refine A4 ?_ |refine A3 ?_ |((first |refine sR (fun K kp=>?_) |refine cR wc ?_ |refine cR kc ?_);simp(disch:=omega) only[go_sem,hx,eO,eI,he,em,ha,l1,hb,l2];(repeat' (refine K _ ?_;clear K kp))) |refine A2 rfl ?_ |((refine A6 rfl (fun h=>?_) (fun h=>?_)<;>try simp only[Af] at h)<;>(try (exfalso;omega))) |refine A5 ?_));rw[<-hno];simp only[Nz,A_];(refine rJ results135 ?_;exact eQ hE)
   |ok x=>
    rw[hm] at kc hno;simp only[A_,eO] at kc;(repeat' (first |refine A0 ?_ |refine A4 ?_ |refine A3 ?_ |((first |refine sR (fun K kp=>?_) |refine cR wc ?_ |refine cR kc ?_);simp(disch:=omega) only[go_sem,hx,eO,eI,em,ha,l1,hb,l2];(repeat' (first |(refine K _ ?_;clear K kp) |(with_reducible refine And.intro ?_ ?_) |omega))) |refine A2 rfl ?_ |refine A1 rfl ?_ |((refine A6 rfl (fun h=>?_) (fun h=>?_)<;>try simp only[Af] at h)<;>(try (exfalso;omega)))));(refine BF ((k+1,st.take m++[x])) ?_ ?_;rotate_left;(·(refine AJ hE [3] rfl ?_ ?_<;>simp[Ai,AY,lk,ren,renL,AA,AU,eI,List.map_take]<;>(try omega))));exact⟨by omega,by simp;omega,hno,by first |(rw[<-hg2];congr 1;simp;done) |(rw[<-hg2];congr 1;simp;omega)⟩
 ·have hgz:st.length=1:=by rw[aR (by omega)] at hg;simpa[hgt] using hg
  obtain⟨x,rfl⟩: ∃x,st=[x]:=dT.1 hgz;rw[aR (by omega),D4] at hno;rw[<-hno];simp only[Nz,A_];(repeat' (first |refine A0 ?_ |refine A7 ?_ |((refine sR (fun K kp=>?_));simp(disch:=omega) only[go_sem,eI];(repeat' (refine K _ ?_;clear K kp))) |((refine A6 rfl (fun h=>?_) (fun h=>?_)<;>try simp only[Af] at h)<;>(try (exfalso;omega))) |refine A5 ?_));(refine rJ results135 ?_;refine eN hE ?_;simp[A8,ren,renL,eI])
theorem FP {l:List CO}: ∀ {tr:RT OP}{e:Int},Fr (Ac l) 0 tr= .error e->e≠0
 | .l o,e,h=>Fh h
 | .u o s,e,h=>by
   rw[Fr] at h;split at h
   ·rename_i e' h';cases h;exact FP h'
   ·exact Fh h
 | .b o s t,e,h=>by
   rw[Fr] at h;split at h
   ·rename_i e' h';cases h;exact FP h'
   split at h
   ·rename_i e' h';cases h;exact FP h'
   ·exact Fh h
theorem I9 {o:OP}(h1:1≤o.k)(h11:o.k≤11):(BN o=0->o.k=1\/o.k=2)/\(BN o=1->o.k=5\/o.k=11)/\(BN o=2->o.k=3\/o.k=4\/o.k=6\/o.k=7\/o.k=8\/o.k=9\/o.k=10):=by
 obtain h |h |h |h |h |h |h |h |h |h |h:o.k=1\/o.k=2\/o.k=3\/o.k=4\/o.k=5\/o.k=6\/o.k=7\/o.k=8\/o.k=9\/o.k=10\/o.k=11:=by omega
 all_goals simp[BN,BR,h]
theorem FM (G:GL)(u t:Bool)(l:List CO)(hl:l.length≤1048576): ∀tr:RT OP,tr.wf BN->(∀o ∈ tr.flat,1≤o.k/\o.k≤11)->tr.flat.length≤1000->Con prog G 116 [.ro u 2 (l.map eC),.ro t 5 (tr.flat.map eO)] [] 0 (Is (A_ (Fr (Ac l) 0 tr)) [] 0) No
 | .l o,hw,hk,hn=>by
   obtain⟨k1,k11⟩:=hk o (by simp[RT.flat]);simp only[RT.wf] at hw;simp only[RT.flat,List.map_cons,List.map_nil,Fr];refine cJ func116 fun E hG hE=>?_;subst hG;simp only[AX];have fc:=Hi E.G u l o.nm hl
   obtain h |h:=(I9 k1 k11).1 hw
   ·(repeat' (first |refine A0 ?_ |((refine sR (fun K kp=>?_));simp -implicitDefEqProofs (disch:=omega) only[go_sem,eO,h];(repeat' (refine K _ ?_;clear K kp))) |refine A2 rfl ?_ |refine A5 ?_))
    (refine rJ results116 ?_;refine eN hE ?_;simp[A8,ren,renL,Ac,h,A_])
   ·by_cases hf:Ab l o.nm<0
    ·have d1:decide (Ab l o.nm<0)=true:=aE hf
     (repeat' (first |refine A0 ?_ |refine A3 ?_ |((first |refine sR (fun K kp=>?_) |refine cR fc ?_);simp -implicitDefEqProofs (disch:=omega) only[go_sem,eO,h,d1];(repeat' (refine K _ ?_;clear K kp))) |refine A2 rfl ?_ |refine A1 rfl ?_ |refine A5 ?_));(refine rJ results116 ?_;refine eN hE ?_;simp[A8,ren,renL,Ac,h,hf,A_])
    ·have d1:decide (Ab l o.nm<0)=false:=aC hf
     obtain⟨c,hc⟩:=J9 l o.nm hf;have hg:(0≤Ab l o.nm)=True:=aK (by omega);(repeat' (first |refine A0 ?_ |refine A3 ?_ |((first |refine sR (fun K kp=>?_) |refine cR fc ?_);simp -implicitDefEqProofs (disch:=omega) only[go_sem,eO,h,d1,hc,hg,eC];(repeat' (refine K _ ?_;clear K kp))) |refine A2 rfl ?_ |refine A1 rfl ?_ |refine A5 ?_));(refine rJ results116 ?_;refine eN hE ?_;simp[A8,ren,renL,Ac,h,hf,hc,A_])
 | .u o s,hw,hk,hn=>by
   obtain⟨hw1,hw2⟩:=hw;obtain⟨k1,k11⟩:=hk o (by simp[RT.flat]);have ih:=FM G u t l hl s hw2 (fun x hx=>hk x (by simp[RT.flat,hx])) (by simp[RT.flat] at hn;omega);obtain⟨ops,hops⟩: ∃ops,ops=(RT.u o s).flat:=⟨_,rfl⟩;rw[<-hops];obtain⟨n,hne⟩: ∃n,n=s.flat.length:=⟨_,rfl⟩
   have hln:ops.length=n+1:=by rw[hops,hne];simp[RT.flat]
   have hx:ops[n]?=some o:=by rw[hops,hne];simp[RT.flat]
   have htk:ops.take n=s.flat:=by rw[hops,hne];simp[RT.flat]
   have e1:(ops.length:Int) - 1=(n:Nat):=by omega
   have hle:n≤1000:=by rw[<-hops] at hn;omega
   have hmt:s.flat.map eO=(ops.map eO).take n:=by rw[<-List.map_take,htk]
   rw[hmt] at ih
   have hle2:(n:Int)≤ops.length:=by omega
   have wc:=IB G o.k
   have hpa:BR o.k=1:=by have:=Go.Proofs.YtmohnlbeiaifhaaGreatDoor.EA o.k;unfold BN at hw1;omega
   rw[hpa] at wc
   cases hm:Fr (Ac l) 0 s with
   |error e=>
    have he:(e !=0)=true:=by simp[FP hm]
    rw[show Fr (Ac l) 0 (RT.u o s)= .error e by rw[Fr,hm]];rw[hm] at ih;simp only[A_] at ih ⊢
    obtain h |h:=(I9 k1 k11).2.1 hw1
    all_goals
     rw[h] at wc;refine cJ func116 fun E hG hE=>?_;subst hG;simp only[AX];(repeat' (first |refine A0 ?_ |refine A3 ?_ |((first |refine sR (fun K kp=>?_) |refine cR wc ?_ |refine cR ih ?_);simp -implicitDefEqProofs (disch:=omega) only[go_sem,eO,h,hx,e1,he];(repeat' (refine K _ ?_;clear K kp))) |refine A2 rfl ?_ |refine A1 rfl ?_ |refine A5 ?_));(refine rJ results116 ?_;exact eQ hE)
   |ok a=>
    rw[show Fr (Ac l) 0 (RT.u o s)=Ac l o a 0 by rw[Fr,hm]];rw[hm] at ih;simp only[A_] at ih
    obtain h |h:=(I9 k1 k11).2.1 hw1
    ·rw[h] at wc
     refine cJ func116 fun E hG hE=>?_;subst hG;simp only[AX];(repeat' (first |refine A0 ?_ |refine A3 ?_ |((first |refine sR (fun K kp=>?_) |refine cR wc ?_ |refine cR ih ?_ |refine iG ?_);simp -implicitDefEqProofs (disch:=omega) only[go_sem,eO,h,hx,e1];(repeat' (refine K _ ?_;clear K kp))) |((refine aG (fun h=>?_) (fun h=>?_))<;>simp only[h]) |refine A2 rfl ?_ |refine A1 rfl ?_ |refine A5 ?_))
     all_goals (refine rJ results116 ?_;refine(AE hE (by simp) ?_).s;clear hE hops wc ih;simp_all [A8,ren,renL,Ac,A_,LB])
    ·rw[h] at wc
     refine cJ func116 fun E hG hE=>?_;subst hG;simp only[AX];(repeat' (first |refine A0 ?_ |refine A3 ?_ |((first |refine sR (fun K kp=>?_) |refine cR wc ?_ |refine cR ih ?_);simp -implicitDefEqProofs (disch:=omega) only[go_sem,eO,h,hx,e1];(repeat' (refine K _ ?_;clear K kp))) |refine A2 rfl ?_ |refine A1 rfl ?_ |refine A5 ?_));(refine rJ results116 ?_;refine eN hE ?_;simp[A8,ren,renL,Ac,h,A_])
 | .b o r s,hw,hk,hn=>by
   obtain⟨hw1,hw2,hw3⟩:=hw;obtain⟨k1,k11⟩:=hk o (by simp[RT.flat]);have ihr:=FM G u t l hl r hw2 (fun x hx=>hk x (by simp[RT.flat,hx])) (by simp[RT.flat] at hn;omega);have ihs:=FM G u t l hl s hw3 (fun x hx=>hk x (by simp[RT.flat,hx])) (by simp[RT.flat] at hn;omega);obtain⟨ops,hops⟩: ∃ops,ops=(RT.b o r s).flat:=⟨_,rfl⟩;rw[<-hops];obtain⟨m,hme⟩: ∃m,m=r.flat.length:=⟨_,rfl⟩;obtain⟨n,hne⟩: ∃n,n=r.flat.length+s.flat.length:=⟨_,rfl⟩
   have hln:ops.length=n+1:=by rw[hops,hne];simp[RT.flat];omega
   have hx:ops[n]?=some o:=by rw[hops,hne,<-List.length_append];simp only[RT.flat];exact dG
   have htk:ops.take n=r.flat++s.flat:=by rw[hops,hne,<-List.length_append];simp only[RT.flat];exact gB
   have htm:ops.take m=r.flat:=by rw[hops,hme];simp[RT.flat]
   have e1:(ops.length:Int) - 1=(n:Nat):=by omega
   have hle:n≤1000:=by rw[<-hops] at hn;omega
   have hmr:r.flat.map eO=(ops.map eO).take m:=by rw[<-List.map_take,htm]
   have hms:s.flat.map eO=((ops.map eO).take n).drop m:=by rw[<-List.map_take,<-List.map_drop,htk,hme];simp
   rw[hmr] at ihr;rw[hms] at ihs
   have hbe:Hq BN ops n=m:=by rw[hops,hne,hme];have:=Hk (ar:=BN) r.flat s [o] hw3;simpa[RT.flat] using this
   have bc:=IU G t ops n (by rw[hops];exact hn) (by omega) (by
    intro i k hi hc
    rcases gA i with rfl |h0
    ·exfalso
     have hp:=RT.flat_pos r;unfold Hq at hbe;simp only[List.take_zero,eR,cnt,Nat.add_zero,Nat.sub_zero] at hc;omega
    ·exact h0)
   rw[hbe] at bc;have wc:=IB G o.k
   have hpa:BR o.k=2:=by have:=Go.Proofs.YtmohnlbeiaifhaaGreatDoor.EA o.k;unfold BN at hw1;omega
   rw[hpa] at wc
   cases hm1:Fr (Ac l) 0 r with
   |error e=>
    have he:(e !=0)=true:=by simp[FP hm1]
    have he2:(e==0)=false:=by simp[FP hm1]
    rw[show Fr (Ac l) 0 (RT.b o r s)= .error e by rw[Fr,hm1]];rw[hm1] at ihr;simp only[A_] at ihr ⊢
    obtain h |h |h |h |h |h |h:=(I9 k1 k11).2.2 hw1
    all_goals
     rw[h] at wc;refine cJ func116 fun E hG hE=>?_;subst hG;simp only[AX];(repeat' (first |refine A0 ?_ |refine A3 ?_ |((first |refine sR (fun K kp=>?_) |refine cR wc ?_ |refine cR ihr ?_ |refine cR bc ?_);simp -implicitDefEqProofs (disch:=omega) only[go_sem,eO,h,hx,e1,he,he2];(repeat' (refine K _ ?_;clear K kp))) |refine A2 rfl ?_ |refine A1 rfl ?_ |refine A5 ?_));(refine rJ results116 ?_;exact eQ hE)
   |ok a=>
   cases hm2:Fr (Ac l) 0 s with
   |error e=>
    have he:(e !=0)=true:=by simp[FP hm2]
    rw[show Fr (Ac l) 0 (RT.b o r s)= .error e by rw[Fr,hm1,hm2]];rw[hm1] at ihr;rw[hm2] at ihs;simp only[A_] at ihr ihs ⊢
    obtain h |h |h |h |h |h |h:=(I9 k1 k11).2.2 hw1
    all_goals
     rw[h] at wc;refine cJ func116 fun E hG hE=>?_;subst hG;simp only[AX];(repeat' (first |refine A0 ?_ |refine A3 ?_ |((first |refine sR (fun K kp=>?_) |refine cR wc ?_ |refine cR ihs ?_ |refine cR ihr ?_ |refine cR bc ?_);simp -implicitDefEqProofs (disch:=omega) only[go_sem,eO,h,hx,e1,he];(repeat' (refine K _ ?_;clear K kp))) |refine A2 rfl ?_ |refine A1 rfl ?_ |refine A5 ?_));(refine rJ results116 ?_;exact eQ hE)
   |ok b=>
    rw[show Fr (Ac l) 0 (RT.b o r s)=Ac l o a b by rw[Fr,hm1,hm2]];rw[hm1] at ihr;rw[hm2] at ihs;simp only[A_] at ihr ihs
    obtain h |h |h |h |h |h |h:=(I9 k1 k11).2.2 hw1
    all_goals
     rw[h] at wc;refine cJ func116 fun E hG hE=>?_;subst hG;simp only[AX];(repeat' (first |refine A0 ?_ |refine A3 ?_ |((first |refine sR (fun K kp=>?_) |refine cR wc ?_ |refine cR ihs ?_ |refine cR ihr ?_ |refine cR bc ?_ |refine iG ?_);simp -implicitDefEqProofs (disch:=omega) only[go_sem,eO,h,hx,e1];(repeat' (refine K _ ?_;clear K kp))) |((refine aG (fun h=>?_) (fun h=>?_))<;>simp only[h]) |refine A2 rfl ?_ |refine A1 rfl ?_ |((refine A6 rfl (fun h=>?_) (fun h=>?_)<;>try simp only[Af] at h)<;>(try (exfalso;omega))) |refine A5 ?_))
     all_goals (refine rJ results116 ?_;refine(AE hE (by simp) ?_).s;clear hE hops wc ihs ihr bc;simp_all [A8,ren,renL,Ac,A_,LB])
theorem Pd (G:GL)(t:Bool)(key:ByteArray)(ops:List OP)(n:Nat)(o:OP)(hn:ops.length=n+1)(hx:ops[n]?=some o)(hl:n≤1000):
  Con prog G 66 [.r (.string key),.ro t 5 (ops.map eO)] [] 0 (Is (BB (D8 key ops)) [] 0) No:=by
 by_cases h5:o.k=5
 ·by_cases h:n=3
  ·subst h
   match ops,hn,hx with
   | [a,b,c,d],_,hx=>
     obtain rfl:d=o:=by simpa using hx
     have e:D8 key [a,b,c,d]=Cu key true [a,b,c]:=by
      rw[D8];simp only[eX,eY,if_pos h5]
      rfl
     rw[e];exact LZ G t key true a b c d h5 (fun h=>by cases h)
  ·exact L_ G t key ops n o hn hx hl (by rw[if_pos h5];exact h)
 ·by_cases h:n=2
  ·subst h
   match ops,hn,hx with
   | [a,b,c],_,hx=>
     obtain rfl:c=o:=by simpa using hx
     have e:D8 key [a,b,c]=Cu key false [a,b,c]:=by
      rw[D8];simp only[eX,eY,if_neg h5]
     rw[e];exact LZ G t key false a b c ⟨5,0,0,⟨#[]⟩,⟨#[]⟩⟩ rfl (fun _=>h5)
  ·exact L_ G t key ops n o hn hx hl (by rw[if_neg h5];exact h)
def S3 (l:List OP):List AV:=[.ro true 5 (l.map eO)]
@[simp] theorem X2 (a:OP):(∀x,x ∈ eO a->PT x)=True:=aK (by intro x hx;simp[eO] at hx;rcases hx with rfl |rfl |rfl |rfl |rfl<;>exact .r _)
instance:PTf eO:=⟨fun a=>of_eq_true (X2 a)⟩
@[simp] theorem X1 (a:List OP):(∀x,x ∈ S3 a->PT x)=True:=aK (by intro x hx;simp only[S3,aW] at hx;subst hx;exact .ro _ _ (Da _ _))
instance:PTf S3:=⟨fun a=>of_eq_true (X1 a)⟩
theorem Eh: ∀tr:RT OP,(BD tr).length≤tr.flat.length
 | .l o=>by simp[BD,RT.flat]
 | .u o s=>by simp[BD,RT.flat]
 | .b o p q=>by
   have h1:=Eh p;have h2:=Eh q;rw[BD];split
   ·simp[RT.flat];omega
   ·simp[RT.flat];omega
theorem HY (G:GL): ∀tr:RT OP,tr.wf BN->(∀o ∈ tr.flat,1≤o.k/\o.k≤11)->tr.flat.length≤1000->
  Con prog G 65 [.ro true 5 (tr.flat.map eO)] [] 0 (Is (.s 0 0 (BD tr).length) [(0,.lst 28 1 ((BD tr).map S3))] 1) No
 | .l o,hw,hk,hn=>by
   have k0:=hk o (by simp[RT.flat])
   have h3:(o.k !=3)=true:=by simp only[RT.wf] at hw;simp;rcases(I9 k0.1 k0.2).1 hw with h |h<;>omega
   simp only[BD,RT.flat,List.map_cons,List.map_nil,cC,S3];refine cJ func65 fun E hG hE=>?_;subst hG;simp only[AX];(repeat' (first |refine A0 ?_ |((refine sR (fun K kp=>?_));simp -implicitDefEqProofs (disch:=omega) only[go_sem,eO,h3];(repeat' (refine K _ ?_;clear K kp))) |refine A2 rfl ?_ |refine A5 ?_));(refine rJ results65 ?_;refine(BS hE [0] rfl ?_ ?_).s<;>simp[A8,AY,lk,ren,renL,AA,AU,eO])
 | .u o s,hw,hk,hn=>by
   have k0:=hk o (by simp[RT.flat])
   have h3:(o.k !=3)=true:=by simp;rcases(I9 k0.1 k0.2).2.1 hw.1 with h |h<;>omega
   simp only[BD,List.map_cons,List.map_nil,cC,S3];obtain⟨ops,hops⟩: ∃ops,ops=(RT.u o s).flat:=⟨_,rfl⟩;rw[<-hops];obtain⟨n,hne⟩: ∃n,n=s.flat.length:=⟨_,rfl⟩
   have hln:ops.length=n+1:=by rw[hops,hne];simp[RT.flat]
   have hx:ops[n]?=some o:=by rw[hops,hne];simp[RT.flat]
   have e1:(ops.length:Int) - 1=(n:Nat):=by omega
   rw[<-hops] at hn;refine cJ func65 fun E hG hE=>?_;subst hG;simp only[AX];(repeat' (first |refine A0 ?_ |((refine sR (fun K kp=>?_));simp -implicitDefEqProofs (disch:=omega) only[go_sem,hx,eO,e1,h3];(repeat' (refine K _ ?_;clear K kp))) |refine A2 rfl ?_ |refine A5 ?_));(refine rJ results65 ?_;refine(BS hE [0] rfl ?_ ?_).s<;>simp[A8,AY,lk,ren,renL,AA,AU])
 | .b o p q,hw,hk,hn=>by
   obtain⟨hw1,hw2,hw3⟩:=hw;obtain⟨k1,k11⟩:=hk o (by simp[RT.flat])
   have hln0:(RT.b o p q).flat.length=p.flat.length+q.flat.length+1:=by simp[RT.flat];omega
   have ihp:=HY G p hw2 (fun x hx=>hk x (by simp[RT.flat,hx])) (by omega);have ihq:=HY G q hw3 (fun x hx=>hk x (by simp[RT.flat,hx])) (by omega);obtain⟨ops,hops⟩: ∃ops,ops=(RT.b o p q).flat:=⟨_,rfl⟩;obtain⟨m,hme⟩: ∃m,m=p.flat.length:=⟨_,rfl⟩;obtain⟨n,hne⟩: ∃n,n=p.flat.length+q.flat.length:=⟨_,rfl⟩
   have hln:ops.length=n+1:=by rw[hops,hne];simp[RT.flat];omega
   have hx:ops[n]?=some o:=by rw[hops,hne,<-List.length_append];simp only[RT.flat];exact dG
   have htk:ops.take n=p.flat++q.flat:=by rw[hops,hne,<-List.length_append];simp only[RT.flat];exact gB
   have htm:ops.take m=p.flat:=by rw[hops,hme];simp[RT.flat]
   have e1:(ops.length:Int) - 1=(n:Nat):=by omega
   have hle:n≤1000:=by omega
   by_cases h3:o.k=3
   ·have hP:BD (.b o p q)=BD p++BD q:=by rw[BD,if_pos h3]
    have lp:=Eh p;have lq:=Eh q;rw[hP,<-hops]
    have hmr:p.flat.map eO=(ops.map eO).take m:=by rw[<-List.map_take,htm]
    have hms:q.flat.map eO=((ops.map eO).take n).drop m:=by rw[<-List.map_take,<-List.map_drop,htk,hme];simp
    rw[hmr] at ihp;rw[hms] at ihq
    have hbe:Hq BN ops n=m:=by rw[hops,hne,hme];have:=Hk (ar:=BN) p.flat q [o] hw3;simpa[RT.flat] using this
    have bc:=IU G true ops n (by omega) (by omega) (by
     intro i k hi hc
     rcases gA i with rfl |h0
     ·exfalso
      have hp:=RT.flat_pos p;unfold Hq at hbe;simp only[List.take_zero,eR,cnt,Nat.add_zero,Nat.sub_zero] at hc;omega
     ·exact h0)
    rw[hbe] at bc;generalize BD p=P1 at lp ihp ⊢;generalize BD q=P2 at lq ihq ⊢;refine cJ func65 fun E hG hE=>?_;subst hG;simp only[AX];(repeat' (first |refine A0 ?_ |refine A3 ?_ |((first |refine sR (fun K kp=>?_) |refine sD (id:=5) mixed 9 [0,1,2,4,5,6,7,3,8] (fun K kp=>?_) |refine cR bc ?_ |refine cD ihq ?_ |refine cD ihp ?_);simp -implicitDefEqProofs (disch:=omega) only[go_sem,hx,eO,e1,h3];(repeat' (first |(refine K _ ?_;clear K kp) |(with_reducible refine And.intro ?_ ?_) |omega))) |refine A1 rfl ?_ |refine A5 ?_));(refine rJ results65 ?_;refine(BS hE [2] rfl ?_ ?_).s<;>simp[A8,AY,lk,ren,renL,AA,AU,List.length_append,List.map_append])
   ·have hP:BD (.b o p q)=[ops]:=by rw[BD,if_neg h3,hops]
    have h3':(o.k !=3)=true:=by simpa using h3
    rw[hP,<-hops];simp only[List.map_cons,List.map_nil,cC,S3];refine cJ func65 fun E hG hE=>?_;subst hG;simp only[AX];(repeat' (first |refine A0 ?_ |((refine sR (fun K kp=>?_));simp -implicitDefEqProofs (disch:=omega) only[go_sem,hx,eO,e1,h3'];(repeat' (refine K _ ?_;clear K kp))) |refine A2 rfl ?_ |refine A5 ?_));(refine rJ results65 ?_;refine(BS hE [0] rfl ?_ ?_).s<;>simp[A8,AY,lk,ren,renL,AA,AU])
end Go.AM
namespace Go.Proofs.YtmohnlbeiaifhaaGreatDoor
open Go.Shelf
def Sh.lays155_ren:Go.Shelf.Ren:=⟨fun |155=>51 |154=>99 |138=>140 |165=>141 |143=>142 |166=>143 |197=>144 |169=>145 |195=>163 |218=>164 |240=>165 |241=>166 |219=>167 |260=>168 |276=>173 |277=>174 |217=>175 |225=>176 |224=>177 |267=>178 |266=>179 |314=>180 |n=>n,fun |9=>9 |3=>3 |4=>4 |72=>176 |0=>0 |76=>180 |105=>182 |21=>21 |5=>5 |70=>174 |20=>20 |37=>58 |75=>179 |127=>202 |164=>206 |46=>208 |119=>209 |139=>212 |138=>211 |146=>214 |51=>213 |80=>184 |n=>n,fun |1=>3 |3=>4 |4=>5 |n=>n⟩
theorem Sh.lays155:Go.Proofs.Lays.n155 Tryz.prog Sh.lays155_ren:={
 mixed:=by kernel_rfl
 f138:=Tryz.func140.trans (congrArg some (by kernel_rfl))
 f143:=Tryz.func142.trans (congrArg some (by kernel_rfl))
 f154:=Tryz.func99.trans (congrArg some (by kernel_rfl))
 f155:=Tryz.func51.trans (congrArg some (by kernel_rfl))
 f165:=Tryz.func141.trans (congrArg some (by kernel_rfl))
 f166:=Tryz.func143.trans (congrArg some (by kernel_rfl))
 f169:=Tryz.func145.trans (congrArg some (by kernel_rfl))
 f195:=Tryz.func163.trans (congrArg some (by kernel_rfl))
 f197:=Tryz.func144.trans (congrArg some (by kernel_rfl))
 f217:=Tryz.func175.trans (congrArg some (by kernel_rfl))
 f218:=Tryz.func164.trans (congrArg some (by kernel_rfl))
 f219:=Tryz.func167.trans (congrArg some (by kernel_rfl))
 f224:=Tryz.func177.trans (congrArg some (by kernel_rfl))
 f225:=Tryz.func176.trans (congrArg some (by kernel_rfl))
 f240:=Tryz.func165.trans (congrArg some (by kernel_rfl))
 f241:=Tryz.func166.trans (congrArg some (by kernel_rfl))
 f260:=Tryz.func168.trans (congrArg some (by kernel_rfl))
 f266:=Tryz.func179.trans (congrArg some (by kernel_rfl))
 f267:=Tryz.func178.trans (congrArg some (by kernel_rfl))
 f276:=Tryz.func173.trans (congrArg some (by kernel_rfl))
 f277:=Tryz.func174.trans (congrArg some (by kernel_rfl))
 f314:=Tryz.func180.trans (congrArg some (by kernel_rfl))
 t0:=Tryz.underlying0
 a0:=Tryz.isAgg0
 z0:=Tryz.sizeOf0
 v0:=Tryz.zeroValue0
 t3:=Tryz.underlying3
 a3:=Tryz.isAgg3
 z3:=Tryz.sizeOf3
 v3:=Tryz.zeroValue3
 t4:=Tryz.underlying4
 a4:=Tryz.isAgg4
 z4:=Tryz.sizeOf4
 v4:=Tryz.zeroValue4
 t5:=Tryz.underlying5
 a5:=Tryz.isAgg5
 z5:=Tryz.sizeOf5
 v5:=Tryz.zeroValue5
 t9:=Tryz.underlying9
 a9:=Tryz.isAgg9
 z9:=Tryz.sizeOf9
 v9:=Tryz.zeroValue9
 t20:=Tryz.underlying20
 a20:=Tryz.isAgg20
 z20:=Tryz.sizeOf20
 v20:=Tryz.zeroValue20
 t21:=Tryz.underlying21
 a21:=Tryz.isAgg21
 z21:=Tryz.sizeOf21
 v21:=Tryz.zeroValue21
 t37:=Tryz.underlying58
 a37:=Tryz.isAgg58
 z37:=Tryz.sizeOf58
 v37:=Tryz.zeroValue58
 t46:=Tryz.underlying208
 a46:=Tryz.isAgg208
 z46:=Tryz.sizeOf208
 v46:=Tryz.zeroValue208
 t51:=Tryz.underlying213
 a51:=Tryz.isAgg213
 z51:=Tryz.sizeOf213
 v51:=Tryz.zeroValue213
 t70:=Tryz.underlying174
 a70:=Tryz.isAgg174
 z70:=Tryz.sizeOf174
 v70:=Tryz.zeroValue174
 t72:=Tryz.underlying176
 a72:=Tryz.isAgg176
 z72:=Tryz.sizeOf176
 v72:=Tryz.zeroValue176
 t75:=Tryz.underlying179
 a75:=Tryz.isAgg179
 z75:=Tryz.sizeOf179
 v75:=Tryz.zeroValue179
 t76:=Tryz.underlying180
 a76:=Tryz.isAgg180
 z76:=Tryz.sizeOf180
 v76:=Tryz.zeroValue180
 t105:=Tryz.underlying182
 a105:=Tryz.isAgg182
 z105:=Tryz.sizeOf182
 v105:=Tryz.zeroValue182
 t119:=Tryz.underlying209
 a119:=Tryz.isAgg209
 z119:=Tryz.sizeOf209
 t127:=Tryz.underlying202
 a127:=Tryz.isAgg202
 z127:=Tryz.sizeOf202
 v127:=Tryz.zeroValue202
 t138:=Tryz.underlying211
 a138:=Tryz.isAgg211
 z138:=Tryz.sizeOf211
 v138:=Tryz.zeroValue211
 t139:=Tryz.underlying212
 a139:=Tryz.isAgg212
 z139:=Tryz.sizeOf212
 v139:=Tryz.zeroValue212
 t146:=Tryz.underlying214
 a146:=Tryz.isAgg214
 z146:=Tryz.sizeOf214
 v146:=Tryz.zeroValue214
 t164:=Tryz.underlying206
 a164:=Tryz.isAgg206
 z164:=Tryz.sizeOf206
 v164:=Tryz.zeroValue206
 g1:=by kernel_rfl
 g3:=by kernel_rfl
 g4:=by kernel_rfl}
theorem Sh.Builder_Extra_155:Builder.Extra Tryz.prog Sh.lays155_ren:={
 sizeBuilder:=by kernel_rfl
 liesBuilder:=by kernel_rfl
 t5:=Tryz.underlying5
 a5:=Tryz.isAgg5
 z5:=Tryz.sizeOf5
 v5:=Tryz.zeroValue5
 infoByte:=by kernel_rfl
 cellsByte:=by kernel_rfl
 sizeByte:=by kernel_rfl
 neB5:=by decide}
open Go.RowKit Go.Lib in
theorem Sh.strings_ReplaceAll (s old new:ByteArray)(m:Int)(w:World)(hs:s.size<4294967281)(hm:w.cell? ⟨3,0,none⟩=some (.int .i64 m))(h1:1≤old.size)(hlen:s.size+Lib.countB s old * new.size≤140737488355328):
 Calls Tryz.prog 51 #[.string s,.string old,.string new] w fun e w'=>
  e= .returned (.string ⟨(Lib.replaceAll s.data.toList old.data.toList new.data.toList).toArray⟩)/\Below w.heap.size w w':=Any.strings_ReplaceAll Sh.lays155 Sh.Builder_Extra_155 s old new m w hs hm h1 hlen
end Go.Proofs.YtmohnlbeiaifhaaGreatDoor
namespace Go.AM
open Go Go.RowKit
attribute [local irreducible] AWP DU
theorem Yk {G:GL}{m:Int}(hm:(3,[Value.int .i64 m]) ∈ G)(c:UInt8)(new:List UInt8)(hn:([c]==new)=false)(hl:new.length≤2)(s:ByteArray)(hs:s.size≤400):
  Con prog G 51 [.r (.string s),.r (.string ⟨#[c]⟩),.r (.string ⟨new.toArray⟩)] [] 0 (Is (.r (.string ⟨(IG c new s.data.toList).toArray⟩)) [] 0) No:=
 Al (by kernel_rfl) (fun w z vs hz hr hG=>by
  obtain⟨v,r,rfl,h1,h2⟩:=hr.head;obtain⟨v2,r2,rfl,h3,h4⟩:=h2.head;obtain⟨v3,r3,rfl,h5,h6⟩:=h4.head;obtain rfl:=h1.r_inv;obtain rfl:=h3.r_inv;obtain rfl:=h5.r_inv;obtain rfl:=h6.of_nil;have hc:w.cell? ⟨3,0,none⟩=some (.int .i64 m):=(hG _ _ hm).2 0 _ rfl
  have hle:Lib.countB s ⟨#[c]⟩≤s.size+1:=by
   have:=Lib.count_le s.data.toList [c];rw[SL];exact this
  have key:=Go.Proofs.YtmohnlbeiaifhaaGreatDoor.Sh.strings_ReplaceAll s ⟨#[c]⟩ ⟨new.toArray⟩ m w (by omega) hc (Nat.le_refl 1) (by
   have e:(⟨new.toArray⟩:ByteArray).size=new.length:=by rw[SL]
   rw[e];have:Lib.countB s ⟨#[c]⟩ * new.length≤401 * 2:=Nat.mul_le_mul (by omega) hl
   omega)
  have e:Lib.replaceAll s.data.toList [c] new=IG c new s.data.toList:=Ln c new _ hn
  have key2:Calls prog 51 #[.string s,.string ⟨#[c]⟩,.string ⟨new.toArray⟩] w fun e w'=>e= .returned (.string ⟨(IG c new s.data.toList).toArray⟩)/\Below w.heap.size w w':=by
   rw[<-e];exact key
  exact key2)
theorem Tk {G:GL}{m:Int}(hm:(3,[Value.int .i64 m]) ∈ G):Ch G:=fun s hs=>Yk hm 0 [0,255] (by decide) (by simp) s hs
end Go.AM
