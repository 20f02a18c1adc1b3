/- Texts of the law BaseUndoes, part 7: lemmas; what is proved stands in the last text. -/
import Derived.Test.YtekljlenlbhmcaaGreatDoorZz5
import Derived.Test.YtekljlenlbhmcaaGreatDoorZz6
import Derived.Test.YtekljlenlbhmcaaGreatDoorZz4
import Derived.Laws.AppendOwn
import Derived.Handy
import Derived.WalkSpells
import Derived.Deep.Light
import Derived.Lib.LazyBuf
import Derived.Sort.Grow
import Derived.Sort.Row
import Derived.Shelf.RegionOpenPlain
import Derived.Deep.LoopGhost
import Derived.Deep.RegionLaw
import Derived.Lib.Walk
import Derived.Lib.SliceRun
import Derived.Lib.ReflectliteSwap
import Derived.Lib.Hide
open Go.Proofs.Tryz
set_option linter.unusedSimpArgs false
set_option linter.unusedVariables false
set_option maxRecDepth 100000
namespace Go.AM
open Go Go.RowKit
open Go.Proofs.YtekljlenlbhmcaaGreatDoor (AY AZ)
structure TB where
 nm:ByteArray
 cols:List CO
 rows:List (List V)
 ps:List PG
 root:Int
def Cu (r:List V):List AV:=[.ro true 3 (r.map eV)]
@[simp] theorem Td (a:List V):(∀x,x ∈ Cu a→PT x)=True:=eq_true (by intro x hx;simp only[Cu,List.mem_singleton] at hx;subst hx;exact .ro _ _ (Dv _ _))
instance:PTf Cu:=⟨fun a=>of_eq_true (Td a)⟩
def Ac (t:TB):List AV:=[.r (.string t.nm),.ro true 2 (t.cols.map eC),.ro true 1 (t.rows.map Cu),.ro true 5 (t.ps.map eP),.r (.int .i64 t.root)]
def XA (r:List V):Prop:=r.length≤1048576∧ ∀v ∈ r,gV v
structure okTB (t:TB):Prop where
 nm:Gc t.nm
 cl:t.cols.length≤1048576
 cs: ∀c ∈ t.cols,Gc c.nm
 rl:t.rows.length≤1048576
 rs: ∀r ∈ t.rows,XA r
 ps:BG t.ps
noncomputable def BO (ps:List PG)(root:Int):List Et:=by
 classical
 exact if h: ∃p:Nat×Nat,root=p.1∧Trd ps p.1 p.2 then BC ps h.choose.2 h.choose.1 else []
theorem IP {ps:List PG}{r d:Nat}(h:Trd ps r d):BO ps r=BC ps d r:=by
 have hx: ∃p:Nat×Nat,(r:Int)=p.1∧Trd ps p.1 p.2:=⟨(r,d),rfl,h⟩;unfold BO;rw[dif_pos hx];obtain⟨e,h'⟩:=hx.choose_spec
 have e:r=hx.choose.1:=by omega
 have h2:=h';rw[←e] at h2 ⊢;rw[Bo (BX h.ok) d r _ _ _ _ hx.choose.2 h.good h2.good]
def C9 (r:List V):Ky:=match De (r.take 1) with
 | .ok b=>b
 | .error _=>[]
theorem So (v:V):Dd v≠[]:=by unfold Dd;simp
theorem JX {l:List CO}{r:List V}(h:BS l r=0): ∃v s,r=v::s∧De (r.take 1)= .ok (C9 r)∧DM (C9 r)=true:=by
 unfold BS at h;split at h
 ·rename_i hc;exact absurd h hc
 ·rename_i hc
  split at h
  ·cases h
  ·rename_i hlen
   have hl:l.length≠0:=by
    intro e
    have:Am l=1:=by unfold Am;rw[if_pos (.inl (by omega))]
    simp[this] at hc
   cases r with
   |nil=>simp at hlen;omega
   |cons v s=>
    cases l with
    |nil=>simp at hl
    |cons c cs=>
     rw[ER] at h
     have hv:AZ v.k v.n v.s=0:=by
      by_cases hv:AZ v.k v.n v.s=0
      ·exact hv
      ·rw[if_pos hv] at h;exact absurd h hv
     have hlv:=Ki hv
     have he:De ((v::s).take 1)= .ok (Dd v):=by
      simp only[List.take_succ_cons,List.take_zero];unfold De;rw[if_neg (by simp),Bz,if_neg (by simpa using hv),Bz];simp only[List.nil_append];rw[if_neg (by omega)]
     have hk:C9 (v::s)=Dd v:=by unfold C9;rw[he]
     refine⟨v,s,rfl,by rw[he,hk],?_⟩;have:=List.length_pos_iff.2 (So v);rw[hk,DM,Bool.and_eq_true,decide_eq_true_eq,decide_eq_true_eq];omega
def I7 (ents:List Et)(cols:List CO)(i:Nat)(r:List V):Bool:=decide (BS cols r=0)&&decide (DN ents (C9 r)=((i:Int),0))
def DQ (ents:List Et)(cols:List CO):Nat→List (List V)→Bool
 |_,[]=>true
 |i,r::s=>if r.length=0 then DQ ents cols (i+1) s else if I7 ents cols i r then DQ ents cols (i+1) s else false
def Be:List (List V)→Nat
 | []=>0
 |r::s=>if r.length=0 then Be s else Be s+1
noncomputable def GX (t:TB):Bool:=decide (AY t.nm=0)&&(decide (Am t.cols=0)&&(decide (t.rows.length≤40)&&(decide (E9 t.ps t.root=0)&&(DQ (BO t.ps t.root) t.cols 0 t.rows&&decide (Be t.rows=(BO t.ps t.root).length)))))
theorem RQ {l:List Et}(h:TF l)(i:Int)(k:Ky):(l.any fun e=>(e.2==i)&&(e.1==k))=decide (DN l k=(i,0)):=by
 rw[DN]
 cases hf:l.find? (fun e=>e.1==k) with
 |none=>
  have hn:=List.find?_eq_none.1 hf
  have e1:(l.any fun e=>(e.2==i)&&(e.1==k))=false:=by
   rw[List.any_eq_false];intro e he;have:=hn e he;simp at this ⊢;intro _;exact this
  rw[e1];simp
 |some e=>
  have hm:=List.mem_of_find?_eq_some hf;have hk:=List.find?_some hf
  have hk:e.1=k:=by simpa using hk
  by_cases hi:e.2=i
  ·have:(l.any fun e=>(e.2==i)&&(e.1==k))=true:=List.any_eq_true.2 ⟨e,hm,by simp[hi,hk]⟩
   rw[this];simp[hi]
  ·have e1:(l.any fun e=>(e.2==i)&&(e.1==k))=false:=by
    rw[List.any_eq_false];intro f hf'
    by_cases hfk:f.1=k
    ·by_cases hfe:f=e
     ·subst hfe;simp[hi]
     ·exfalso
      obtain⟨a,ha⟩:=List.mem_iff_getElem?.1 hm;obtain⟨b,hb⟩:=List.mem_iff_getElem?.1 hf';have hp:=List.pairwise_iff_getElem.1 h;obtain⟨la,ea⟩:=List.getElem?_eq_some_iff.1 ha;obtain⟨lb,eb⟩:=List.getElem?_eq_some_iff.1 hb
      rcases Nat.lt_trichotomy a b with hlt |rfl |hlt
      ·have:=hp a b la lb hlt
       rw[ea,eb,hk,hfk,Dz] at this;cases this
      ·rw[ea] at eb;exact hfe eb.symm
      ·have:=hp b a lb la hlt
       rw[ea,eb,hk,hfk,Dz] at this;cases this
    ·simp[hfk]
   rw[e1];simp[hi]
theorem QZ (l:List Et):NJ l [] []=l:=by
 unfold NJ;rw[List.filter_eq_self];intro e _;simp[MV]
theorem OA {ps:List PG}{root:Int}(h:E9 ps root=0): ∃r d:Nat,root=r∧Trd ps r d:=by
 by_cases hc:ChkOK ps root
 ·exact GS hc
 ·rw[Kt hc] at h;simp at h
theorem UV {ps:List PG}{root:Int}{k:Ky}(h:E9 ps root=0)(hk:DM k=true):CG ps root k=0:=by rw[CG,if_neg (by simpa using h),if_pos hk]
theorem K1 {ents:List Et}{cols:List CO}{rows:List (List V)}{i:Nat}{r:List V}(h:rows[i]?=some r):DQ ents cols i (rows.drop i)=if r.length=0 then DQ ents cols (i+1) (rows.drop (i+1)) else if I7 ents cols i r then DQ ents cols (i+1) (rows.drop (i+1)) else false:=by
 rw[BA h,DQ]
theorem KE {rows:List (List V)}{i:Nat}{r:List V}(h:rows[i]?=some r):Be (rows.take (i+1))=Be (rows.take i)+if r.length=0 then 0 else 1:=by
 have ht:rows.take (i+1)=rows.take i++[r]:=by rw[List.take_add_one,h];rfl
 have ha: ∀(a:List (List V)),Be (a++[r])=Be a+if r.length=0 then 0 else 1:=by
  intro a
  induction a with
  |nil=>simp only[List.nil_append,Be];split<;>rfl
  |cons x s ih=>simp only[List.cons_append,Be,ih];split<;>omega
 rw[ht,ha]
theorem KF: ∀l:List (List V),Be l≤l.length
 | []=>Nat.le_refl _
 |r::s=>by
  have:=KF s
  rw[Be,List.length_cons];split<;>omega
end Go.AM
namespace Go.AM
open Go Go.RowKit
attribute [local irreducible] AWP Aw
set_option maxHeartbeats 4000000 in
theorem Dm (G:List (Nat×List Value))(t:Bool)(r:List V)(hl:r.length≤1048576):Con prog G 38 [.ro t 3 (r.map eV)] [] 0 (Is (.ro true 3 (r.map eV)) [] 0) No:=by
 refine AA func38 rfl (by kernel_rfl) (of_decide_eq_true (by kernel_rfl)) ?_;intro E hG hE;subst hG;simp only[B9];(repeat' (first |refine A0 ?_ |refine A5 ?_ |((refine rR (fun K kp hK hkp=>?_));simp(implicitDefEqProofs:=false) (maxSteps:=2000000) (disch:=omega) only[go_sem];(repeat' (refine hK _ ?_;clear hK hkp kp K)))));(refine AWP.emb (C0 3 74 3 ?_) ?_;(·rfl);dsimp only);refine AH (fun k:Nat=>⟨[(4,.r (.int .i64 k)),(3,.s 0 0 k),(0,.ro t 3 (r.map eV))],[(0,.lst 74 3 ((r.take k).map eV))],1⟩) (fun k=>k≤r.length) (fun k=>r.length - k) 0 ?_ ?_ ?_
 ·exact Nat.zero_le _
 ·(refine AE hE [0] rfl ?_ ?_<;>simp[AU,AO,lk,ren,renL,A9,AL]<;>(try omega))
 intro k hk
 by_cases hlt:k<r.length
 ·have zk:((k:Int)<(r.length:Int))=True:=eq_true (by omega)
  obtain⟨x,hx⟩: ∃x,r[k]?=some x:=⟨r[k],by simp[hlt]⟩
  have htk:r.take (k+1)=r.take k++[x]:=by rw[List.take_add_one,hx];rfl
  have hl2:(r.take k).length=k:=by rw[List.length_take];omega
  (repeat' (first |refine A0 ?_ |refine A5 ?_ |refine A6 ?_ |((refine rR (fun K kp hK hkp=>?_));simp(implicitDefEqProofs:=false) (maxSteps:=2000000) (disch:=omega) only[go_sem,zk,hx,eV,hl2,Value.oneCell'];(repeat' (first |(refine hK _ ?_;clear hK hkp kp K) |(with_reducible refine And.intro ?_ ?_) |omega))) |refine A3 rfl ?_))
  ((refine AJ (k+1) ?_ ?_ ?_);rotate_left;(·(try dsimp only);(omega));(·(refine AE hE [2] rfl ?_ ?_<;>simp[AU,AO,lk,ren,renL,A9,AL,htk,eV,List.take_take,Nat.min_self]<;>(try omega))))
  omega
 ·obtain rfl:k=r.length:=by omega
  rw[List.take_length];(repeat' (first |refine A0 ?_ |refine AB ?_ |((refine rR (fun K kp hK hkp=>?_));simp(implicitDefEqProofs:=false) (maxSteps:=2000000) (disch:=omega) only[go_sem];(repeat' (refine hK _ ?_;clear hK hkp kp K))) |((refine AD rfl (fun h=>?_) (fun h=>?_)<;>try simp only[BQ] at h)<;>(try (exfalso;omega))) |refine A8 ?_));(refine A7 (by(simp(implicitDefEqProofs:=false) (maxSteps:=2000000) (disch:=omega) only[go_sem,results38]);rfl) ?_;refine Ar (by simp only[AG];simp(implicitDefEqProofs:=false) (maxSteps:=2000000) (disch:=omega) only[go_sem];rfl) ?_;refine(Al hE (by simp) ?_).s;simp[AG,ren,renL])
set_option maxHeartbeats 4000000 in
theorem GA (G:List (Nat×List Value))(b:TB)(ho:okTB b):Con prog G 13 [.agg (Ac b)] [] 0 (Is (.agg (Ac b)) [] 0) No:=by
 have tc:=DV G true b.ps b.root ho.ps;have hcl:=ho.cl;have hrl:=ho.rl;refine AA func13 rfl (by kernel_rfl) (of_decide_eq_true (by kernel_rfl)) ?_;intro E hG hE;subst hG;simp only[B9];(repeat' (first |refine A0 ?_ |refine A5 ?_ |((first |refine rR (fun K kp hK hkp=>?_) |refine rU (id:=1) mixed 7 [⟨0,0,[],[(0,1)]⟩,⟨0,0,[0],[(0,1)]⟩,⟨0,0,[],[(0,1)]⟩,⟨0,0,[2],[(0,1)]⟩,⟨0,0,[2,3],[(0,1)]⟩,⟨0,0,[0,1,2,3,4],[(0,1)]⟩,⟨0,1,[],[]⟩] 1 [7,8,9,10,11,12,3] [] (fun K kp hK hkp=>?_) |refine cU tc ?_);simp(implicitDefEqProofs:=false) (maxSteps:=2000000) (disch:=omega) only[go_sem,Ac];(repeat' (refine hK _ ?_;clear hK hkp kp K)))));(refine AWP.emb (BD 2 1 71 2 rfl rfl (by simp)) ?_;simp only[List.set_cons_zero,List.set_cons_succ,lk,↓reduceIte,Nat.reduceAdd]);(refine AWP.emb (BD 2 2 50 1 rfl rfl (by simp)) ?_;simp only[List.set_cons_zero,List.set_cons_succ,lk,↓reduceIte,Nat.reduceAdd]);refine AH (fun k:Nat=>⟨[(4,.r (.int .i64 k)),(3,.p 2 0 0),(2,.p 1 0 0),(1,.p 0 0 0)],[(0,.box 35 (Ac b)),(1,.box 35 [.r (.string ⟨#[]⟩),.r (.slice none 0 0),.r (.slice none 0 0),.r (.slice none 0 0),.r (.int .i64 0)]),(2,.box 35 [.r (.string b.nm),.s 3 0 k,.s 4 0 0,.ro true 5 (b.ps.map eP),.r (.int .i64 b.root)]),(3,.lst 71 2 ((b.cols.take k).map eC)),(4,.lst 50 1 [])],5⟩) (fun k=>k≤b.cols.length) (fun k=>b.cols.length - k) 0 ?_ ?_ ?_
 ·exact Nat.zero_le _
 ·(refine AE hE [0,1,2,3,4] rfl ?_ ?_<;>simp[AU,AO,lk,ren,renL,A9,AL,Ac]<;>(try omega))
 intro k hk
 by_cases hlt:k<b.cols.length
 ·have zk:((k:Int)<(b.cols.length:Int))=True:=eq_true (by omega)
  obtain⟨x,hx⟩: ∃x,b.cols[k]?=some x:=⟨b.cols[k],by simp[hlt]⟩
  have htk:b.cols.take (k+1)=b.cols.take k++[x]:=by rw[List.take_add_one,hx];rfl
  have hl2:(b.cols.take k).length=k:=by rw[List.length_take];omega
  (repeat' (first |refine A0 ?_ |refine A5 ?_ |refine A6 ?_ |((first |refine rR (fun K kp hK hkp=>?_) |refine rX (id:=5) mixed [3] 9 [0,1,2,3,4,5,6,7,8] (fun K kp hK hkp=>?_));simp(implicitDefEqProofs:=false) (maxSteps:=2000000) (disch:=omega) only[go_sem,zk,hx,Ac,eC,hl2,Value.oneCell'];(repeat' (first |(refine hK _ ?_;clear hK hkp kp K) |(with_reducible refine And.intro ?_ ?_) |omega))) |refine A3 rfl ?_))
  ((refine AJ (k+1) ?_ ?_ ?_);rotate_left;(·(try dsimp only);(omega));(·(refine AE hE [0,1,2,6,4] rfl ?_ ?_<;>simp[AU,AO,lk,ren,renL,A9,AL,htk,Ac,eC,List.take_take,Nat.min_self]<;>(try omega))))
  omega
 ·obtain rfl:k=b.cols.length:=by omega
  rw[List.take_length];(repeat' (first |refine A0 ?_ |refine A5 ?_ |refine AB ?_ |((refine rR (fun K kp hK hkp=>?_));simp(implicitDefEqProofs:=false) (maxSteps:=2000000) (disch:=omega) only[go_sem,Ac];(repeat' (refine hK _ ?_;clear hK hkp kp K))) |((refine AD rfl (fun h=>?_) (fun h=>?_)<;>try simp only[BQ] at h)<;>(try (exfalso;omega)))));refine AH (fun k:Nat=>⟨[(5,.r (.int .i64 k)),(3,.p 2 0 0),(2,.p 1 0 0),(1,.p 0 0 0)],[(0,.box 35 (Ac b)),(1,.box 35 [.r (.string ⟨#[]⟩),.r (.slice none 0 0),.r (.slice none 0 0),.r (.slice none 0 0),.r (.int .i64 0)]),(2,.box 35 [.r (.string b.nm),.s 3 0 b.cols.length,.s 4 0 k,.ro true 5 (b.ps.map eP),.r (.int .i64 b.root)]),(3,.lst 71 2 (b.cols.map eC)),(4,.lst 50 1 ((b.rows.take k).map Cu))],5⟩) (fun k=>k≤b.rows.length) (fun k=>b.rows.length - k) 0 ?_ ?_ ?_
  ·exact Nat.zero_le _
  ·(refine AE hE [0,1,2,3,4] rfl ?_ ?_<;>simp[AU,AO,lk,ren,renL,A9,AL,Ac]<;>(try omega))
  intro k hk
  by_cases hlt:k<b.rows.length
  ·have zk:((k:Int)<(b.rows.length:Int))=True:=eq_true (by omega)
   obtain⟨x,hx⟩: ∃x,b.rows[k]?=some x:=⟨b.rows[k],by simp[hlt]⟩
   have htk:b.rows.take (k+1)=b.rows.take k++[x]:=by rw[List.take_add_one,hx];rfl
   have hl2:(b.rows.take k).length=k:=by rw[List.length_take];omega
   have vc:=Dm E.G true x (ho.rs x (List.mem_of_getElem? hx)).1;(repeat' (first |refine A0 ?_ |refine A5 ?_ |refine A6 ?_ |((first |refine rR (fun K kp hK hkp=>?_) |refine cR vc ?_);simp(implicitDefEqProofs:=false) (maxSteps:=2000000) (disch:=omega) only[go_sem,zk,hx,Ac,Cu,hl2,Value.oneCell'];(repeat' (first |(refine hK _ ?_;clear hK hkp kp K) |(with_reducible refine And.intro ?_ ?_) |omega))) |refine A3 rfl ?_))
   ((refine AJ (k+1) ?_ ?_ ?_);rotate_left;(·(try dsimp only);(omega));(·(refine AE hE [0,1,2,3,6] rfl ?_ ?_<;>simp[AU,AO,lk,ren,renL,A9,AL,htk,Ac,Cu,List.take_take,Nat.min_self]<;>(try omega))))
   omega
  ·obtain rfl:k=b.rows.length:=by omega
   rw[List.take_length];(repeat' (first |refine A0 ?_ |refine AB ?_ |((refine rR (fun K kp hK hkp=>?_));simp(implicitDefEqProofs:=false) (maxSteps:=2000000) (disch:=omega) only[go_sem,Ac];(repeat' (refine hK _ ?_;clear hK hkp kp K))) |((refine AD rfl (fun h=>?_) (fun h=>?_)<;>try simp only[BQ] at h)<;>(try (exfalso;omega))) |refine A8 ?_));(refine A7 (by(simp(implicitDefEqProofs:=false) (maxSteps:=2000000) (disch:=omega) only[go_sem,results13,Ac]);rfl) ?_;refine Ar (by simp only[AG];simp(implicitDefEqProofs:=false) (maxSteps:=2000000) (disch:=omega) only[go_sem,Ac];rfl) ?_;refine(Al hE (by simp) ?_).s;simp[AG,ren,renL,Ac])
end Go.AM
namespace Go.AM
open Go Go.RowKit
open Go.Proofs.YtekljlenlbhmcaaGreatDoor (AZ)
attribute [local irreducible] AWP Aw
theorem N8:(0:UInt8).toNat=0:=rfl
theorem Y0:(255:UInt8).toNat=255:=rfl
set_option maxHeartbeats 8000000 in
theorem Mb (G:List (Nat×List Value))(t:Bool)(l:List V)(hl:l.length≤1048576)(hg: ∀v ∈ l,gV v):Con prog G 109 [.ro t 3 (l.map eV)] [] 0 (Is (JK (De l)) [] 0) No:=by
 refine AA func109 rfl (by kernel_rfl) (of_decide_eq_true (by kernel_rfl)) ?_;intro E hG hE;subst hG;simp only[B9]
 by_cases h6:6<l.length
 ·have d1:decide ((l.length:Int)>6)=true:=decide_eq_true (by omega)
  have hM:De l= .error 1:=by rw[De,if_pos h6]
  rw[hM];simp only[JK];(repeat' (first |refine A0 ?_ |((refine rR (fun K kp hK hkp=>?_));simp(implicitDefEqProofs:=false) (maxSteps:=2000000) (disch:=omega) only[go_sem,d1];(repeat' (refine hK _ ?_;clear hK hkp kp K))) |refine A3 rfl ?_ |refine A8 ?_));(refine A7 (by(simp(implicitDefEqProofs:=false) (maxSteps:=2000000) (disch:=omega) only[go_sem,results109]);rfl) ?_;refine eN hE ?_;simp[AG,ren,renL])
 have d1:decide ((l.length:Int)>6)=false:=decide_eq_false (by omega);(repeat' (first |refine A0 ?_ |refine A5 ?_ |refine A6 ?_ |((refine rR (fun K kp hK hkp=>?_));simp(implicitDefEqProofs:=false) (maxSteps:=2000000) (disch:=omega) only[go_sem,d1];(repeat' (refine hK _ ?_;clear hK hkp kp K))) |refine A4 rfl ?_));(refine AWP.emb (C0 4 5 1 ?_) ?_;(·rfl);dsimp only);refine AH (fun q:Nat×List UInt8=>⟨[(5,.r (.int .i64 q.1)),(4,.s 0 0 q.2.length),(0,.ro t 3 (l.map eV))],[(0,.lst 5 1 (q.2.map AC))],1⟩) (fun q=>q.1≤l.length∧q.2.length≤43 * q.1∧Bz q.2 (l.drop q.1)=Bz [] l) (fun q=>l.length - q.1) (0,[]) ?_ ?_ ?_
 ·exact⟨by simp,by simp,rfl⟩
 ·(refine AE hE [0] rfl ?_ ?_<;>simp[AU,AO,lk,ren,renL,A9,AL]<;>(try omega))
 rintro⟨i,b⟩ ⟨hi,hb,hno⟩;simp only at hi hb hno ⊢
 by_cases hlt:i<l.length
 ·obtain⟨v,hx⟩: ∃x,l[i]?=some x:=⟨l[i],by simp[hlt]⟩
  have hgv:=hg v (List.mem_of_getElem? hx);have vc:=N4 E.G v hgv.1;simp only[eV] at vc
  by_cases hv:AZ v.k v.n v.s=0
  ·rw[hv] at vc
   have hlen:=Ki hv;rw[Hb b hx hv] at hno
   obtain hk |⟨hk,hn⟩ |hk |⟨hk,hs⟩:=GG hv
   ·have hW:Dd v=[0]:=by rw[Dd,hk];rfl
    rw[hW] at hno;(repeat' (first |refine A0 ?_ |refine A5 ?_ |refine A6 ?_ |((first |refine rR (fun K kp hK hkp=>?_) |refine cR vc ?_);simp(implicitDefEqProofs:=false) (maxSteps:=2000000) (disch:=omega) only[go_sem,hx,eV,hk];(repeat' (first |(refine hK _ ?_;clear hK hkp kp K) |(with_reducible refine And.intro ?_ ?_) |omega))) |refine A4 rfl ?_ |((refine AD rfl (fun h=>?_) (fun h=>?_)<;>try simp only[BQ] at h)<;>(try (exfalso;omega)))))
    ((refine AJ ((i+1,b++[0])) ?_ ?_ ?_);rotate_left;(·(try dsimp only);(omega));(·(refine AE hE [2] rfl ?_ ?_<;>simp[AU,AO,lk,ren,renL,A9,AL,AC,N8,CV,CW]<;>(try omega))))
    exact⟨by omega,by simp only[List.length_append,List.length_singleton];omega,hno⟩
   ·have hW:Dd v=[1,UInt8.ofNat v.n.toNat]:=by rw[Dd,hk];rfl
    rw[hW] at hno
    obtain hn |hn:=hn
    ·rw[hn] at hno
     (repeat' (first |refine A0 ?_ |refine A5 ?_ |refine A6 ?_ |((first |refine rR (fun K kp hK hkp=>?_) |refine cR vc ?_);simp(implicitDefEqProofs:=false) (maxSteps:=2000000) (disch:=omega) only[go_sem,hx,eV,hk,hn];(repeat' (first |(refine hK _ ?_;clear hK hkp kp K) |(with_reducible refine And.intro ?_ ?_) |omega))) |refine A3 rfl ?_ |refine A4 rfl ?_ |((refine AD rfl (fun h=>?_) (fun h=>?_)<;>try simp only[BQ] at h)<;>(try (exfalso;omega)))))
     ((refine AJ ((i+1,b++[1,0])) ?_ ?_ ?_);rotate_left;(·(try dsimp only);(omega));(·(refine AE hE [4] rfl ?_ ?_<;>simp[AU,AO,lk,ren,renL,A9,AL,AC,N8,CV,CW]<;>(try omega))))
     exact⟨by omega,by simp only[List.length_append,List.length_cons,List.length_nil];omega,hno⟩
    ·rw[hn] at hno
     (repeat' (first |refine A0 ?_ |refine A5 ?_ |refine A6 ?_ |((first |refine rR (fun K kp hK hkp=>?_) |refine cR vc ?_);simp(implicitDefEqProofs:=false) (maxSteps:=2000000) (disch:=omega) only[go_sem,hx,eV,hk,hn];(repeat' (first |(refine hK _ ?_;clear hK hkp kp K) |(with_reducible refine And.intro ?_ ?_) |omega))) |refine A3 rfl ?_ |refine A4 rfl ?_ |((refine AD rfl (fun h=>?_) (fun h=>?_)<;>try simp only[BQ] at h)<;>(try (exfalso;omega)))))
     ((refine AJ ((i+1,b++[1,1])) ?_ ?_ ?_);rotate_left;(·(try dsimp only);(omega));(·(refine AE hE [4] rfl ?_ ?_<;>simp[AU,AO,lk,ren,renL,A9,AL,AC,N8,CV,CW]<;>(try omega))))
     exact⟨by omega,by simp only[List.length_append,List.length_cons,List.length_nil];omega,hno⟩
   ·have hW:Dd v=2::Je (Ce v.n):=by rw[Dd,hk];rfl
    rw[hW] at hno;have hc:=LO E.G v.n hgv.2;(repeat' (first |refine A0 ?_ |refine A5 ?_ |refine A6 ?_ |((first |refine rR (fun K kp hK hkp=>?_) |refine cR vc ?_ |refine cR hc ?_);simp(implicitDefEqProofs:=false) (maxSteps:=2000000) (disch:=omega) only[go_sem,hx,eV,hk,CW,Jd];(repeat' (first |(refine hK _ ?_;clear hK hkp kp K) |(with_reducible refine And.intro ?_ ?_) |omega))) |refine A3 rfl ?_ |refine A4 rfl ?_ |((refine AD rfl (fun h=>?_) (fun h=>?_)<;>try simp only[BQ] at h)<;>(try (exfalso;omega)))))
    ((refine AJ ((i+1,b++2::Je (Ce v.n))) ?_ ?_ ?_);rotate_left;(·(try dsimp only);(omega));(·(refine AE hE [4] rfl ?_ ?_<;>simp[AU,AO,lk,ren,renL,A9,AL,AC,N8,CV,CW]<;>(try omega))))
    exact⟨by omega,by simp only[List.length_append,List.length_cons,CW];omega,hno⟩
   ·have hW:Dd v=3::(H_ v.s.data.toList++[0,0]):=by rw[Dd,hk];rfl
    rw[hW] at hno hlen;have hsl:=Pc v.s;(repeat' (first |refine A0 ?_ |refine A5 ?_ |refine A6 ?_ |((first |refine rR (fun K kp hK hkp=>?_) |refine cR vc ?_);simp(implicitDefEqProofs:=false) (maxSteps:=2000000) (disch:=omega) only[go_sem,hx,eV,hk];(repeat' (first |(refine hK _ ?_;clear hK hkp kp K) |(with_reducible refine And.intro ?_ ?_) |omega))) |refine A3 rfl ?_ |refine A4 rfl ?_ |((refine AD rfl (fun h=>?_) (fun h=>?_)<;>try simp only[BQ] at h)<;>(try (exfalso;omega)))));refine AH (fun q:Nat×List UInt8=>⟨[(7,.r (.int .i64 q.1)),(4,.s 0 0 q.2.length),(5,.r (.int .i64 i)),(0,.ro t 3 (l.map eV))],[(0,.lst 5 1 (q.2.map AC))],1⟩) (fun q=>q.1≤v.s.size∧q.2.length≤b.length+1+2 * q.1∧q.2++H_ (v.s.data.toList.drop q.1)=b++3::H_ v.s.data.toList) (fun q=>v.s.size - q.1) (0,b++[3]) ?_ ?_ ?_
    ·exact⟨by simp,by simp,by simp⟩
    ·(refine AE hE [2] rfl ?_ ?_<;>simp[AU,AO,lk,ren,renL,A9,AL,AC,CV]<;>(try omega))
    rintro⟨k,c⟩ ⟨hk',hcl,hco⟩;simp only at hk' hcl hco ⊢
    by_cases hks:k<v.s.size
    ·obtain⟨x,hxs⟩: ∃x,v.s.data.toList[k]?=some x:=⟨v.s.data.toList[k]'(by omega),by simp⟩
     have hxg:=Vz v.s k;rw[hxs] at hxg;rw[BA hxs,H_,Ga] at hco
     by_cases h0:x=0
     ·rw[if_pos h0] at hco
      subst h0;(repeat' (first |refine A0 ?_ |refine A5 ?_ |refine A6 ?_ |((refine rR (fun K kp hK hkp=>?_));simp(implicitDefEqProofs:=false) (maxSteps:=2000000) (disch:=omega) only[go_sem,hx,eV,hxg];(repeat' (first |(refine hK _ ?_;clear hK hkp kp K) |(with_reducible refine And.intro ?_ ?_) |omega))) |refine A3 rfl ?_ |((refine AD rfl (fun h=>?_) (fun h=>?_)<;>try simp only[BQ] at h)<;>(try (exfalso;omega)))))
      ((refine AJ ((k+1,c++[0,255])) ?_ ?_ ?_);rotate_left;(·(try dsimp only);(omega));(·(refine AE hE [4] rfl ?_ ?_<;>simp[AU,AO,lk,ren,renL,A9,AL,AC]<;>(try omega))))
      exact⟨by omega,by simp only[List.length_append,List.length_cons,List.length_nil];omega,by rw[←hco];simp[H_]⟩
     ·rw[if_neg h0] at hco
      have e0:((x.toNat:Int)==0)=false:=by
       rw[beq_eq_false_iff_ne];intro h;exact h0 (UInt8.toNat.inj (by rw[N8];omega))
      (repeat' (first |refine A0 ?_ |refine A5 ?_ |refine A6 ?_ |((refine rR (fun K kp hK hkp=>?_));simp(implicitDefEqProofs:=false) (maxSteps:=2000000) (disch:=omega) only[go_sem,hx,eV,hxg,e0];(repeat' (first |(refine hK _ ?_;clear hK hkp kp K) |(with_reducible refine And.intro ?_ ?_) |omega))) |refine A4 rfl ?_ |((refine AD rfl (fun h=>?_) (fun h=>?_)<;>try simp only[BQ] at h)<;>(try (exfalso;omega)))))
      ((refine AJ ((k+1,c++[x])) ?_ ?_ ?_);rotate_left;(·(try dsimp only);(omega));(·(refine AE hE [2] rfl ?_ ?_<;>simp[AU,AO,lk,ren,renL,A9,AL,AC]<;>(try omega))))
      exact⟨by omega,by simp only[List.length_append,List.length_singleton];omega,by rw[←hco];simp[H_]⟩
    ·rw[List.drop_of_length_le (by omega)] at hco
     have hco:c=b++3::H_ v.s.data.toList:=by rw[←hco];simp[H_,Ga]
     (repeat' (first |refine A0 ?_ |refine AB ?_ |((refine rR (fun K kp hK hkp=>?_));simp(implicitDefEqProofs:=false) (maxSteps:=2000000) (disch:=omega) only[go_sem,hx,eV];(repeat' (first |(refine hK _ ?_;clear hK hkp kp K) |(with_reducible refine And.intro ?_ ?_) |omega))) |((refine AD rfl (fun h=>?_) (fun h=>?_)<;>try simp only[BQ] at h)<;>(try (exfalso;omega)))))
     ((refine AJ ((i+1,c++[0,0])) ?_ ?_ ?_);rotate_left;(·(try dsimp only);(omega));(·(refine AE hE [2] rfl ?_ ?_<;>simp[AU,AO,lk,ren,renL,A9,AL,AC]<;>(try omega))))
     have hcc:c++[0,0]=b++3::(H_ v.s.data.toList++[0,0]):=by rw[hco];simp
     refine⟨by omega,?_,by simp only;rw[hcc];exact hno⟩;simp only;rw[hcc];simp only[List.length_append,List.length_cons,List.length_nil] at hlen ⊢;omega
  ·have hv0:(AZ v.k v.n v.s !=0)=true:=by simpa using hv
   have hM:De l= .error (AZ v.k v.n v.s):=by
    rw[De,if_neg h6,←hno,BA hx,Bz,if_pos hv]
   rw[hM];simp only[JK];(repeat' (first |refine A0 ?_ |refine A5 ?_ |refine A6 ?_ |((first |refine rR (fun K kp hK hkp=>?_) |refine cR vc ?_);simp(implicitDefEqProofs:=false) (maxSteps:=2000000) (disch:=omega) only[go_sem,hx,eV,hv0];(repeat' (refine hK _ ?_;clear hK hkp kp K))) |refine A3 rfl ?_ |((refine AD rfl (fun h=>?_) (fun h=>?_)<;>try simp only[BQ] at h)<;>(try (exfalso;omega))) |refine A8 ?_));(refine A7 (by(simp(implicitDefEqProofs:=false) (maxSteps:=2000000) (disch:=omega) only[go_sem,results109]);rfl) ?_;refine eN hE ?_;simp[AG,ren,renL])
 ·rw[List.drop_of_length_le (by omega),Bz] at hno
  by_cases h100:100<b.length
  ·have d2:decide ((b.length:Int)>100)=true:=decide_eq_true (by omega)
   have hM:De l= .error 5:=by rw[De,if_neg h6,←hno];simp only;rw[if_pos h100]
   rw[hM];simp only[JK];(repeat' (first |refine A0 ?_ |refine AB ?_ |((refine rR (fun K kp hK hkp=>?_));simp(implicitDefEqProofs:=false) (maxSteps:=2000000) (disch:=omega) only[go_sem,d2];(repeat' (refine hK _ ?_;clear hK hkp kp K))) |refine A3 rfl ?_ |((refine AD rfl (fun h=>?_) (fun h=>?_)<;>try simp only[BQ] at h)<;>(try (exfalso;omega))) |refine A8 ?_));(refine A7 (by(simp(implicitDefEqProofs:=false) (maxSteps:=2000000) (disch:=omega) only[go_sem,results109]);rfl) ?_;refine eN hE ?_;simp[AG,ren,renL])
  ·have d2:decide ((b.length:Int)>100)=false:=decide_eq_false (by omega)
   have hM:De l= .ok b:=by rw[De,if_neg h6,←hno];simp only;rw[if_neg h100]
   rw[hM];simp only[JK];(repeat' (first |refine A0 ?_ |refine A6 ?_ |refine AB ?_ |((refine rR (fun K kp hK hkp=>?_));simp(implicitDefEqProofs:=false) (maxSteps:=2000000) (disch:=omega) only[go_sem,d2];(repeat' (refine hK _ ?_;clear hK hkp kp K))) |refine A4 rfl ?_ |((refine AD rfl (fun h=>?_) (fun h=>?_)<;>try simp only[BQ] at h)<;>(try (exfalso;omega))) |refine A8 ?_));(refine A7 (by(simp(implicitDefEqProofs:=false) (maxSteps:=2000000) (disch:=omega) only[go_sem,results109]);rfl) ?_;refine Ar (by simp only[AG];simp(implicitDefEqProofs:=false) (maxSteps:=2000000) (disch:=omega) only[go_sem];rfl) ?_;refine(Al hE (by simp) ?_).s;simp[AG,ren,renL])
end Go.AM
namespace Go.AM
open Go Go.RowKit
open Go.Proofs.YtekljlenlbhmcaaGreatDoor (AZ)
attribute [local irreducible] AWP Aw
def Fl (G:List (Nat×List Value)):Prop:= ∀s:ByteArray,s.size≤400→Con prog G 119 [.r (.string s),.r (.string ⟨#[0]⟩),.r (.string ⟨#[0,255]⟩)] [] 0 (Is (.r (.string ⟨(H_ s.data.toList).toArray⟩)) [] 0) No
set_option maxHeartbeats 8000000 in
theorem PK {G:List (Nat×List Value)}(HR:Fl G)(t:Bool)(l:List V)(hl:l.length≤1048576)(hg: ∀v ∈ l,gV v):Con prog G 62 [.ro t 3 (l.map eV)] [] 0 (Is (JK (De l)) [] 0) No:=by
 refine AA func62 rfl (by kernel_rfl) (of_decide_eq_true (by kernel_rfl)) ?_;intro E hG hE;subst hG;simp only[B9]
 by_cases h6:6<l.length
 ·have d1:decide ((l.length:Int)>6)=true:=decide_eq_true (by omega)
  have hM:De l= .error 1:=by rw[De,if_pos h6]
  rw[hM];simp only[JK];(repeat' (first |refine A0 ?_ |((refine rR (fun K kp hK hkp=>?_));simp(implicitDefEqProofs:=false) (maxSteps:=2000000) (disch:=omega) only[go_sem,d1];(repeat' (refine hK _ ?_;clear hK hkp kp K))) |refine A3 rfl ?_ |refine A8 ?_));(refine A7 (by(simp(implicitDefEqProofs:=false) (maxSteps:=2000000) (disch:=omega) only[go_sem,results62]);rfl) ?_;refine eN hE ?_;simp[AG,ren,renL])
 have d1:decide ((l.length:Int)>6)=false:=decide_eq_false (by omega);(repeat' (first |refine A0 ?_ |refine A5 ?_ |refine A6 ?_ |((refine rR (fun K kp hK hkp=>?_));simp(implicitDefEqProofs:=false) (maxSteps:=2000000) (disch:=omega) only[go_sem,d1];(repeat' (refine hK _ ?_;clear hK hkp kp K))) |refine A4 rfl ?_));(refine AWP.emb (C0 4 5 1 ?_) ?_;(·rfl);dsimp only);refine AH (fun q:Nat×List UInt8=>⟨[(15,.r (.int .i64 q.1)),(14,.r (.int .i64 l.length)),(13,.ro t 3 (l.map eV)),(4,.s 0 0 q.2.length)],[(0,.lst 5 1 (q.2.map AC))],1⟩) (fun q=>q.1≤l.length∧q.2.length≤43 * q.1∧Bz q.2 (l.drop q.1)=Bz [] l) (fun q=>l.length - q.1) (0,[]) ?_ ?_ ?_
 ·exact⟨by simp,by simp,rfl⟩
 ·(refine AE hE [0] rfl ?_ ?_<;>simp[AU,AO,lk,ren,renL,A9,AL]<;>(try omega))
 rintro⟨i,b⟩ ⟨hi,hb,hno⟩;simp only at hi hb hno ⊢
 by_cases hlt:i<l.length
 ·obtain⟨v,hx⟩: ∃x,l[i]?=some x:=⟨l[i],by simp[hlt]⟩
  have hgv:=hg v (List.mem_of_getElem? hx);have vc:=Rb E.G v hgv.1;simp only[eV] at vc
  by_cases hv:AZ v.k v.n v.s=0
  ·rw[hv] at vc
   have hlen:=Ki hv;rw[Hb b hx hv] at hno
   obtain hk |⟨hk,hn⟩ |hk |⟨hk,hs⟩:=GG hv
   ·have hW:Dd v=[0]:=by rw[Dd,hk];rfl
    rw[hW] at hno;(repeat' (first |refine A0 ?_ |refine A5 ?_ |refine A6 ?_ |((first |refine rR (fun K kp hK hkp=>?_) |refine cR vc ?_);simp(implicitDefEqProofs:=false) (maxSteps:=2000000) (disch:=omega) only[go_sem,hx,eV,hk];(repeat' (first |(refine hK _ ?_;clear hK hkp kp K) |(with_reducible refine And.intro ?_ ?_) |omega))) |refine A4 rfl ?_ |((refine AD rfl (fun h=>?_) (fun h=>?_)<;>try simp only[BQ] at h)<;>(try (exfalso;omega)))))
    ((refine AJ ((i+1,b++[0])) ?_ ?_ ?_);rotate_left;(·(try dsimp only);(omega));(·(refine AE hE [3] rfl ?_ ?_<;>simp[AU,AO,lk,ren,renL,A9,AL,AC,N8,CV]<;>(try omega))))
    exact⟨by omega,by simp only[List.length_append,List.length_singleton];omega,hno⟩
   ·have hW:Dd v=[1,UInt8.ofNat v.n.toNat]:=by rw[Dd,hk];rfl
    rw[hW] at hno
    obtain hn |hn:=hn
    ·rw[hn] at hno
     (repeat' (first |refine A0 ?_ |refine A5 ?_ |refine A6 ?_ |((first |refine rR (fun K kp hK hkp=>?_) |refine cR vc ?_);simp(implicitDefEqProofs:=false) (maxSteps:=2000000) (disch:=omega) only[go_sem,hx,eV,hk,hn];(repeat' (first |(refine hK _ ?_;clear hK hkp kp K) |(with_reducible refine And.intro ?_ ?_) |omega))) |refine A3 rfl ?_ |refine A4 rfl ?_ |((refine AD rfl (fun h=>?_) (fun h=>?_)<;>try simp only[BQ] at h)<;>(try (exfalso;omega)))))
     ((refine AJ ((i+1,b++[1,0])) ?_ ?_ ?_);rotate_left;(·(try dsimp only);(omega));(·(refine AE hE [5] rfl ?_ ?_<;>simp[AU,AO,lk,ren,renL,A9,AL,AC,N8,CV]<;>(try omega))))
     exact⟨by omega,by simp only[List.length_append,List.length_cons,List.length_nil];omega,hno⟩
    ·rw[hn] at hno
     (repeat' (first |refine A0 ?_ |refine A5 ?_ |refine A6 ?_ |((first |refine rR (fun K kp hK hkp=>?_) |refine cR vc ?_);simp(implicitDefEqProofs:=false) (maxSteps:=2000000) (disch:=omega) only[go_sem,hx,eV,hk,hn];(repeat' (first |(refine hK _ ?_;clear hK hkp kp K) |(with_reducible refine And.intro ?_ ?_) |omega))) |refine A3 rfl ?_ |refine A4 rfl ?_ |((refine AD rfl (fun h=>?_) (fun h=>?_)<;>try simp only[BQ] at h)<;>(try (exfalso;omega)))))
     ((refine AJ ((i+1,b++[1,1])) ?_ ?_ ?_);rotate_left;(·(try dsimp only);(omega));(·(refine AE hE [5] rfl ?_ ?_<;>simp[AU,AO,lk,ren,renL,A9,AL,AC,N8,CV]<;>(try omega))))
     exact⟨by omega,by simp only[List.length_append,List.length_cons,List.length_nil];omega,hno⟩
   ·have hW:Dd v=2::Je (Ce v.n):=by rw[Dd,hk];rfl
    rw[hW] at hno;have hxor:=YT hgv.2;obtain⟨u,hu⟩: ∃u,Ce v.n=u:=⟨_,rfl⟩;rw[hu] at hxor hno;(repeat' (first |refine A0 ?_ |refine A5 ?_ |refine A6 ?_ |((first |refine rR (fun K kp hK hkp=>?_) |refine cR vc ?_);simp(implicitDefEqProofs:=false) (maxSteps:=2000000) (disch:=omega) only[go_sem,hx,eV,hk,hxor];(repeat' (first |(refine hK _ ?_;clear hK hkp kp K) |(with_reducible refine And.intro ?_ ?_) |omega))) |refine A3 rfl ?_ |refine A4 rfl ?_ |((refine AD rfl (fun h=>?_) (fun h=>?_)<;>try simp only[BQ] at h)<;>(try (exfalso;omega)))));refine AH (fun j:Nat=>⟨[(9,.r (.int .i64 (56 - 8 * (j:Int)))),(8,.r (.int .u64 u)),(15,.r (.int .i64 i)),(14,.r (.int .i64 l.length)),(13,.ro t 3 (l.map eV)),(4,.s 0 0 (b.length+1+j))],[(0,.lst 5 1 ((b++2::(Je u).take j).map AC))],1⟩) (fun j=>j≤8) (fun j=>8 - j) 0 ?_ ?_ ?_
    ·simp
    ·(refine AE hE [3] rfl ?_ ?_<;>simp[AU,AO,lk,ren,renL,A9,AL,AC,CV]<;>(try omega))
    intro j hj
    have hz:((Je u).take j).length=j:=by rw[List.length_take,CW];omega
    by_cases h8:j<8
    ·have d2:decide ((56 - 8 * (j:Int))≥0)=true:=decide_eq_true (by omega)
     have c1:((56 - 8 * (j:Int))<0)=False:=eq_false (by omega);have hsb:=Rv u j h8;obtain⟨x,hxj⟩: ∃x,x=UInt8.ofNat (u / 2 ^ (56 - 8 * j) % 256):=⟨_,rfl⟩;rw[←hxj] at hsb
     have htk:(Je u).take (j+1)=(Je u).take j++[x]:=by rw[List.take_add_one,Mw u j h8,hxj];rfl
     have htA:List.take (b.length+1+j) (List.map AC b++[AV.r (.int .u8 2)]::List.take j (List.map AC (Je u)))=List.map AC b++[AV.r (.int .u8 2)]::List.take j (List.map AC (Je u)):=List.take_of_length_le (by simp only[List.length_append,List.length_cons,List.length_map,List.length_take,CW];omega);(repeat' (first |refine A0 ?_ |refine A5 ?_ |refine A6 ?_ |((refine rR (fun K kp hK hkp=>?_));simp(implicitDefEqProofs:=false) (maxSteps:=2000000) (disch:=omega) only[go_sem,d2,c1,hsb];(repeat' (first |(refine hK _ ?_;clear hK hkp kp K) |(with_reducible refine And.intro ?_ ?_) |omega))) |refine A3 rfl ?_))
     ((refine AJ (j+1) ?_ ?_ ?_);rotate_left;(·(try dsimp only);(omega));(·(refine AE hE [2] rfl ?_ ?_<;>simp[AU,AO,lk,ren,renL,A9,AL,AC,htk,htA]<;>(try omega))))
     omega
    ·obtain rfl:j=8:=by omega
     (repeat' (first |refine A0 ?_ |refine AB ?_ |((refine rR (fun K kp hK hkp=>?_));simp(implicitDefEqProofs:=false) (maxSteps:=2000000) (disch:=omega) only[go_sem];(repeat' (refine hK _ ?_;clear hK hkp kp K))) |refine A4 rfl ?_))
     ((refine AJ ((i+1,b++2::Je u)) ?_ ?_ ?_);rotate_left;(·(try dsimp only);(omega));(·(refine AE hE [0] rfl ?_ ?_<;>simp[AU,AO,lk,ren,renL,A9,AL,Jd,CW]<;>(try omega))))
     exact⟨by omega,by simp only[List.length_append,List.length_cons,CW];omega,hno⟩
   ·have hW:Dd v=3::(H_ v.s.data.toList++[0,0]):=by rw[Dd,hk];rfl
    rw[hW] at hno hlen;have rc:=HR v.s (by omega);simp only[List.length_append,List.length_cons,List.length_nil] at hlen;(repeat' (first |refine A0 ?_ |refine A5 ?_ |refine A6 ?_ |((first |refine rR (fun K kp hK hkp=>?_) |refine cR vc ?_ |refine cR rc ?_);simp(implicitDefEqProofs:=false) (maxSteps:=2000000) (disch:=omega) only[go_sem,hx,eV,hk];(repeat' (first |(refine hK _ ?_;clear hK hkp kp K) |(with_reducible refine And.intro ?_ ?_) |omega))) |refine A3 rfl ?_ |refine A4 rfl ?_ |((refine AD rfl (fun h=>?_) (fun h=>?_)<;>try simp only[BQ] at h)<;>(try (exfalso;omega)))))
    ((refine AJ ((i+1,b++3::(H_ v.s.data.toList++[0,0]))) ?_ ?_ ?_);rotate_left;(·(try dsimp only);(omega));(·(refine AE hE [6] rfl ?_ ?_<;>simp[AU,AO,lk,ren,renL,A9,AL,AC,CV]<;>(try omega))))
    exact⟨by omega,by simp only[List.length_append,List.length_cons,List.length_nil];omega,hno⟩
  ·have hv0:(AZ v.k v.n v.s !=0)=true:=by simpa using hv
   have hM:De l= .error (AZ v.k v.n v.s):=by
    rw[De,if_neg h6,←hno,BA hx,Bz,if_pos hv]
   rw[hM];simp only[JK];(repeat' (first |refine A0 ?_ |refine A5 ?_ |refine A6 ?_ |((first |refine rR (fun K kp hK hkp=>?_) |refine cR vc ?_);simp(implicitDefEqProofs:=false) (maxSteps:=2000000) (disch:=omega) only[go_sem,hx,eV,hv0];(repeat' (refine hK _ ?_;clear hK hkp kp K))) |refine A3 rfl ?_ |((refine AD rfl (fun h=>?_) (fun h=>?_)<;>try simp only[BQ] at h)<;>(try (exfalso;omega))) |refine A8 ?_));(refine A7 (by(simp(implicitDefEqProofs:=false) (maxSteps:=2000000) (disch:=omega) only[go_sem,results62]);rfl) ?_;refine eN hE ?_;simp[AG,ren,renL])
 ·rw[List.drop_of_length_le (by omega),Bz] at hno
  by_cases h100:100<b.length
  ·have d2:decide ((b.length:Int)>100)=true:=decide_eq_true (by omega)
   have hM:De l= .error 5:=by rw[De,if_neg h6,←hno];simp only;rw[if_pos h100]
   rw[hM];simp only[JK];(repeat' (first |refine A0 ?_ |refine AB ?_ |((refine rR (fun K kp hK hkp=>?_));simp(implicitDefEqProofs:=false) (maxSteps:=2000000) (disch:=omega) only[go_sem,d2];(repeat' (refine hK _ ?_;clear hK hkp kp K))) |refine A3 rfl ?_ |((refine AD rfl (fun h=>?_) (fun h=>?_)<;>try simp only[BQ] at h)<;>(try (exfalso;omega))) |refine A8 ?_));(refine A7 (by(simp(implicitDefEqProofs:=false) (maxSteps:=2000000) (disch:=omega) only[go_sem,results62]);rfl) ?_;refine eN hE ?_;simp[AG,ren,renL])
  ·have d2:decide ((b.length:Int)>100)=false:=decide_eq_false (by omega)
   have hM:De l= .ok b:=by rw[De,if_neg h6,←hno];simp only;rw[if_neg h100]
   rw[hM];simp only[JK];(repeat' (first |refine A0 ?_ |refine A6 ?_ |refine AB ?_ |((refine rR (fun K kp hK hkp=>?_));simp(implicitDefEqProofs:=false) (maxSteps:=2000000) (disch:=omega) only[go_sem,d2];(repeat' (refine hK _ ?_;clear hK hkp kp K))) |refine A4 rfl ?_ |((refine AD rfl (fun h=>?_) (fun h=>?_)<;>try simp only[BQ] at h)<;>(try (exfalso;omega))) |refine A8 ?_));(refine A7 (by(simp(implicitDefEqProofs:=false) (maxSteps:=2000000) (disch:=omega) only[go_sem,results62]);rfl) ?_;refine Ar (by simp only[AG];simp(implicitDefEqProofs:=false) (maxSteps:=2000000) (disch:=omega) only[go_sem];rfl) ?_;refine(Al hE (by simp) ?_).s;simp[AG,ren,renL])
end Go.AM
namespace Go.AM
open Go Go.RowKit
open Go.Proofs.YtekljlenlbhmcaaGreatDoor (AY AZ)
attribute [local irreducible] AWP Aw
set_option maxHeartbeats 4000000 in
theorem N_ {G:List (Nat×List Value)}(HR:Fl G)(t:Bool)(r:List V)(b:Ky)(hl:r.length≤1048576)(h1:1≤r.length)(hg: ∀v ∈ r,gV v)(he:De (r.take 1)= .ok b):
  Con prog G 48 [.ro t 3 (r.map eV)] [] 0 (Is (.ro true 1 (b.map AC)) [] 0) No:=by
 have ec:=PK HR t (r.take 1) (by rw[List.length_take];omega) (fun v hv=>hg v (List.mem_of_mem_take hv));rw[he,JK,List.map_take] at ec;have z1:((1:Int)≤(r.length:Int))=True:=eq_true (by omega);refine AA func48 rfl (by kernel_rfl) (of_decide_eq_true (by kernel_rfl)) ?_;intro E hG hE;subst hG;simp only[B9];(repeat' (first |refine A0 ?_ |((first |refine rR (fun K kp hK hkp=>?_) |refine cR ec ?_);simp(implicitDefEqProofs:=false) (maxSteps:=2000000) (disch:=omega) only[go_sem,z1];(repeat' (refine hK _ ?_;clear hK hkp kp K))) |refine A8 ?_));(refine A7 (by(simp(implicitDefEqProofs:=false) (maxSteps:=2000000) (disch:=omega) only[go_sem,results48]);rfl) ?_;refine eN hE ?_;simp[AG,ren,renL])
set_option maxHeartbeats 4000000 in
theorem NZ (G:List (Nat×List Value))(t:Bool)(r:List V)(b:Ky)(hl:r.length≤1048576)(h1:1≤r.length)(hg: ∀v ∈ r,gV v)(he:De (r.take 1)= .ok b):
  Con prog G 51 [.ro t 3 (r.map eV)] [] 0 (Is (.ro true 1 (b.map AC)) [] 0) No:=by
 have ec:=Mb G t (r.take 1) (by rw[List.length_take];omega) (fun v hv=>hg v (List.mem_of_mem_take hv));rw[he,JK,List.map_take] at ec;have z1:((1:Int)≤(r.length:Int))=True:=eq_true (by omega);refine AA func51 rfl (by kernel_rfl) (of_decide_eq_true (by kernel_rfl)) ?_;intro E hG hE;subst hG;simp only[B9];(repeat' (first |refine A0 ?_ |((first |refine rR (fun K kp hK hkp=>?_) |refine cR ec ?_);simp(implicitDefEqProofs:=false) (maxSteps:=2000000) (disch:=omega) only[go_sem,z1];(repeat' (refine hK _ ?_;clear hK hkp kp K))) |refine A8 ?_));(refine A7 (by(simp(implicitDefEqProofs:=false) (maxSteps:=2000000) (disch:=omega) only[go_sem,results51]);rfl) ?_;refine eN hE ?_;simp[AG,ren,renL])
set_option maxHeartbeats 4000000 in
theorem Di {G:List (Nat×List Value)}(T:Tabs G)(HR:Fl G)(b:TB)(ho:okTB b):Con prog G 31 [.agg (Ac b)] [] 0 (Is (.r (.bool (GX b))) [] 0) No:=by
 have nc:=HH T b.nm ho.nm;have cc:=HY T true b.cols ho.cl ho.cs;have kc:=F9 G b.ps b.root (Fs ho.ps);have hrl:=ho.rl;rw[GX];refine AA func31 rfl (by kernel_rfl) (of_decide_eq_true (by kernel_rfl)) ?_;intro E hG hE;subst hG;simp only[B9]
 by_cases h1:AY b.nm=0
 rotate_left
 ·have z1:(AY b.nm !=0)=true:=by simp[h1]
  rw[decide_eq_false h1];(repeat' (first |refine A0 ?_ |((first |refine rR (fun K kp hK hkp=>?_) |refine cR nc ?_);simp(implicitDefEqProofs:=false) (maxSteps:=2000000) (disch:=omega) only[go_sem,z1,Ac];(repeat' (refine hK _ ?_;clear hK hkp kp K))) |refine A3 rfl ?_ |refine A8 ?_));(refine A7 (by(simp(implicitDefEqProofs:=false) (maxSteps:=2000000) (disch:=omega) only[go_sem,results31]);rfl) ?_;refine eN hE ?_;simp[AG,ren,renL])
 have z1:(AY b.nm !=0)=false:=by simp[h1]
 by_cases h2:Am b.cols=0
 rotate_left
 ·have z2:(Am b.cols !=0)=true:=by simp[h2]
  rw[decide_eq_true h1,decide_eq_false h2];(repeat' (first |refine A0 ?_ |((first |refine rR (fun K kp hK hkp=>?_) |refine cR nc ?_ |refine cR cc ?_);simp(implicitDefEqProofs:=false) (maxSteps:=2000000) (disch:=omega) only[go_sem,z1,z2,Ac];(repeat' (refine hK _ ?_;clear hK hkp kp K))) |refine A3 rfl ?_ |refine A8 ?_));(refine A7 (by(simp(implicitDefEqProofs:=false) (maxSteps:=2000000) (disch:=omega) only[go_sem,results31]);rfl) ?_;refine eN hE ?_;simp[AG,ren,renL])
 have z2:(Am b.cols !=0)=false:=by simp[h2]
 by_cases h3:b.rows.length≤40
 rotate_left
 ·have z3:((b.rows.length:Int)>40)=True:=eq_true (by omega)
  rw[decide_eq_true h1,decide_eq_true h2,decide_eq_false h3];(repeat' (first |refine A0 ?_ |((first |refine rR (fun K kp hK hkp=>?_) |refine cR nc ?_ |refine cR cc ?_);simp(implicitDefEqProofs:=false) (maxSteps:=2000000) (disch:=omega) only[go_sem,z1,z2,z3,Ac];(repeat' (refine hK _ ?_;clear hK hkp kp K))) |refine A3 rfl ?_ |refine A8 ?_));(refine A7 (by(simp(implicitDefEqProofs:=false) (maxSteps:=2000000) (disch:=omega) only[go_sem,results31]);rfl) ?_;refine eN hE ?_;simp[AG,ren,renL])
 have z3:((b.rows.length:Int)>40)=False:=eq_false (by omega)
 by_cases h4:E9 b.ps b.root=0
 rotate_left
 ·have z4:(E9 b.ps b.root !=0)=true:=by simp[h4]
  rw[decide_eq_true h1,decide_eq_true h2,decide_eq_true h3,decide_eq_false h4];(repeat' (first |refine A0 ?_ |((first |refine rR (fun K kp hK hkp=>?_) |refine cR nc ?_ |refine cR cc ?_ |refine cR kc ?_);simp(implicitDefEqProofs:=false) (maxSteps:=2000000) (disch:=omega) only[go_sem,z1,z2,z3,z4,Ac];(repeat' (refine hK _ ?_;clear hK hkp kp K))) |refine A3 rfl ?_ |refine A8 ?_));(refine A7 (by(simp(implicitDefEqProofs:=false) (maxSteps:=2000000) (disch:=omega) only[go_sem,results31]);rfl) ?_;refine eN hE ?_;simp[AG,ren,renL])
 have z4:(E9 b.ps b.root !=0)=false:=by simp[h4]
 rw[decide_eq_true h1,decide_eq_true h2,decide_eq_true h3,decide_eq_true h4];obtain⟨R,hR⟩: ∃R,(DQ (BO b.ps b.root) b.cols 0 b.rows&&decide (Be b.rows=(BO b.ps b.root).length))=R:=⟨_,rfl⟩;simp only[Bool.true_and,hR];obtain⟨r0,d0,hr0,hT⟩:=OA h4
 have hEn:BO b.ps b.root=BC b.ps d0 r0:=by rw[hr0,IP hT]
 have hEl:(BO b.ps b.root).length≤16000:=by
  have:=Dk hT.ok (CB b.ps d0 [r0]);have:=hT.many;rw[hEn,BC];omega
 have sc:=Rx E.G true b.ps b.root [] [] ho.ps (BO b.ps b.root) (fun _ r d e h=>by rw[QZ,e,IP h])
 have hask:OM b.ps b.root [] []=0:=by rw[OM,if_neg (by simpa using h4),if_pos ⟨Nat.zero_le _,Nat.zero_le _⟩]
 rw[hask,Ry,if_pos rfl] at sc;have sc:=sc.weak (xs:=[.agg [.ro true 5 (b.ps.map eP),.r (.int .i64 b.root)],.r (.slice none 0 0),.r (.slice none 0 0)]) (by simp[LF,wk]);(repeat' (first |refine A0 ?_ |refine A5 ?_ |refine A6 ?_ |((first |refine rR (fun K kp hK hkp=>?_) |refine cR nc ?_ |refine cR cc ?_ |refine cR kc ?_);simp(implicitDefEqProofs:=false) (maxSteps:=2000000) (disch:=omega) only[go_sem,z1,z2,z3,z4,Ac];(repeat' (refine hK _ ?_;clear hK hkp kp K))) |refine A4 rfl ?_));clear nc cc kc z1 z2 z3 z4 h1 h2;refine AH (fun k:Nat=>⟨[(35,.r (.int .i64 k)),(34,.r (.int .i64 b.rows.length)),(33,.ro true 1 (b.rows.map Cu)),(3,.r (.int .i64 (Be (b.rows.take k):Nat))),(1,.p 0 0 0)],[(0,.box 35 (Ac b))],1⟩) (fun k=>k≤b.rows.length∧(DQ (BO b.ps b.root) b.cols k (b.rows.drop k)&&decide (Be b.rows=(BO b.ps b.root).length))=R) (fun k=>b.rows.length - k) 0 ?_ ?_ ?_
 ·exact⟨Nat.zero_le _,hR⟩
 ·(refine AE hE [0] rfl ?_ ?_<;>simp[AU,AO,lk,ren,renL,A9,AL,Ac,Be]<;>(try omega))
 rintro k ⟨hk,hno⟩;have hm:=KF (b.rows.take k)
 have hm2:(b.rows.take k).length≤k:=by rw[List.length_take];omega
 by_cases hlt:k<b.rows.length
 ·have zk:((k:Int)<(b.rows.length:Int))=True:=eq_true (by omega)
  obtain⟨x,hx⟩: ∃x,b.rows[k]?=some x:=⟨_,List.getElem?_eq_getElem hlt⟩;have hmt:=KE hx;rw[K1 hx] at hno
  by_cases hx0:x.length=0
  ·have zx:((x.length:Int)==0)=true:=by simp[hx0]
   rw[if_pos hx0] at hno hmt;(repeat' (first |refine A0 ?_ |refine A5 ?_ |refine A6 ?_ |refine AB ?_ |((refine rR (fun K kp hK hkp=>?_));simp(implicitDefEqProofs:=false) (maxSteps:=2000000) (disch:=omega) only[go_sem,zk,hx,Ac,Cu,zx];(repeat' (refine hK _ ?_;clear hK hkp kp K))) |refine A3 rfl ?_))
   ((refine AJ (k+1) ?_ ?_ ?_);rotate_left;(·(try dsimp only);(omega));(·(refine AE hE [0] rfl ?_ ?_<;>simp[AU,AO,lk,ren,renL,A9,AL,Ac,hmt]<;>(try omega))))
   exact⟨by omega,hno⟩
  ·have zx:((x.length:Int)==0)=false:=by rw[beq_eq_false_iff_ne];omega
   rw[if_neg hx0] at hno hmt;obtain⟨ho1,ho2⟩:=ho.rs x (List.mem_of_getElem? hx);have rc:=Ns T b.cols x ho.cl ho1 ho.cs (fun v hv=>(ho2 v hv).1)
   have e1:((Be (b.rows.take k):Nat):Int)+1=((Be (b.rows.take k)+1:Nat):Int):=by omega
   by_cases hr:BS b.cols x=0
   ·obtain⟨v,s,hvs,he,hkb⟩:=JX hr
    have key:=N_ HR true x (C9 x) ho1 (by omega) ho2 he;obtain⟨R2,hR2⟩:=PF b.ps b.root (C9 x);have fc:=R6 E.G true b.ps b.root (C9 x) ho.ps R2 fun _ r d e h=>(hR2 r d e h).1;have ha:=UV h4 hkb
    have hf:R2=DN (BO b.ps b.root) (C9 x):=by rw[(hR2 r0 d0 hr0 hT).2,hEn]
    rw[K_,ha] at fc;simp only[ne_eq,not_true_eq_false,if_false] at fc
    have zr:(BS b.cols x !=0)=false:=by simp[hr]
    obtain⟨f1,f2⟩:=R2
    by_cases hg:f2=0∧f1=(k:Int)
    ·have g1:(f2 !=0)=false:=by simp[hg.1]
     have g2:(f1 !=(k:Int))=false:=by simp[hg.2]
     have hG:I7 (BO b.ps b.root) b.cols k x=true:=by rw[I7,decide_eq_true hr,←hf,hg.1,hg.2];simp
     rw[hG,if_pos rfl] at hno;(repeat' (first |refine A0 ?_ |refine A5 ?_ |refine A6 ?_ |((first |refine rR (fun K kp hK hkp=>?_) |refine rD (id:=11) mixed 10 [0,1,2,3,4,5,6,7,8,9] (fun K kp hK hkp=>?_) |refine cR rc ?_ |refine cD key ?_ |refine cD fc ?_);simp(implicitDefEqProofs:=false) (maxSteps:=2000000) (disch:=omega) only[go_sem,zk,hx,Ac,Cu,zx,zr,e1,g1,g2];(repeat' (refine hK _ ?_;clear hK hkp kp K))) |refine A3 rfl ?_ |refine A4 rfl ?_))
     ((refine AJ (k+1) ?_ ?_ ?_);rotate_left;(·(try dsimp only);(omega));(·(refine AE hE [0] rfl ?_ ?_<;>simp[AU,AO,lk,ren,renL,A9,AL,Ac,hmt]<;>(try omega))))
     exact⟨by omega,hno⟩
    ·have hG:I7 (BO b.ps b.root) b.cols k x=false:=by
      rw[I7,←hf,Bool.and_eq_false_iff]
      right
      rw[decide_eq_false_iff_not];intro e
      injection e with e1 e2
      exact hg ⟨e2,e1⟩
     rw[hG] at hno
     have hno:false=R:=by simpa using hno
     rw[←hno]
     by_cases g1':f2=0
     ·have g1:(f2 !=0)=false:=by simp[g1']
      have g2:(f1 !=(k:Int))=true:=by rw[bne_iff_ne];exact fun e=>hg ⟨g1',e⟩
      (repeat' (first |refine A0 ?_ |refine A5 ?_ |refine A6 ?_ |((first |refine rR (fun K kp hK hkp=>?_) |refine rD (id:=11) mixed 10 [0,1,2,3,4,5,6,7,8,9] (fun K kp hK hkp=>?_) |refine cR rc ?_ |refine cD key ?_ |refine cD fc ?_);simp(implicitDefEqProofs:=false) (maxSteps:=2000000) (disch:=omega) only[go_sem,zk,hx,Ac,Cu,zx,zr,e1,g1,g2];(repeat' (refine hK _ ?_;clear hK hkp kp K))) |refine A3 rfl ?_ |refine A4 rfl ?_ |refine A8 ?_));(refine A7 (by(simp(implicitDefEqProofs:=false) (maxSteps:=2000000) (disch:=omega) only[go_sem,results31]);rfl) ?_;refine eN hE ?_;simp[AG,ren,renL])
     ·have g1:(f2 !=0)=true:=by rw[bne_iff_ne];exact g1'
      (repeat' (first |refine A0 ?_ |refine A5 ?_ |refine A6 ?_ |((first |refine rR (fun K kp hK hkp=>?_) |refine rD (id:=11) mixed 10 [0,1,2,3,4,5,6,7,8,9] (fun K kp hK hkp=>?_) |refine cR rc ?_ |refine cD key ?_ |refine cD fc ?_);simp(implicitDefEqProofs:=false) (maxSteps:=2000000) (disch:=omega) only[go_sem,zk,hx,Ac,Cu,zx,zr,e1,g1];(repeat' (refine hK _ ?_;clear hK hkp kp K))) |refine A3 rfl ?_ |refine A4 rfl ?_ |refine A8 ?_));(refine A7 (by(simp(implicitDefEqProofs:=false) (maxSteps:=2000000) (disch:=omega) only[go_sem,results31]);rfl) ?_;refine eN hE ?_;simp[AG,ren,renL])
   ·have zr:(BS b.cols x !=0)=true:=by simp[hr]
    have hG:I7 (BO b.ps b.root) b.cols k x=false:=by rw[I7,decide_eq_false hr];rfl
    rw[hG] at hno
    have hno:false=R:=by simpa using hno
    rw[←hno];(repeat' (first |refine A0 ?_ |refine A5 ?_ |refine A6 ?_ |((first |refine rR (fun K kp hK hkp=>?_) |refine cR rc ?_);simp(implicitDefEqProofs:=false) (maxSteps:=2000000) (disch:=omega) only[go_sem,zk,hx,Ac,Cu,zx,zr,e1];(repeat' (refine hK _ ?_;clear hK hkp kp K))) |refine A3 rfl ?_ |refine A4 rfl ?_ |refine A8 ?_));(refine A7 (by(simp(implicitDefEqProofs:=false) (maxSteps:=2000000) (disch:=omega) only[go_sem,results31]);rfl) ?_;refine eN hE ?_;simp[AG,ren,renL])
 ·obtain rfl:k=b.rows.length:=by omega
  have hno:decide (Be b.rows=(BO b.ps b.root).length)=R:=by
   rw[←hno,List.drop_length,DQ];simp
  have hq:(((BO b.ps b.root).length:Int)==((Be b.rows:Nat):Int))=R:=by
   rw[←hno,Bool.eq_iff_iff,beq_iff_eq,decide_eq_true_eq];omega
  rw[List.take_length];(repeat' (first |refine A0 ?_ |refine AB ?_ |((first |refine rR (fun K kp hK hkp=>?_) |refine cR sc ?_);simp(implicitDefEqProofs:=false) (maxSteps:=2000000) (disch:=omega) only[go_sem,Ac,hq];(repeat' (refine hK _ ?_;clear hK hkp kp K))) |((refine AD rfl (fun h=>?_) (fun h=>?_)<;>try simp only[BQ] at h)<;>(try (exfalso;omega))) |refine A8 ?_));(refine A7 (by(simp(implicitDefEqProofs:=false) (maxSteps:=2000000) (disch:=omega) only[go_sem,results31,hq]);rfl) ?_;refine eN hE ?_;simp[AG,ren,renL,hq])
end Go.AM
namespace Go.AM
open Go Go.RowKit
open Go.Proofs.YtekljlenlbhmcaaGreatDoor (AY AZ)
attribute [local irreducible] AWP Aw
theorem TD {α:Type}{l:List α}{j:Nat}{x:α}(p:α→Bool)(h:l[j]?=some x):(l.take (j+1)).any p=((l.take j).any p||p x):=by
 rw[List.take_add_one,h];simp
set_option maxHeartbeats 4000000 in
theorem FO (G:List (Nat×List Value))(b:TB)(ho:okTB b):Con prog G 33 [.agg (Ac b)] [] 0 (Is (.r (.bool (!GX b))) [] 0) No:=by
 have nc:=EJ G b.nm ho.nm;have cc:=GP G b.cols ho.cl ho.cs;have kc:=G9 G true b.ps b.root (Fs ho.ps) ho.ps.1;rw[←QD] at kc;have hrl:=ho.rl;rw[GX];refine AA func33 rfl (by kernel_rfl) (of_decide_eq_true (by kernel_rfl)) ?_;intro E hG hE;subst hG;simp only[B9]
 by_cases h1:AY b.nm=0
 rotate_left
 ·have z1:(AY b.nm !=0)=true:=by simp[h1]
  rw[decide_eq_false h1];(repeat' (first |refine A0 ?_ |((first |refine rR (fun K kp hK hkp=>?_) |refine cR nc ?_);simp(implicitDefEqProofs:=false) (maxSteps:=2000000) (disch:=omega) only[go_sem,z1,Ac];(repeat' (refine hK _ ?_;clear hK hkp kp K))) |refine A3 rfl ?_ |refine A8 ?_));(refine A7 (by(simp(implicitDefEqProofs:=false) (maxSteps:=2000000) (disch:=omega) only[go_sem,results33]);rfl) ?_;refine eN hE ?_;simp[AG,ren,renL])
 have z1:(AY b.nm !=0)=false:=by simp[h1]
 by_cases h2:Am b.cols=0
 rotate_left
 ·have z2:(Am b.cols !=0)=true:=by simp[h2]
  rw[decide_eq_true h1,decide_eq_false h2];(repeat' (first |refine A0 ?_ |((first |refine rR (fun K kp hK hkp=>?_) |refine cR nc ?_ |refine cR cc ?_);simp(implicitDefEqProofs:=false) (maxSteps:=2000000) (disch:=omega) only[go_sem,z1,z2,Ac];(repeat' (refine hK _ ?_;clear hK hkp kp K))) |refine A3 rfl ?_ |refine A8 ?_));(refine A7 (by(simp(implicitDefEqProofs:=false) (maxSteps:=2000000) (disch:=omega) only[go_sem,results33]);rfl) ?_;refine eN hE ?_;simp[AG,ren,renL])
 have z2:(Am b.cols !=0)=false:=by simp[h2]
 by_cases h3:b.rows.length≤40
 rotate_left
 ·have z3:((b.rows.length:Int)>40)=True:=eq_true (by omega)
  rw[decide_eq_true h1,decide_eq_true h2,decide_eq_false h3];(repeat' (first |refine A0 ?_ |((first |refine rR (fun K kp hK hkp=>?_) |refine cR nc ?_ |refine cR cc ?_);simp(implicitDefEqProofs:=false) (maxSteps:=2000000) (disch:=omega) only[go_sem,z1,z2,z3,Ac];(repeat' (refine hK _ ?_;clear hK hkp kp K))) |refine A3 rfl ?_ |refine A8 ?_));(refine A7 (by(simp(implicitDefEqProofs:=false) (maxSteps:=2000000) (disch:=omega) only[go_sem,results33]);rfl) ?_;refine eN hE ?_;simp[AG,ren,renL])
 have z3:((b.rows.length:Int)>40)=False:=eq_false (by omega)
 by_cases h4:E9 b.ps b.root=0
 rotate_left
 ·have z4:(E9 b.ps b.root !=0)=true:=by simp[h4]
  rw[decide_eq_true h1,decide_eq_true h2,decide_eq_true h3,decide_eq_false h4];(repeat' (first |refine A0 ?_ |((first |refine rR (fun K kp hK hkp=>?_) |refine cR nc ?_ |refine cR cc ?_ |refine cR kc ?_);simp(implicitDefEqProofs:=false) (maxSteps:=2000000) (disch:=omega) only[go_sem,z1,z2,z3,z4,Ac];(repeat' (refine hK _ ?_;clear hK hkp kp K))) |refine A3 rfl ?_ |refine A8 ?_));(refine A7 (by(simp(implicitDefEqProofs:=false) (maxSteps:=2000000) (disch:=omega) only[go_sem,results33]);rfl) ?_;refine eN hE ?_;simp[AG,ren,renL])
 have z4:(E9 b.ps b.root !=0)=false:=by simp[h4]
 rw[decide_eq_true h1,decide_eq_true h2,decide_eq_true h3,decide_eq_true h4];obtain⟨R,hR⟩: ∃R,(DQ (BO b.ps b.root) b.cols 0 b.rows&&decide (Be b.rows=(BO b.ps b.root).length))=R:=⟨_,rfl⟩;simp only[Bool.true_and,hR];obtain⟨r0,d0,hr0,hT⟩:=OA h4
 have hEn:BO b.ps b.root=BC b.ps d0 r0:=by rw[hr0,IP hT]
 have hEl:(BO b.ps b.root).length≤16000:=by
  have:=Dk hT.ok (CB b.ps d0 [r0]);have:=hT.many;rw[hEn,BC];omega
 have hsr:TF (BO b.ps b.root):=by rw[hEn];exact Kg hT.ok d0 r0 [] [] hT.good
 have ec:=GL E.G true hT ho.ps;rw[←hEn,←hr0] at ec;generalize BO b.ps b.root=en at *;(repeat' (first |refine A0 ?_ |refine A5 ?_ |refine A6 ?_ |((first |refine rR (fun K kp hK hkp=>?_) |refine cR nc ?_ |refine cR cc ?_ |refine cR kc ?_ |refine cR ec ?_);simp(implicitDefEqProofs:=false) (maxSteps:=2000000) (disch:=omega) only[go_sem,z1,z2,z3,z4,Ac];(repeat' (refine hK _ ?_;clear hK hkp kp K))) |refine A4 rfl ?_));clear nc cc kc z1 z2 z3 z4 h1 h2 ec hEn;refine AH (fun k:Nat=>⟨[(5,.r (.int .i64 k)),(4,.r (.int .i64 (Be (b.rows.take k):Nat))),(3,.ro true 2 (en.map E8)),(1,.p 0 0 0)],[(0,.box 35 (Ac b))],1⟩) (fun k=>k≤b.rows.length∧(DQ en b.cols k (b.rows.drop k)&&decide (Be b.rows=en.length))=R) (fun k=>b.rows.length - k) 0 ?_ ?_ ?_
 ·exact⟨Nat.zero_le _,hR⟩
 ·(refine AE hE [0] rfl ?_ ?_<;>simp[AU,AO,lk,ren,renL,A9,AL,Ac,Be]<;>(try omega))
 rintro k ⟨hk,hno⟩;have hm:=KF (b.rows.take k)
 have hm2:(b.rows.take k).length≤k:=by rw[List.length_take];omega
 by_cases hlt:k<b.rows.length
 ·have zk:((k:Int)<(b.rows.length:Int))=True:=eq_true (by omega)
  obtain⟨x,hx⟩: ∃x,b.rows[k]?=some x:=⟨_,List.getElem?_eq_getElem hlt⟩;have hmt:=KE hx;rw[K1 hx] at hno
  by_cases hx0:x.length=0
  ·have zx:((x.length:Int)==0)=true:=by simp[hx0]
   rw[if_pos hx0] at hno hmt;(repeat' (first |refine A0 ?_ |refine A5 ?_ |refine A6 ?_ |refine AB ?_ |((refine rR (fun K kp hK hkp=>?_));simp(implicitDefEqProofs:=false) (maxSteps:=2000000) (disch:=omega) only[go_sem,zk,hx,Ac,Cu,zx];(repeat' (refine hK _ ?_;clear hK hkp kp K))) |refine A3 rfl ?_))
   ((refine AJ (k+1) ?_ ?_ ?_);rotate_left;(·(try dsimp only);(omega));(·(refine AE hE [0] rfl ?_ ?_<;>simp[AU,AO,lk,ren,renL,A9,AL,Ac,hmt]<;>(try omega))))
   exact⟨by omega,hno⟩
  ·have zx:((x.length:Int)==0)=false:=by rw[beq_eq_false_iff_ne];omega
   rw[if_neg hx0] at hno hmt;obtain⟨ho1,ho2⟩:=ho.rs x (List.mem_of_getElem? hx);have rc:=MK (G:=E.G) b.cols x ho.cl ho1 ho.cs (fun v hv=>(ho2 v hv).1)
   have e1:((Be (b.rows.take k):Nat):Int)+1=((Be (b.rows.take k)+1:Nat):Int):=by omega
   by_cases hr:BS b.cols x=0
   ·obtain⟨v,s,hvs,he,hkb⟩:=JX hr
    have key:=NZ E.G true x (C9 x) ho1 (by omega) ho2 he;have hany:=RQ hsr (k:Int) (C9 x)
    have hG:I7 en b.cols k x=decide (DN en (C9 x)=((k:Int),0)):=by rw[I7,decide_eq_true hr];rfl
    rw[hG,←hany] at hno
    have zr:(BS b.cols x !=0)=false:=by simp[hr]
    generalize C9 x=ky at *;clear hG hany he hkb hvs;(repeat' (first |refine A0 ?_ |refine A5 ?_ |refine A6 ?_ |((first |refine rR (fun K kp hK hkp=>?_) |refine rD (id:=10) mixed 9 [0,1,2,3,4,5,6,7,8] (fun K kp hK hkp=>?_) |refine cD rc ?_ |refine cR key ?_);simp(implicitDefEqProofs:=false) (maxSteps:=2000000) (disch:=omega) only[go_sem,zk,hx,Ac,Cu,zx,zr,e1];(repeat' (refine hK _ ?_;clear hK hkp kp K))) |refine A3 rfl ?_ |refine A4 rfl ?_));refine AH (fun j:Nat=>⟨[(8,.r (.int .i64 j)),(7,.r (.bool ((en.take j).any fun e=>(e.2==(k:Int))&&(e.1==ky)))),(6,.ro true 1 (ky.map AC)),(5,.r (.int .i64 k)),(4,.r (.int .i64 (Be (b.rows.take k)+1:Nat))),(3,.ro true 2 (en.map E8)),(1,.p 0 0 0)],[(0,.box 35 (Ac b))],1⟩) (fun j=>j≤en.length) (fun j=>en.length - j) 0 ?_ ?_ ?_
    ·exact Nat.zero_le _
    ·(refine AE hE [0] rfl ?_ ?_<;>simp[AU,AO,lk,ren,renL,A9,AL,Ac]<;>(try omega))
    intro j hj
    by_cases hjl:j<en.length
    ·have zj:((j:Int)<(en.length:Int))=True:=eq_true (by omega)
     obtain⟨y,hy⟩: ∃y,en[j]?=some y:=⟨_,List.getElem?_eq_getElem hjl⟩;have hat:=TD (fun e:Et=>(e.2==(k:Int))&&(e.1==ky)) hy;have sk:=ED E.G true true y.1 ky
     cases ha:(en.take j).any fun e=>(e.2==(k:Int))&&(e.1==ky)
     ·rw[ha] at hat
      cases h1:(y.2==(k:Int))
      ·rw[h1] at hat
       (repeat' (first |refine A0 ?_ |refine A5 ?_ |refine A6 ?_ |((refine rR (fun K kp hK hkp=>?_));simp(implicitDefEqProofs:=false) (maxSteps:=2000000) (disch:=omega) only[go_sem,zj,hy,E8,h1];(repeat' (refine hK _ ?_;clear hK hkp kp K))) |refine A3 rfl ?_))
       ((refine AJ (j+1) ?_ ?_ ?_);rotate_left;(·(try dsimp only);(omega));(·(refine AE hE [0] rfl ?_ ?_<;>simp[AU,AO,lk,ren,renL,A9,AL,Ac,hat]<;>(try omega))))
       omega
      ·rw[h1] at hat
       (repeat' (first |refine A0 ?_ |refine A5 ?_ |refine A6 ?_ |((first |refine rR (fun K kp hK hkp=>?_) |refine cR sk ?_);simp(implicitDefEqProofs:=false) (maxSteps:=2000000) (disch:=omega) only[go_sem,zj,hy,E8,h1];(repeat' (refine hK _ ?_;clear hK hkp kp K))) |refine A3 rfl ?_))
       ((refine AJ (j+1) ?_ ?_ ?_);rotate_left;(·(try dsimp only);(omega));(·(refine AE hE [0] rfl ?_ ?_<;>simp[AU,AO,lk,ren,renL,A9,AL,Ac,hat]<;>(try omega))))
       omega
     ·rw[ha] at hat
      (repeat' (first |refine A0 ?_ |refine A5 ?_ |refine A6 ?_ |((refine rR (fun K kp hK hkp=>?_));simp(implicitDefEqProofs:=false) (maxSteps:=2000000) (disch:=omega) only[go_sem,zj,hy,E8];(repeat' (refine hK _ ?_;clear hK hkp kp K))) |refine A3 rfl ?_))
      ((refine AJ (j+1) ?_ ?_ ?_);rotate_left;(·(try dsimp only);(omega));(·(refine AE hE [0] rfl ?_ ?_<;>simp[AU,AO,lk,ren,renL,A9,AL,Ac,hat]<;>(try omega))))
      omega
    ·have zj:((j:Int)<(en.length:Int))=False:=eq_false (by omega)
     obtain rfl:j=en.length:=by omega
     rw[List.take_length]
     cases ha:en.any fun e=>(e.2==(k:Int))&&(e.1==ky)
     ·rw[ha] at hno
      have hno:false=R:=by simpa using hno
      rw[←hno];(repeat' (first |refine A0 ?_ |refine AB ?_ |((refine rR (fun K kp hK hkp=>?_));simp(implicitDefEqProofs:=false) (maxSteps:=2000000) (disch:=omega) only[go_sem,zj];(repeat' (refine hK _ ?_;clear hK hkp kp K))) |refine A3 rfl ?_ |refine A4 rfl ?_ |refine A8 ?_));(refine A7 (by(simp(implicitDefEqProofs:=false) (maxSteps:=2000000) (disch:=omega) only[go_sem,results33]);rfl) ?_;refine eN hE ?_;simp[AG,ren,renL])
     ·rw[ha,if_pos rfl] at hno
      (repeat' (first |refine A0 ?_ |refine A6 ?_ |refine AB ?_ |((refine rR (fun K kp hK hkp=>?_));simp(implicitDefEqProofs:=false) (maxSteps:=2000000) (disch:=omega) only[go_sem,zj];(repeat' (refine hK _ ?_;clear hK hkp kp K))) |refine A4 rfl ?_))
      ((refine AJ (k+1) ?_ ?_ ?_);rotate_left;(·(try dsimp only);(omega));(·(refine AE hE [0] rfl ?_ ?_<;>simp[AU,AO,lk,ren,renL,A9,AL,Ac,hmt]<;>(try omega))))
      exact⟨by omega,hno⟩
   ·have zr:(BS b.cols x !=0)=true:=by simp[hr]
    have hG:I7 en b.cols k x=false:=by rw[I7,decide_eq_false hr];rfl
    rw[hG] at hno
    have hno:false=R:=by simpa using hno
    rw[←hno];(repeat' (first |refine A0 ?_ |refine A5 ?_ |refine A6 ?_ |((first |refine rR (fun K kp hK hkp=>?_) |refine rD (id:=10) mixed 9 [0,1,2,3,4,5,6,7,8] (fun K kp hK hkp=>?_) |refine cD rc ?_);simp(implicitDefEqProofs:=false) (maxSteps:=2000000) (disch:=omega) only[go_sem,zk,hx,Ac,Cu,zx,zr,e1];(repeat' (refine hK _ ?_;clear hK hkp kp K))) |refine A3 rfl ?_ |refine A4 rfl ?_ |refine A8 ?_));(refine A7 (by(simp(implicitDefEqProofs:=false) (maxSteps:=2000000) (disch:=omega) only[go_sem,results33]);rfl) ?_;refine eN hE ?_;simp[AG,ren,renL])
 ·have zk:((k:Int)<(b.rows.length:Int))=False:=eq_false (by omega)
  obtain rfl:k=b.rows.length:=by omega
  have hno:decide (Be b.rows=en.length)=R:=by
   rw[←hno,List.drop_length,DQ];simp
  have hq:(((Be b.rows:Nat):Int) !=(en.length:Int))= !R:=by
   rw[←hno,Bool.eq_iff_iff,bne_iff_ne,Bool.not_eq_true',decide_eq_false_iff_not];omega
  rw[List.take_length];(repeat' (first |refine A0 ?_ |refine AB ?_ |((refine rR (fun K kp hK hkp=>?_));simp(implicitDefEqProofs:=false) (maxSteps:=2000000) (disch:=omega) only[go_sem,zk,Ac,hq];(repeat' (refine hK _ ?_;clear hK hkp kp K))) |refine A4 rfl ?_ |refine A8 ?_));(refine A7 (by(simp(implicitDefEqProofs:=false) (maxSteps:=2000000) (disch:=omega) only[go_sem,results33,hq]);rfl) ?_;refine eN hE ?_;simp[AG,ren,renL,hq])
end Go.AM
namespace Go.AM
open Go Go.RowKit
open Go.Proofs.YtekljlenlbhmcaaGreatDoor (AY AZ)
attribute [local irreducible] AWP Aw
def C7:List CO→List CO→Bool
 | [],[]=>true
 |x::r,y::q=>(x.nm.toList==y.nm.toList&&x.k==y.k)&&C7 r q
 |_,_=>false
theorem GY: ∀ {a b:List CO},C7 a b=true→a.length=b.length
 | [],[],_=>rfl
 | [],_::_,h=>by simp[C7] at h
 |_::_,[],h=>by simp[C7] at h
 |x::r,y::q,h=>by
  simp only[C7,Bool.and_eq_true] at h;rw[List.length_cons,List.length_cons,GY h.2]
set_option maxHeartbeats 4000000 in
theorem Gj (G:List (Nat×List Value))(t u:Bool)(a b:List CO)(ha:a.length≤1048576)(hb:b.length≤1048576):Con prog G 35 [.ro t 2 (a.map eC),.ro u 2 (b.map eC)] [] 0 (Is (.r (.bool (C7 a b))) [] 0) No:=by
 refine AA func35 rfl (by kernel_rfl) (of_decide_eq_true (by kernel_rfl)) ?_;intro E hG hE;subst hG;simp only[B9]
 by_cases hab:a.length=b.length
 rotate_left
 ·have z0:((a.length:Int) !=(b.length:Int))=true:=by rw[bne_iff_ne];omega
  have hs:C7 a b=false:=Bool.eq_false_iff.2 fun h=>hab (GY h);rw[hs];(repeat' (first |refine A0 ?_ |((refine rR (fun K kp hK hkp=>?_));simp(implicitDefEqProofs:=false) (maxSteps:=2000000) (disch:=omega) only[go_sem,z0];(repeat' (refine hK _ ?_;clear hK hkp kp K))) |refine A3 rfl ?_ |refine A8 ?_));(refine A7 (by(simp(implicitDefEqProofs:=false) (maxSteps:=2000000) (disch:=omega) only[go_sem,results35]);rfl) ?_;refine eN hE ?_;simp[AG,ren,renL])
 have z0:((a.length:Int) !=(b.length:Int))=false:=by rw[bne_eq_false_iff_eq];omega
 (repeat' (first |refine A0 ?_ |refine A5 ?_ |refine A6 ?_ |((refine rR (fun K kp hK hkp=>?_));simp(implicitDefEqProofs:=false) (maxSteps:=2000000) (disch:=omega) only[go_sem,z0];(repeat' (refine hK _ ?_;clear hK hkp kp K))) |refine A4 rfl ?_));refine AH (fun k:Nat=>⟨[(13,.r (.int .i64 k)),(12,.r (.int .i64 a.length)),(0,.ro t 2 (a.map eC)),(1,.ro u 2 (b.map eC))],[],0⟩) (fun k=>k≤a.length∧C7 (a.drop k) (b.drop k)=C7 a b) (fun k=>a.length - k) 0 ?_ ?_ ?_
 ·simp
 ·(refine AE hE [] rfl ?_ ?_<;>simp[AU,AO,lk,ren,renL,A9,AL]<;>(try omega))
 intro k ⟨hk,hno⟩
 by_cases hk':k<a.length
 ·have zk:((k:Int)<(a.length:Int))=True:=eq_true (by omega)
  have zk2:((k:Int)<(b.length:Int))=True:=eq_true (by omega);obtain⟨x,hx⟩: ∃x,a[k]?=some x:=⟨a[k],by simp[hk']⟩;obtain⟨y,hy⟩: ∃x,b[k]?=some x:=⟨b[k]'(by omega),by simp⟩;rw[BA hx,BA hy,C7] at hno;cases hh:(x.nm.toList==y.nm.toList&&x.k==y.k)
  ·rw[hh,Bool.false_and] at hno
   rw[←hno];(repeat' (first |refine A0 ?_ |refine A5 ?_ |refine A6 ?_ |((first |refine rR (fun K kp hK hkp=>?_) |refine rD (id:=6) mixed 9 [0,1,2,3,4,5,6,7,8] (fun K kp hK hkp=>?_));simp(implicitDefEqProofs:=false) (maxSteps:=2000000) (disch:=omega) only[go_sem,zk,zk2,hx,hy,eC,hh];(repeat' (refine hK _ ?_;clear hK hkp kp K))) |refine A3 rfl ?_ |refine A8 ?_));(refine A7 (by(simp(implicitDefEqProofs:=false) (maxSteps:=2000000) (disch:=omega) only[go_sem,results35]);rfl) ?_;refine eN hE ?_;simp[AG,ren,renL])
  ·rw[hh,Bool.true_and] at hno
   (repeat' (first |refine A0 ?_ |refine A5 ?_ |refine A6 ?_ |((first |refine rR (fun K kp hK hkp=>?_) |refine rD (id:=6) mixed 9 [0,1,2,3,4,5,6,7,8] (fun K kp hK hkp=>?_));simp(implicitDefEqProofs:=false) (maxSteps:=2000000) (disch:=omega) only[go_sem,zk,zk2,hx,hy,eC,hh];(repeat' (refine hK _ ?_;clear hK hkp kp K))) |refine A3 rfl ?_ |refine A4 rfl ?_))
   ((refine AJ (k+1) ?_ ?_ ?_);rotate_left;(·(try dsimp only);(omega));(·(refine AE hE [] rfl ?_ ?_<;>simp[AU,AO,lk,ren,renL,A9,AL]<;>(try omega))))
   exact⟨by omega,hno⟩
 ·have zk:((k:Int)<(a.length:Int))=False:=eq_false (by omega)
  rw[List.drop_of_length_le (by omega),List.drop_of_length_le (by omega),C7] at hno;rw[←hno];(repeat' (first |refine A0 ?_ |refine AB ?_ |((refine rR (fun K kp hK hkp=>?_));simp(implicitDefEqProofs:=false) (maxSteps:=2000000) (disch:=omega) only[go_sem,zk];(repeat' (refine hK _ ?_;clear hK hkp kp K))) |refine A4 rfl ?_ |refine A8 ?_));(refine A7 (by(simp(implicitDefEqProofs:=false) (maxSteps:=2000000) (disch:=omega) only[go_sem,results35]);rfl) ?_;refine eN hE ?_;simp[AG,ren,renL])
noncomputable def Ci (a b:TB):Bool:=GX a&&(GX b&&((a.nm.toList==b.nm.toList)&&C7 a.cols b.cols))
set_option maxHeartbeats 4000000 in
theorem GD (G:List (Nat×List Value))(a b:TB)(ha:okTB a)(hb:okTB b):Con prog G 39 [.agg (Ac a),.agg (Ac b)] [] 0 (Is (.r (.bool (Ci a b))) [] 0) No:=by
 have ta:=FO G a ha;have tb:=FO G b hb;have hac:=ha.cl;have hbc:=hb.cl;simp only[Ac] at ta tb;rw[Ci];refine AA func39 rfl (by kernel_rfl) (of_decide_eq_true (by kernel_rfl)) ?_;intro E hG hE;subst hG;simp only[B9];cases h1:GX a
 ·rw[h1] at ta
  (repeat' (first |refine A0 ?_ |((first |refine rR (fun K kp hK hkp=>?_) |refine cR ta ?_);simp(implicitDefEqProofs:=false) (maxSteps:=2000000) (disch:=omega) only[go_sem,Ac];(repeat' (refine hK _ ?_;clear hK hkp kp K))) |refine A3 rfl ?_ |refine A8 ?_));(refine A7 (by(simp(implicitDefEqProofs:=false) (maxSteps:=2000000) (disch:=omega) only[go_sem,results39]);rfl) ?_;refine eN hE ?_;simp[AG,ren,renL])
 rw[h1] at ta;cases h2:GX b
 ·rw[h2] at tb
  (repeat' (first |refine A0 ?_ |((first |refine rR (fun K kp hK hkp=>?_) |refine cR ta ?_ |refine cR tb ?_);simp(implicitDefEqProofs:=false) (maxSteps:=2000000) (disch:=omega) only[go_sem,Ac];(repeat' (refine hK _ ?_;clear hK hkp kp K))) |refine A3 rfl ?_ |refine A8 ?_));(refine A7 (by(simp(implicitDefEqProofs:=false) (maxSteps:=2000000) (disch:=omega) only[go_sem,results39]);rfl) ?_;refine eN hE ?_;simp[AG,ren,renL])
 rw[h2] at tb;cases h3:(a.nm.toList==b.nm.toList)
 ·(repeat' (first |refine A0 ?_ |((first |refine rR (fun K kp hK hkp=>?_) |refine cR ta ?_ |refine cR tb ?_);simp(implicitDefEqProofs:=false) (maxSteps:=2000000) (disch:=omega) only[go_sem,Ac,h3];(repeat' (refine hK _ ?_;clear hK hkp kp K))) |refine A3 rfl ?_ |refine A8 ?_))
  (refine A7 (by(simp(implicitDefEqProofs:=false) (maxSteps:=2000000) (disch:=omega) only[go_sem,results39]);rfl) ?_;refine eN hE ?_;simp[AG,ren,renL])
 simp only[Bool.true_and]
 by_cases hab:a.cols.length=b.cols.length
 rotate_left
 ·have z0:((a.cols.length:Int) !=(b.cols.length:Int))=true:=by rw[bne_iff_ne];omega
  have hs:C7 a.cols b.cols=false:=Bool.eq_false_iff.2 fun h=>hab (GY h);rw[hs];(repeat' (first |refine A0 ?_ |((first |refine rR (fun K kp hK hkp=>?_) |refine cR ta ?_ |refine cR tb ?_);simp(implicitDefEqProofs:=false) (maxSteps:=2000000) (disch:=omega) only[go_sem,Ac,h3,z0];(repeat' (refine hK _ ?_;clear hK hkp kp K))) |refine A3 rfl ?_ |refine A8 ?_));(refine A7 (by(simp(implicitDefEqProofs:=false) (maxSteps:=2000000) (disch:=omega) only[go_sem,results39]);rfl) ?_;refine eN hE ?_;simp[AG,ren,renL])
 have z0:((a.cols.length:Int) !=(b.cols.length:Int))=false:=by rw[bne_eq_false_iff_eq];omega
 (repeat' (first |refine A0 ?_ |refine A5 ?_ |refine A6 ?_ |((first |refine rR (fun K kp hK hkp=>?_) |refine cR ta ?_ |refine cR tb ?_);simp(implicitDefEqProofs:=false) (maxSteps:=2000000) (disch:=omega) only[go_sem,Ac,h3,z0];(repeat' (refine hK _ ?_;clear hK hkp kp K))) |refine A4 rfl ?_));refine AH (fun k:Nat=>⟨[(5,.r (.int .i64 k)),(3,.p 1 0 0),(2,.p 0 0 0)],[(0,.box 35 (Ac a)),(1,.box 35 (Ac b))],2⟩) (fun k=>k≤a.cols.length∧C7 (a.cols.drop k) (b.cols.drop k)=C7 a.cols b.cols) (fun k=>a.cols.length - k) 0 ?_ ?_ ?_
 ·simp
 ·(refine AE hE [0,1] rfl ?_ ?_<;>simp[AU,AO,lk,ren,renL,A9,AL,Ac]<;>(try omega))
 intro k ⟨hk,hno⟩
 by_cases hk':k<a.cols.length
 ·have zk:((k:Int)<(a.cols.length:Int))=True:=eq_true (by omega)
  have zk2:((k:Int)<(b.cols.length:Int))=True:=eq_true (by omega);obtain⟨x,hx⟩: ∃x,a.cols[k]?=some x:=⟨a.cols[k],by simp[hk']⟩;obtain⟨y,hy⟩: ∃x,b.cols[k]?=some x:=⟨b.cols[k]'(by omega),by simp⟩;rw[BA hx,BA hy,C7] at hno;cases hh:(x.nm.toList==y.nm.toList&&x.k==y.k)
  ·rw[hh,Bool.false_and] at hno
   rw[←hno];(repeat' (first |refine A0 ?_ |refine A5 ?_ |refine A6 ?_ |((first |refine rR (fun K kp hK hkp=>?_) |refine rD (id:=6) mixed 11 [0,1,2,3,4,5,6,7,8,9,10] (fun K kp hK hkp=>?_));simp(implicitDefEqProofs:=false) (maxSteps:=2000000) (disch:=omega) only[go_sem,zk,zk2,hx,hy,Ac,eC,hh];(repeat' (refine hK _ ?_;clear hK hkp kp K))) |refine A3 rfl ?_ |refine A8 ?_));(refine A7 (by(simp(implicitDefEqProofs:=false) (maxSteps:=2000000) (disch:=omega) only[go_sem,results39]);rfl) ?_;refine eN hE ?_;simp[AG,ren,renL])
  ·rw[hh,Bool.true_and] at hno
   (repeat' (first |refine A0 ?_ |refine A5 ?_ |refine A6 ?_ |((first |refine rR (fun K kp hK hkp=>?_) |refine rD (id:=6) mixed 11 [0,1,2,3,4,5,6,7,8,9,10] (fun K kp hK hkp=>?_));simp(implicitDefEqProofs:=false) (maxSteps:=2000000) (disch:=omega) only[go_sem,zk,zk2,hx,hy,Ac,eC,hh];(repeat' (refine hK _ ?_;clear hK hkp kp K))) |refine A3 rfl ?_ |refine A4 rfl ?_))
   ((refine AJ (k+1) ?_ ?_ ?_);rotate_left;(·(try dsimp only);(omega));(·(refine AE hE [0,1] rfl ?_ ?_<;>simp[AU,AO,lk,ren,renL,A9,AL,Ac]<;>(try omega))))
   exact⟨by omega,hno⟩
 ·have zk:((k:Int)<(a.cols.length:Int))=False:=eq_false (by omega)
  rw[List.drop_of_length_le (by omega),List.drop_of_length_le (by omega),C7] at hno;rw[←hno];(repeat' (first |refine A0 ?_ |refine AB ?_ |((refine rR (fun K kp hK hkp=>?_));simp(implicitDefEqProofs:=false) (maxSteps:=2000000) (disch:=omega) only[go_sem,zk,Ac];(repeat' (refine hK _ ?_;clear hK hkp kp K))) |refine A4 rfl ?_ |refine A8 ?_));(refine A7 (by(simp(implicitDefEqProofs:=false) (maxSteps:=2000000) (disch:=omega) only[go_sem,results39]);rfl) ?_;refine eN hE ?_;simp[AG,ren,renL])
def Dq (rows:List (List V))(i:Nat):List V:=rows.getD i []
theorem Oe (G:List (Nat×List Value))(b:TB)(i:Nat)(hi:i≤1048576)(hrl:b.rows.length≤1048576):Con prog G 40 [.agg (Ac b),.r (.int .i64 i)] [] 0 (Is (.ro true 3 ((Dq b.rows i).map eV)) [] 0) No:=by
 by_cases h:i<b.rows.length
 ·have zi:((i:Int)<(b.rows.length:Int))=True:=eq_true (by omega)
  obtain⟨x,hx⟩: ∃x,b.rows[i]?=some x:=⟨_,List.getElem?_eq_getElem h⟩
  have hs:Dq b.rows i=x:=by rw[Dq,List.getD_eq_getElem?_getD,hx];rfl
  rw[hs];refine AA func40 rfl (by kernel_rfl) (of_decide_eq_true (by kernel_rfl)) ?_;intro E hG hE;subst hG;simp only[B9];(repeat' (first |refine A0 ?_ |((refine rR (fun K kp hK hkp=>?_));simp(implicitDefEqProofs:=false) (maxSteps:=2000000) (disch:=omega) only[go_sem,zi,hx,Ac,Cu];(repeat' (refine hK _ ?_;clear hK hkp kp K))) |refine A3 rfl ?_ |refine A8 ?_));(refine A7 (by(simp(implicitDefEqProofs:=false) (maxSteps:=2000000) (disch:=omega) only[go_sem,results40]);rfl) ?_;refine eN hE ?_;simp[AG,ren,renL])
 ·have zi:((i:Int)<(b.rows.length:Int))=False:=eq_false (by omega)
  have hs:Dq b.rows i=[]:=by rw[Dq,List.getD_eq_getElem?_getD,List.getElem?_eq_none (by omega)];rfl
  rw[hs];refine Con.res (y:= .r (.slice none 0 0)) ?_ (fun w z th v hr=>SG _ _ hr);refine AA func40 rfl (by kernel_rfl) (of_decide_eq_true (by kernel_rfl)) ?_;intro E hG hE;subst hG;simp only[B9];(repeat' (first |refine A0 ?_ |refine A6 ?_ |((refine rR (fun K kp hK hkp=>?_));simp(implicitDefEqProofs:=false) (maxSteps:=2000000) (disch:=omega) only[go_sem,zi,Ac];(repeat' (refine hK _ ?_;clear hK hkp kp K))) |refine A4 rfl ?_ |refine A8 ?_));(refine A7 (by(simp(implicitDefEqProofs:=false) (maxSteps:=2000000) (disch:=omega) only[go_sem,results40]);rfl) ?_;refine eN hE ?_;simp[AG,ren,renL])
theorem Hy {t:TB}(h:GX t=true):t.rows.length≤40:=by
 unfold GX at h;simp only[Bool.and_eq_true,decide_eq_true_eq] at h;exact h.2.2.1
end Go.AM
namespace Go.AM
open Go Go.RowKit
open Go.Proofs.YtekljlenlbhmcaaGreatDoor (AZ)
attribute [local irreducible] AWP Aw
theorem Ju: ∀l:List V,DJ l l=true
 | []=>rfl
 |x::r=>by rw[DJ,Ju r];simp[LY]
theorem JE (G:List (Nat×List Value))(t u:Bool)(a b:List V)(ha:a.length≤1048576)(hb:b.length≤1048576):Con prog G 44 [.ro t 3 (a.map eV),.ro u 3 (b.map eV)] [] 0 (Is (.r (.bool (DJ a b))) [] 0) No:=by
 refine AA func44 rfl (by kernel_rfl) (of_decide_eq_true (by kernel_rfl)) ?_;intro E hG hE;subst hG;simp only[B9];(repeat' (first |refine A0 ?_ |refine A5 ?_ |refine A6 ?_ |((refine rR (fun K kp hK hkp=>?_));simp(implicitDefEqProofs:=false) (maxSteps:=2000000) (disch:=omega) only[go_sem];(repeat' (refine hK _ ?_;clear hK hkp kp K))) |((refine AD rfl (fun h=>?_) (fun h=>?_)<;>try simp only[BQ] at h)<;>(try (exfalso;omega))) |refine A8 ?_))
 ·(refine A7 (by(simp(implicitDefEqProofs:=false) (maxSteps:=2000000) (disch:=omega) only[go_sem,results44]);rfl) ?_;refine eN hE ?_;simp[AG,ren,renL])
  cases hs:DJ a b
  ·rfl
  ·exact(h (by rw[Jt hs])).elim
 have hab:a.length=b.length:=by omega
 refine AH (fun k:Nat=>⟨[(5,.r (.int .i64 k)),(0,.ro t 3 (a.map eV)),(1,.ro u 3 (b.map eV))],[],0⟩) (fun k=>k≤a.length∧DJ (a.drop k) (b.drop k)=DJ a b) (fun k=>a.length - k) 0 ?_ ?_ ?_
 ·simp
 ·(refine AE hE [] rfl ?_ ?_<;>simp[AU,AO,lk,ren,renL,A9,AL]<;>(try omega))
 intro k ⟨hk,hno⟩
 by_cases hk':k<a.length
 ·obtain⟨x,hx⟩: ∃x,a[k]?=some x:=⟨a[k],by simp[hk']⟩
  obtain⟨y,hy⟩: ∃x,b[k]?=some x:=⟨b[k]'(by omega),by simp⟩;rw[BA hx,BA hy,DJ] at hno;(repeat' (first |refine A0 ?_ |refine A5 ?_ |refine A6 ?_ |((first |refine rR (fun K kp hK hkp=>?_) |refine rD (id:=6) mixed 9 [0,1,2,3,4,5,6,7,8] (fun K kp hK hkp=>?_));simp(implicitDefEqProofs:=false) (maxSteps:=2000000) (disch:=omega) only[go_sem,hx,hy,eV];(repeat' (refine hK _ ?_;clear hK hkp kp K))) |((refine AD rfl (fun h=>?_) (fun h=>?_)<;>try simp only[BQ] at h)<;>(try (exfalso;omega))) |refine A8 ?_))
  ·(refine A7 (by(simp(implicitDefEqProofs:=false) (maxSteps:=2000000) (disch:=omega) only[go_sem,results44]);rfl) ?_;refine eN hE ?_;simp[AG,ren,renL])
   rw[←hno];have h:LY x y=false:=Bool.eq_false_iff.2 (fun hh=>by rw[LY] at hh;rw[hh] at h;cases h);rw[h];rfl
  ·((refine AJ (k+1) ?_ ?_ ?_);rotate_left;(·(try dsimp only);(omega));(·(refine AE hE [] rfl ?_ ?_<;>simp[AU,AO,lk,ren,renL,A9,AL]<;>(try omega))))
   have h:LY x y=true:=by
    rw[LY];cases hh:(x.k==y.k&&(x.n==y.n&&x.s.toList==y.s.toList))
    ·rw[hh] at h;cases h
    ·rfl
   rw[h] at hno;exact⟨by omega,by simpa using hno⟩
 ·(repeat' (first |refine A0 ?_ |refine AB ?_ |((refine rR (fun K kp hK hkp=>?_));simp(implicitDefEqProofs:=false) (maxSteps:=2000000) (disch:=omega) only[go_sem];(repeat' (refine hK _ ?_;clear hK hkp kp K))) |((refine AD rfl (fun h=>?_) (fun h=>?_)<;>try simp only[BQ] at h)<;>(try (exfalso;omega))) |refine A8 ?_))
  (refine A7 (by(simp(implicitDefEqProofs:=false) (maxSteps:=2000000) (disch:=omega) only[go_sem,results44]);rfl) ?_;refine eN hE ?_;simp[AG,ren,renL]);rw[←hno,List.drop_of_length_le (by omega),List.drop_of_length_le (by omega)];rfl
theorem Xz:UX []=some []:=rfl
end Go.AM
namespace Go.AM
open Go Go.RowKit
open Go.Proofs.YtekljlenlbhmcaaGreatDoor (AY AZ)
attribute [local irreducible] AWP Aw
structure TabOK (t:TB):Prop where
 nm:AY t.nm=0
 cl:Am t.cols=0
 rl:t.rows.length≤40
 ck:E9 t.ps t.root=0
 rs:DQ (BO t.ps t.root) t.cols 0 t.rows=true
 mn:Be t.rows=(BO t.ps t.root).length
theorem Rl {t:TB}(h:GX t=true):TabOK t:=by
 unfold GX at h;simp only[Bool.and_eq_true,decide_eq_true_eq] at h;obtain⟨h1,h2,h3,h4,h5,h6⟩:=h;exact⟨h1,h2,h3,h4,h5,h6⟩
theorem PQ (G:List (Nat×List Value))(t:Bool)(x:V)(l:List V)(hl:l.length≤1048576):Con prog G 42 [.ro t 3 ((x::l).map eV)] [] 0 (Is (.ro true 3 ((x::l).map eV)) [] 0) No:=by
 refine AA func42 rfl (by kernel_rfl) (of_decide_eq_true (by kernel_rfl)) ?_;intro E hG hE;subst hG;simp only[B9];(repeat' (first |refine A0 ?_ |refine A6 ?_ |((refine rR (fun K kp hK hkp=>?_));simp(implicitDefEqProofs:=false) (maxSteps:=2000000) (disch:=omega) only[go_sem];(repeat' (first |(refine hK _ ?_;clear hK hkp kp K) |(with_reducible refine And.intro ?_ ?_) |omega))) |refine A4 rfl ?_ |refine A8 ?_));(refine A7 (by(simp(implicitDefEqProofs:=false) (maxSteps:=2000000) (disch:=omega) only[go_sem,results42]);rfl) ?_;refine Ar (by simp only[AG];simp(implicitDefEqProofs:=false) (maxSteps:=2000000) (disch:=omega) only[go_sem];rfl) ?_;refine(Al hE (by simp) ?_).s;simp[AG,ren,renL])
def Wz (t:TB)(en:List Et)(j:Nat):List (List V):=(en.take j).map fun e=>t.rows.getD e.2.toNat []
theorem VH (t:TB)(en:List Et):Wz t en 0=[]:=rfl
set_option maxHeartbeats 4000000 in
theorem MH (G:List (Nat×List Value))(l:List (List V))(hl:l.length≤1048576)(hr: ∀r ∈ l,r.length≤1048576):Con prog G 18 [.ro true 1 (l.map Cu),.ro true 1 (l.map Cu)] [] 0 (Is (.r (.bool true)) [] 0) No:=by
 have zl:((l.length:Int) !=(l.length:Int))=false:=by simp
 refine AA func18 rfl (by kernel_rfl) (of_decide_eq_true (by kernel_rfl)) ?_;intro E hG hE;subst hG;simp only[B9];(repeat' (first |refine A0 ?_ |refine A5 ?_ |refine A6 ?_ |((refine rR (fun K kp hK hkp=>?_));simp(implicitDefEqProofs:=false) (maxSteps:=2000000) (disch:=omega) only[go_sem,zl];(repeat' (refine hK _ ?_;clear hK hkp kp K))) |refine A4 rfl ?_));refine AH (fun k:Nat=>⟨[(5,.r (.int .i64 k)),(0,.ro true 1 (l.map Cu)),(1,.ro true 1 (l.map Cu))],[],0⟩) (fun k=>k≤l.length) (fun k=>l.length - k) 0 ?_ ?_ ?_
 ·exact Nat.zero_le _
 ·(refine AE hE [] rfl ?_ ?_<;>simp[AU,AO,lk,ren,renL,A9,AL]<;>(try omega))
 intro k hk
 by_cases hk':k<l.length
 ·have zk:((k:Int)<(l.length:Int))=True:=eq_true (by omega)
  obtain⟨x,hx⟩: ∃x,l[k]?=some x:=⟨l[k],by simp[hk']⟩;have hxl:=hr x (List.mem_of_getElem? hx);have sc:=JE E.G true true x x hxl hxl;rw[Ju] at sc;(repeat' (first |refine A0 ?_ |refine A5 ?_ |refine A6 ?_ |((first |refine rR (fun K kp hK hkp=>?_) |refine rD (id:=6) mixed 10 [0,1,2,3,4,5,6,7,8,9] (fun K kp hK hkp=>?_) |refine cD sc ?_);simp(implicitDefEqProofs:=false) (maxSteps:=2000000) (disch:=omega) only[go_sem,zk,hx,Cu];(repeat' (refine hK _ ?_;clear hK hkp kp K))) |refine A3 rfl ?_ |refine A4 rfl ?_))
  ((refine AJ (k+1) ?_ ?_ ?_);rotate_left;(·(try dsimp only);(omega));(·(refine AE hE [] rfl ?_ ?_<;>simp[AU,AO,lk,ren,renL,A9,AL]<;>(try omega))))
  omega
 ·have zk:((k:Int)<(l.length:Int))=False:=eq_false (by omega)
  (repeat' (first |refine A0 ?_ |refine AB ?_ |((refine rR (fun K kp hK hkp=>?_));simp(implicitDefEqProofs:=false) (maxSteps:=2000000) (disch:=omega) only[go_sem,zk];(repeat' (refine hK _ ?_;clear hK hkp kp K))) |refine A4 rfl ?_ |refine A8 ?_));(refine A7 (by(simp(implicitDefEqProofs:=false) (maxSteps:=2000000) (disch:=omega) only[go_sem,results18]);rfl) ?_;refine eN hE ?_;simp[AG,ren,renL])
end Go.AM
namespace Go.AM
open Go Go.RowKit
theorem J2 {P:Program}{f:Nat}{G:List (Nat×List Value)}{xs:List AV}{T:TypeId}{k:Nat}{els:List (List AV)}{fl:List Value}(hok:K9 P f=true)
  (hel: ∀(i:Nat) e,els[i]?=some e→e.length=k∧ ∀(j:Nat) x,e[j]?=some x→ ∃u,x= .r u∧fl[i * k+j]?=some u∧u.oneCell'=true)
  (h: ∀(w:World)(z:AT)(vs:List Value),(∀t b,z t b→b<w.heap.size)→Reps w z [] xs vs→M8 G w→Calls P f vs.toArray w (fun e w'=>(∃v,e= .returned v∧w'.ownsRow w.heap.size T k v els.length fl)∧Below w.heap.size w w')):
  Con P G f xs [] 0 (Is (.s 0 0 els.length) [(0,.lst T k els)] 1) No:=by
 refine⟨hok,fun w th z own vs ho hm hr=>?_⟩;have hth:th=[]:=List.length_eq_zero_iff.1 hm.len;subst hth;refine(h w z vs hm.zlt hr (fun g cs hg=>⟨hm.zlt _ _ (hm.globs g cs hg).1,(hm.globs g cs hg).2⟩)).mono ?_;rintro e w' ⟨⟨v,rfl,row⟩,hb⟩
 have mk: ∀L:NLoc,NdAt w' z [L] L (.lst T k els)→(L.ph=false→L.b<w'.heap.size∧w.heap.size≤L.b)→Mem ⟨w,own,z,G,[],[]⟩ [(0,.lst T k els)] 1 [L] z w':=by
  intro L hn hL;refine⟨rfl,fun i nd hi=>?_,fun i j x y A B hi hj _ _ _ _ _=>?_,fun t b hz=>Nat.lt_of_lt_of_le (hm.zlt t b hz) hb.size,hb.size,fun b hlt _=>hb.block b hlt,fun t b h=>h,fun b h=> .inl h,fun b h=>h,?_,fun i L hi=>by simp at hi,⟨hb.os,hb.tape,hb.output⟩,FN rfl⟩
  ·simp only[lk] at hi
   split at hi
   ·rename_i q;subst q;cases hi
    exact⟨L,rfl,hn,fun hp=>⟨(hL hp).1,fun t hz=>by have:=hm.zlt t L.b hz;have h2:=(hL hp).2;exact absurd this (by omega),.inr (hL hp).2⟩⟩
   ·cases hi
  ·simp only[lk] at hi hj
   split at hi
   ·split at hj
    ·omega
    ·cases hj
   ·cases hi
  ·intro g cs hg
   obtain⟨h1,h2⟩:=hm.globs g cs hg;exact⟨h1,fun j u hu=>(B7 (hb.block g (hm.zlt _ _ h1)) j).trans (h2 j u hu)⟩
 rcases row.2 with ⟨rfl,h0⟩ |⟨g,cap,cur,rfl,hB,hh,hn',hc,hs,ht⟩
 ·have he:els=[]:=List.length_eq_zero_iff.1 h0
  subst he;exact⟨_,.s 0 0 0,_,1,[⟨0,0,0,0,true⟩],z,.inl ⟨rfl,rfl,rfl,rfl⟩,mk _ (.inl ⟨rfl,rfl⟩) (fun hp=>by cases hp),.sn _ 0 0 _ rfl rfl⟩
 ·have hg:g<w'.heap.size:=(Array.getElem?_eq_some_iff.1 hh).1
  refine⟨_,.s 0 0 els.length,_,1,[⟨g,0,k,cap,false⟩],z,.inl ⟨rfl,rfl,rfl,rfl⟩,mk _ (.inr ⟨rfl,cur,(0,0),hh,fun i hi h=>by simp only at h;omega,rfl,by simp[hs],hn',fun i e he=>?_⟩) (fun _=>⟨hg,hB⟩),.s _ 0 0 _ cap 0 ⟨g,0,k,cap,false⟩ rfl rfl hn' (by simp) (fun _=>by simp)⟩;obtain⟨q1,q2⟩:=hel i e he;refine⟨q1,fun j x hj=>?_⟩;obtain⟨u,rfl,q3,q4⟩:=q2 j x hj;refine⟨u,?_,.r _ _,q4⟩
  have hjk:j<k:=by rw[←q1];exact(List.getElem?_eq_some_iff.1 hj).1
  have hi:i<els.length:=(List.getElem?_eq_some_iff.1 he).1
  have hlt:i * k+j<els.length * k:=by
   have:(i+1) * k≤els.length * k:=Nat.mul_le_mul_right _ hi;rw[Nat.add_mul] at this;omega
  rw[←ht,List.getElem?_take_of_lt hlt,Array.getElem?_toList] at q3;simpa using q3
end Go.AM
namespace Go.AM
open Go Go.RowKit
attribute [local irreducible] AWP Aw
set_option maxHeartbeats 2000000 in
theorem PV (w:World)(a:Option Addr)(c:Nat):Calls prog 104 #[.slice a 0 c] w fun e w'=>(∃a' c',e= .returned (.slice a' 0 c'))∧Below w.heap.size w w':=by
 have hq: ∀w,(binOp .eql 81 (.slice a 0 c) (.slice none 0 0)).run prog w= .ok (.bool a.isNone) w:=fun w=>Lib.run_eql_slice_nil w 81 5 a 0 c 0 0 underlying81
 go_enter func104,ntmps104
 cases a with
 |none=>
  go_wp2
  go_ret
  exact⟨⟨_,_,rfl⟩,Below.refl _ _⟩
 |some p=>
  go_wp2
  go_ret
  exact⟨⟨_,_,rfl⟩,(Below.refl _ w).alloc (Nat.le_refl _) _⟩
theorem Ek {w:World}{z:AT}{t:Bool}{k:Nat}{v:Value}(h:Rep w z [] (.ro t k []) v): ∃a c,v= .slice a 0 c:=by
 cases h with
 |nil _ _ _ a c=>exact⟨a,c,rfl⟩
 |ro _ _ _ _ b o c=>exact⟨_,c,rfl⟩
theorem O9 (G:List (Nat×List Value))(t:Bool):Con prog G 104 [.ro t 1 []] [] 0 (Is (.ro true 1 []) [] 0) No:=by
 refine⟨by kernel_rfl,fun w th z own vs ho hm hr=>?_⟩;have hth:th=[]:=List.length_eq_zero_iff.1 hm.len;subst hth;obtain⟨v,r,rfl,h1,h2⟩:=hr.head;obtain rfl:=h2.of_nil;obtain⟨a,c,rfl⟩:=Ek h1;refine(PV w a c).mono ?_;rintro e w' ⟨⟨a',c',rfl⟩,hb⟩;refine⟨_,.ro true 1 [],[],0,[],z,.inl ⟨rfl,rfl,rfl,rfl⟩,hm.ext ⟨hb.size,fun b hlt=>hb.block b hlt,⟨hb.os,hb.tape,hb.output⟩⟩,.nil _ _ _ _ _⟩
theorem D8 (G:List (Nat×List Value))(t:Bool)(l:Ky)(hl:l.length≤1048576):Con prog G 104 [.ro t 1 (l.map AC)] [] 0 (Is (.ro true 1 (l.map AC)) [] 0) No:=by
 cases l with
 |nil=>exact O9 G t
 |cons x r=>exact Ks G t x r (by simp only[List.length_cons] at hl;omega)
set_option maxHeartbeats 2000000 in
theorem PR (w:World)(a:Option Addr)(c:Nat):Calls prog 147 #[.slice a 0 c] w fun e w'=>(∃v,e= .returned v∧w'.ownsRow w.heap.size 3 1 v 0 [])∧Below w.heap.size w w':=by
 have hq: ∀w,(binOp .eql 36 (.slice a 0 c) (.slice none 0 0)).run prog w= .ok (.bool a.isNone) w:=fun w=>Lib.run_eql_slice_nil w 36 3 a 0 c 0 0 underlying36
 go_enter func147,ntmps147
 cases a with
 |none=>
  go_wp2
  go_ret
  exact⟨⟨.slice none 0 0,rfl,World.ownsRow_nil _ _ _ _⟩,Below.refl _ _⟩
 |some p=>
  go_wp2
  go_ret
  exact⟨⟨.slice (some ⟨w.heap.size,0,none⟩) 0 0,rfl,rfl,.inr ⟨w.heap.size,0,#[],rfl,Nat.le_refl _,World.alloc_heap_new w _,Nat.le_refl _,Nat.zero_le _,rfl,rfl⟩⟩,(Below.refl _ w).alloc (Nat.le_refl _) _⟩
theorem O8 (G:List (Nat×List Value))(t:Bool)(x:Int)(l:List Int)(hl:l.length≤1048576):Con prog G 147 [.ro t 1 ((x::l).map eI)] [] 0 (Is (.s 0 0 (x::l).length) [(0,.lst 3 1 ((x::l).map eI))] 1) No:=by
 refine AA func147 rfl (by kernel_rfl) (of_decide_eq_true (by kernel_rfl)) ?_;intro E hG hE;subst hG;simp only[B9];(repeat' (first |refine A0 ?_ |refine A6 ?_ |((refine rR (fun K kp hK hkp=>?_));simp(implicitDefEqProofs:=false) (maxSteps:=2000000) (disch:=omega) only[go_sem];(repeat' (first |(refine hK _ ?_;clear hK hkp kp K) |(with_reducible refine And.intro ?_ ?_) |omega))) |refine A4 rfl ?_ |refine A8 ?_));(refine A7 (by(simp(implicitDefEqProofs:=false) (maxSteps:=2000000) (disch:=omega) only[go_sem,results147]);rfl) ?_;refine(Cx hE [1] rfl ?_ ?_).s<;>simp[AG,AO,lk,ren,renL,A9,AL])
theorem F7 (G:List (Nat×List Value))(t:Bool)(l:List Int)(hl:l.length≤1048576):Con prog G 147 [.ro t 1 (l.map eI)] [] 0 (Is (.s 0 0 l.length) [(0,.lst 3 1 (l.map eI))] 1) No:=by
 cases l with
 |cons x r=>exact O8 G t x r (by simp only[List.length_cons] at hl;omega)
 |nil=>
  exact J2 (P:=prog) (T:=3) (k:=1) (els:=[]) (fl:=[]) (by kernel_rfl) (fun i e h=>by simp at h) (fun w z vs hz hr hG=>by
   obtain⟨v,r,rfl,h1,h2⟩:=hr.head;obtain rfl:=h2.of_nil;obtain⟨a,c,rfl⟩:=Ek h1
   exact PR w a c)
theorem RK (G:List (Nat×List Value))(t:Bool)(l:List Int)(hl:l.length≤1048576):Con prog G 147 [.ro t 1 (l.map eI)] [] 0 (Is (.s 0 0 l.length) [(0,.ul 3 1 (l.map eI) [])] 1) No:=
 (F7 G t l hl).emb fun E hE=>by
  refine Emb.trans (BY 0 rfl) ?_;simp only[Ad];(refine AE hE [0] rfl ?_ ?_<;>simp[AU,AO,lk,ren,renL,A9,AL,AK]<;>(try omega))
end Go.AM
namespace Go.AM
open Go Go.RowKit
attribute [local irreducible] AWP Aw
def uP (p:PG):List AV:=[.r (.bool p.leaf),.u 81 1 (p.keys.map Aj),.u 3 1 (p.kids.map eI),.ro true 1 (p.high.map AC),.r (.int .i64 p.next)]
@[simp] theorem VN (a:PG):(∀x,x ∈ uP a→PT x)=True:=eq_true (by
  intro x hx;simp[uP] at hx
  rcases hx with rfl |rfl |rfl |rfl |rfl
  ·simp
  ·exact .u _ _ _ (Dv _ _)
  ·exact .u _ _ _ (Dv _ _)
  ·simp
  ·simp)
instance:PTf uP:=⟨fun a=>of_eq_true (VN a)⟩
theorem IY {α:Type}{a:List α}{i:Nat}(x:α)(h:a.length=i):(a++[x])[i]?=some x:=by subst h;simp
theorem B3 {α:Type}{a:List α}{i:Nat}(x y:α)(h:a.length=i):(a++[x]).set i y=a++[y]:=by
 subst h;rw[List.set_append_right _ _ (Nat.le_refl _)];simp
set_option maxHeartbeats 8000000 in
theorem SD (G:List (Nat×List Value))(t:Bool)(ps:List PG)(root:Int)(ho:BG ps):Con prog G 102 [.agg [.ro t 5 (ps.map eP),.r (.int .i64 root)]] [] 0 (Is (.agg [.s 0 0 ps.length,.r (.int .i64 root)]) [(0,.ul 131 5 (ps.map uP) [])] 1) No:=by
 have hn:=ho.1;refine AA func102 rfl (by kernel_rfl) (of_decide_eq_true (by kernel_rfl)) ?_;intro E hG hE;subst hG;simp only[B9];(repeat' (first |refine A0 ?_ |refine A5 ?_ |((refine rR (fun K kp hK hkp=>?_));simp(implicitDefEqProofs:=false) (maxSteps:=2000000) (disch:=omega) only[go_sem,eP];(repeat' (refine hK _ ?_;clear hK hkp kp K)))));(refine AWP.emb (BD 2 0 131 5 rfl rfl (by simp)) ?_;simp only[List.set_cons_zero,List.set_cons_succ,lk,↓reduceIte,Nat.reduceAdd]);(refine AWP.emb (BY (T:=?z1T) (k:=?z1k) (els:=?z1e) 3 ?z1h) ?z1g;(case z1h=>rfl);simp only[Ad]);refine AH (fun i:Nat=>⟨[(15,.r (.int .i64 i)),(14,.r (.int .i64 ps.length)),(13,.ro t 5 (ps.map eP)),(3,.p 2 0 0),(2,.p 1 0 0)],[(0,.box 33 [.ro t 5 (ps.map eP),.r (.int .i64 root)]),(1,.box 33 [.r (.slice none 0 0),.r (.int .i64 0)]),(2,.box 33 [.s 3 0 i,.r (.int .i64 root)]),(3,.ul 131 5 ((ps.take i).map uP) [])],4⟩) (fun i=>i≤ps.length) (fun i=>ps.length - i) 0 ?_ ?_ ?_
 ·exact Nat.zero_le _
 ·(refine AE hE [0,1,2,3] rfl ?_ ?_<;>simp[AU,AO,lk,ren,renL,A9,AL,AK]<;>(try omega))
 intro i hi
 by_cases hlt:i<ps.length
 ·have zi:((i:Int)<(ps.length:Int))=True:=eq_true (by omega)
  obtain⟨p,hp⟩: ∃p,ps[i]?=some p:=⟨ps[i],by simp[hlt]⟩;obtain⟨h1,h2,h3,h4⟩:=ho.2 p (List.mem_of_getElem? hp);have bc:=D8 E.G true p.high h3;have ic:=RK E.G true p.kids h2;(repeat' (first |refine A0 ?_ |refine A5 ?_ |refine A6 ?_ |((refine rR (fun K kp hK hkp=>?_));simp(implicitDefEqProofs:=false) (maxSteps:=2000000) (disch:=omega) only[go_sem,zi,hp,eP];(repeat' (refine hK _ ?_;clear hK hkp kp K))) |refine A3 rfl ?_));(refine AWP.emb (C0 6 81 1 ?_) ?_;(·rfl);dsimp only);refine AH (fun k:Nat=>⟨[(22,.r (.int .i64 k)),(21,.r (.int .i64 p.keys.length)),(20,.ro true 1 (p.keys.map Aj)),(6,.s 5 0 k),(5,.p 4 0 0),(15,.r (.int .i64 i)),(14,.r (.int .i64 ps.length)),(13,.ro t 5 (ps.map eP)),(3,.p 2 0 0),(2,.p 1 0 0)],[(0,.box 33 [.ro t 5 (ps.map eP),.r (.int .i64 root)]),(1,.box 33 [.r (.slice none 0 0),.r (.int .i64 0)]),(2,.box 33 [.s 3 0 i,.r (.int .i64 root)]),(3,.ul 131 5 ((ps.take i).map uP) []),(4,.box 131 (eP p)),(5,.lst 81 1 ((p.keys.take k).map Aj))],6⟩) (fun k=>k≤p.keys.length) (fun k=>p.keys.length - k) 0 ?_ ?_ ?_
  ·exact Nat.zero_le _
  ·(refine AE hE [0,1,2,3,4,5] rfl ?_ ?_<;>simp[AU,AO,lk,ren,renL,A9,AL,eP,AK]<;>(try omega))
  intro k hk
  by_cases hkl:k<p.keys.length
  ·have zk:((k:Int)<(p.keys.length:Int))=True:=eq_true (by omega)
   obtain⟨x,hx⟩: ∃x,p.keys[k]?=some x:=⟨p.keys[k],by simp[hkl]⟩;have xc:=D8 E.G true x (h4 x (List.mem_of_getElem? hx))
   have htk:p.keys.take (k+1)=p.keys.take k++[x]:=by rw[List.take_add_one,hx];rfl
   have hl:(p.keys.take k).length=k:=by rw[List.length_take];omega
   (repeat' (first |refine A0 ?_ |refine A5 ?_ |refine A6 ?_ |((first |refine rR (fun K kp hK hkp=>?_) |refine cR xc ?_);simp(implicitDefEqProofs:=false) (maxSteps:=2000000) (disch:=omega) only[go_sem,zk,hx,eP,Aj,hl];(repeat' (first |(refine hK _ ?_;clear hK hkp kp K) |(with_reducible refine And.intro ?_ ?_) |omega))) |refine A3 rfl ?_))
   ((refine AJ (k+1) ?_ ?_ ?_);rotate_left;(·(try dsimp only);(omega));(·(refine AE hE [0,1,2,3,4,7] rfl ?_ ?_<;>simp[AU,AO,lk,ren,renL,A9,AL,htk,Aj,eP,AK,List.take_take,Nat.min_self]<;>(try omega))))
   omega
  ·obtain rfl:k=p.keys.length:=by omega
   rw[List.take_length]
   have hl:(ps.take i).length=i:=by rw[List.length_take];omega
   have ht:ps.take (i+1)=ps.take i++[p]:=by rw[List.take_add_one,hp];rfl
   have zk:((p.keys.length:Int)<(p.keys.length:Int))=False:=eq_false (by omega);refine A0 ?_;(refine rR (fun K kp hK hkp=>?_);simp(implicitDefEqProofs:=false) (maxSteps:=2000000) (disch:=omega) only[go_sem,zk];(repeat' (refine hK _ ?_;clear hK hkp kp K)));refine A0 ?_;refine A4 rfl ?_;refine AB ?_;(refine AWP.emb (BY (T:=?z2T) (k:=?z2k) (els:=?z2e) 5 ?z2h) ?z2g;(case z2h=>rfl);simp only[Ad]);(repeat' ((first |refine rR (fun K kp hK hkp=>?_) |refine rD (id:=11) mixed 15 [0,1,2,3,4,5,6,8,9,11,12,7,10,13,14] (fun K kp hK hkp=>?_) |refine cD ic ?_ |refine cD bc ?_);simp(implicitDefEqProofs:=false) (maxSteps:=2000000) (disch:=omega) only[go_sem,eP,hl,ne_eq,reduceCtorEq,not_false_eq_true,Option.some.injEq,Nat.reduceEqDiff];(repeat' (first |(refine hK _ ?_;clear hK hkp kp K) |(with_reducible refine And.intro ?_ ?_) |omega))))
   have hll:((ps.take i).map uP).length=i:=by rw[List.length_map,hl]
   have hs3:((ps.take i).map uP++[uP p])=(ps.take (i+1)).map uP:=by rw[ht,List.map_append];rfl
   refine AJ (i+1) ?_ ?_ ?_
   ·show i+1≤ps.length
    omega
   ·show ps.length - (i+1)<ps.length - i
    omega
   have htk1:(p.keys.map Aj).take p.keys.length=p.keys.map Aj:=List.take_of_length_le (by simp);have htk2:(p.kids.map eI).take p.kids.length=p.kids.map eI:=List.take_of_length_le (by simp);(refine Emb.trans (Ay (T:=?z3T) (k:=?z3k) (els:=?z3e) (T':=?z3T1) (k':=?z3k1) (els':=?z3e1) (op:=?z3op) (e:=?z3ee) (m:=?z3m) (lo:=?z3lo) (len:=?z3len) 8 i 1 ?z3h ?z3ho ?z3hm ?z3hn ?z3hl ?z3he ?z3hj) ?z3g;(case z3h=>rfl);(case z3he=>exact IY _ hll);(case z3ho=>(simp only[CN,and_self,if_true,↓reduceIte,List.length_map,htk1,B3 _ _ hll,true_and,Nat.reduceLeDiff,Nat.reduceAdd,Nat.lt_irrefl,and_false];rfl));(case z3hm=>rfl);(case z3hn=>simp);(case z3hl=>simp[List.length_map,htk1,B3 _ _ hll,true_and,Nat.reduceLeDiff,Nat.reduceAdd,Nat.lt_irrefl,and_false]);(case z3hj=>simp[List.length_map,htk1,B3 _ _ hll,true_and,Nat.reduceLeDiff,Nat.reduceAdd,Nat.lt_irrefl,and_false]);simp only[rm,Gu,and_self,Nat.le_refl,Nat.zero_add,Nat.lt_add_one,Nat.reduceLT,Nat.reduceEqDiff,↓reduceIte,if_true,List.drop_zero,List.set_cons_zero,List.set_cons_succ,List.length_map,htk1,B3 _ _ hll,true_and,Nat.reduceLeDiff,Nat.reduceAdd,Nat.lt_irrefl,and_false]);(refine Emb.trans (Ay (T:=?z4T) (k:=?z4k) (els:=?z4e) (T':=?z4T1) (k':=?z4k1) (els':=?z4e1) (op:=?z4op) (e:=?z4ee) (m:=?z4m) (lo:=?z4lo) (len:=?z4len) 8 i 2 ?z4h ?z4ho ?z4hm ?z4hn ?z4hl ?z4he ?z4hj) ?z4g;(case z4h=>rfl);(case z4he=>exact IY _ hll);(case z4ho=>(simp only[CN,and_self,if_true,↓reduceIte,List.length_map,htk2,B3 _ _ hll,true_and,Nat.reduceLeDiff,Nat.reduceAdd,Nat.lt_irrefl,and_false];rfl));(case z4hm=>rfl);(case z4hn=>simp);(case z4hl=>simp[List.length_map,htk2,B3 _ _ hll,true_and,Nat.reduceLeDiff,Nat.reduceAdd,Nat.lt_irrefl,and_false]);(case z4hj=>simp[List.length_map,htk2,B3 _ _ hll,true_and,Nat.reduceLeDiff,Nat.reduceAdd,Nat.lt_irrefl,and_false]);simp only[rm,Gu,and_self,Nat.le_refl,Nat.zero_add,Nat.lt_add_one,Nat.reduceLT,Nat.reduceEqDiff,↓reduceIte,if_true,List.drop_zero,List.set_cons_zero,List.set_cons_succ,List.length_map,htk2,B3 _ _ hll,true_and,Nat.reduceLeDiff,Nat.reduceAdd,Nat.lt_irrefl,and_false]);change Emb _ _ ⟨_,(8,.ul _ _ (_++[uP p]) _)::_,_⟩ _;rw[hs3];(refine AE hE [0,1,2,8] rfl ?_ ?_<;>simp[AU,AO,lk,ren,renL,A9,AL,AK]<;>(try omega))
 ·obtain rfl:i=ps.length:=by omega
  rw[List.take_length];(repeat' (first |refine A0 ?_ |refine AB ?_ |((refine rR (fun K kp hK hkp=>?_));simp(implicitDefEqProofs:=false) (maxSteps:=2000000) (disch:=omega) only[go_sem];(repeat' (refine hK _ ?_;clear hK hkp kp K))) |((refine AD rfl (fun h=>?_) (fun h=>?_)<;>try simp only[BQ] at h)<;>(try (exfalso;omega))) |refine A8 ?_));(refine A7 (by(simp(implicitDefEqProofs:=false) (maxSteps:=2000000) (disch:=omega) only[go_sem,results102,AK]);rfl) ?_;refine(Cx hE [3] rfl ?_ ?_).s<;>simp[AG,AO,lk,ren,renL,A9,AL,AK])
end Go.AM
namespace Go.AM
open Go Go.RowKit
attribute [local irreducible] AWP Aw
def Mo (f:Bool)(p:PG):List AV:=[.r (.bool p.leaf),.ro f 1 (p.keys.map Aj),.ro f 1 (p.kids.map eI),.ro true 1 (p.high.map AC),.r (.int .i64 p.next)]
theorem Vr:eP=Mo true:=rfl
@[simp] theorem UL (t:Bool) (a:PG):G8 t (uP a)=Mo t a:=by
  simp only[uP,Mo,G8,Uq]
  congr 2
  ·congr 1;rw[CT t Aj Aj (fun _=>rfl)]
  ·congr 2;rw[CT t eI eI (fun _=>rfl)]
set_option maxHeartbeats 4000000 in
theorem K5 (G:List (Nat×List Value))(f t:Bool)(p:PG)(k:Ky)(hs:LQ p.keys)(hl:p.keys.length≤4):Con prog G 105 [.agg (Mo f p),.ro t 1 (k.map AC)] [] 0 (Is (.r (.int .i64 (AN p k))) [] 0) No:=by
 have sc:=Js G f t p.keys k hs hl;have hb:=HK k p.keys;refine AA func105 rfl (by kernel_rfl) (of_decide_eq_true (by kernel_rfl)) ?_;intro E hG hE;subst hG;simp only[B9];cases hlf:p.leaf
 ·by_cases hx:p.keys[Ba k p.keys]?=some k
  ·have hp:AN p k=Ba k p.keys+1:=if_pos ⟨hlf,hx⟩
   rw[decide_eq_true hx] at sc;(repeat' (first |refine A0 ?_ |((first |refine rR (fun K kp hK hkp=>?_) |refine cR sc ?_);simp(implicitDefEqProofs:=false) (maxSteps:=2000000) (disch:=omega) only[go_sem,Mo,hlf];(repeat' (refine hK _ ?_;clear hK hkp kp K))) |refine A3 rfl ?_ |refine A8 ?_));(refine A7 (by(simp(implicitDefEqProofs:=false) (maxSteps:=2000000) (disch:=omega) only[go_sem,results105,hp]);rfl) ?_;refine eN hE ?_;simp[AG,ren,renL,hp])
  ·have hp:AN p k=Ba k p.keys:=if_neg fun h=>hx h.2
   rw[decide_eq_false hx] at sc;(repeat' (first |refine A0 ?_ |refine A6 ?_ |((first |refine rR (fun K kp hK hkp=>?_) |refine cR sc ?_);simp(implicitDefEqProofs:=false) (maxSteps:=2000000) (disch:=omega) only[go_sem,Mo,hlf];(repeat' (refine hK _ ?_;clear hK hkp kp K))) |refine A4 rfl ?_ |refine A8 ?_));(refine A7 (by(simp(implicitDefEqProofs:=false) (maxSteps:=2000000) (disch:=omega) only[go_sem,results105,hp]);rfl) ?_;refine eN hE ?_;simp[AG,ren,renL,hp])
 ·have hp:AN p k=Ba k p.keys:=if_neg fun h=>by rw[hlf] at h;cases h.1
  by_cases hx:p.keys[Ba k p.keys]?=some k
  ·rw[decide_eq_true hx] at sc
   (repeat' (first |refine A0 ?_ |refine A6 ?_ |((first |refine rR (fun K kp hK hkp=>?_) |refine cR sc ?_);simp(implicitDefEqProofs:=false) (maxSteps:=2000000) (disch:=omega) only[go_sem,Mo,hlf];(repeat' (refine hK _ ?_;clear hK hkp kp K))) |refine A4 rfl ?_ |refine A8 ?_));(refine A7 (by(simp(implicitDefEqProofs:=false) (maxSteps:=2000000) (disch:=omega) only[go_sem,results105,hp]);rfl) ?_;refine eN hE ?_;simp[AG,ren,renL,hp])
  ·rw[decide_eq_false hx] at sc
   (repeat' (first |refine A0 ?_ |refine A6 ?_ |((first |refine rR (fun K kp hK hkp=>?_) |refine cR sc ?_);simp(implicitDefEqProofs:=false) (maxSteps:=2000000) (disch:=omega) only[go_sem,Mo,hlf];(repeat' (refine hK _ ?_;clear hK hkp kp K))) |refine A4 rfl ?_ |refine A8 ?_));(refine A7 (by(simp(implicitDefEqProofs:=false) (maxSteps:=2000000) (disch:=omega) only[go_sem,results105,hp]);rfl) ?_;refine eN hE ?_;simp[AG,ren,renL,hp])
theorem OI (G:List (Nat×List Value))(f t:Bool)(p:PG)(k:Ky)(h:p.high=[]∨B4 k p.high=true):Con prog G 150 [.agg (Mo f p),.ro t 1 (k.map AC)] [] 0 (Is (.r (.bool false)) [] 0) No:=by
 refine AA func150 rfl (by kernel_rfl) (of_decide_eq_true (by kernel_rfl)) ?_;intro E hG hE;subst hG;simp only[B9]
 by_cases h1:p.high=[]
 ·have z1:((p.high.length:Int)>0)=False:=eq_false (by rw[h1];simp)
  (repeat' (first |refine A0 ?_ |((refine rR (fun K kp hK hkp=>?_));simp(implicitDefEqProofs:=false) (maxSteps:=2000000) (disch:=omega) only[go_sem,Mo,z1];(repeat' (refine hK _ ?_;clear hK hkp kp K))) |refine A8 ?_));(refine A7 (by(simp(implicitDefEqProofs:=false) (maxSteps:=2000000) (disch:=omega) only[go_sem,results150]);rfl) ?_;refine eN hE ?_;simp[AG,ren,renL])
 ·have z1:((p.high.length:Int)>0)=True:=eq_true (by have:=List.length_pos_iff.2 h1;omega)
  have h2:B4 k p.high=true:=by
   rcases h with h |h
   ·exact absurd h h1
   ·exact h
  (repeat' (first |refine A0 ?_ |((first |refine rR (fun K kp hK hkp=>?_) |refine cR (Ct _ _ _ _ _) ?_);simp(implicitDefEqProofs:=false) (maxSteps:=2000000) (disch:=omega) only[go_sem,Mo,z1,Mq,h2];(repeat' (refine hK _ ?_;clear hK hkp kp K))) |refine A8 ?_));(refine A7 (by(simp(implicitDefEqProofs:=false) (maxSteps:=2000000) (disch:=omega) only[go_sem,results150]);rfl) ?_;refine eN hE ?_;simp[AG,ren,renL])
set_option maxHeartbeats 4000000 in
theorem Ql (G:List (Nat×List Value))(f t u:Bool)(ps:List PG)(root d:Nat)(k:Ky)(hp:Bt ps)(hin: ∀i x,x ∈ AI ps i→x<ps.length)(hg:CU ps d root [] [])(hr:root<ps.length)(hn:ps.length≤4000)(hd:d<ps.length):
  Con prog G 103 [.agg [.ro t 5 (ps.map (Mo f)),.r (.int .i64 root)],.ro u 1 (k.map AC)] [] 0 (Is (.ro true 1 ((Ak ps k d root).map Cd)) [] 0) No:=by
 have hps:=D2 hp k d root [] [] hg (.inl rfl);have hpl:=Dx ps k d root;refine AA func103 rfl (by kernel_rfl) (of_decide_eq_true (by kernel_rfl)) ?_;intro E hG hE;subst hG;simp only[B9];(repeat' (first |refine A0 ?_ |refine A5 ?_ |((refine rR (fun K kp hK hkp=>?_));simp(implicitDefEqProofs:=false) (maxSteps:=2000000) (disch:=omega) only[go_sem];(repeat' (refine hK _ ?_;clear hK hkp kp K)))));refine AH (fun j:Nat=>⟨[(5,.s 1 0 (j+1)),(2,.p 0 0 0),(1,.ro u 1 (k.map AC))],[(0,.box 33 [.ro t 5 (ps.map (Mo f)),.r (.int .i64 root)]),(1,.lst 3 1 (((Ak ps k d root).take (j+1)).map Cd))],2⟩) (fun j=>j≤d) (fun j=>d - j) 0 ?_ ?_ ?_
 ·exact Nat.zero_le _
 ·have h0:(Ak ps k d root).take (0+1)=[root]:=by cases d<;>simp[Ak]
  (refine AE hE [0,1] rfl ?_ ?_<;>simp[AU,AO,lk,ren,renL,A9,AL,h0,Cd]<;>(try omega))
 intro j hj;obtain⟨x,hx⟩: ∃x,(Ak ps k d root)[j]?=some x:=⟨_,List.getElem?_eq_getElem (by omega)⟩;obtain⟨b1,b2,b3,b4⟩:=hps j x hx
 have hxl:x<ps.length:=by
  rcases b4 with rfl |⟨y,hy⟩
  ·exact hr
  ·exact hin y x hy
 have hpx:=DR hxl;have kv:=fun h=>Ma hp (x:=x) h k;have hok:=hp x _ hpx;generalize hP:pg ps x=p at hpx b1 b2 kv hok
 have htj:((Ak ps k d root).take (j+1))[j]?=some x:=by rw[List.getElem?_take_of_lt (by omega),hx]
 have hl:((Ak ps k d root).take (j+1)).length=j+1:=by rw[List.length_take];omega
 have e1:((j+1:Nat):Int) - 1=(j:Int):=by omega
 have zj:((j:Int)<((j+1:Nat):Int))=True:=eq_true (by omega);have bc:=OI E.G f u p k b1;have pc:=K5 E.G f u p k (Bl hok) hok.nk
 by_cases hjd:j=d
 ·subst hjd
  have b2:p.leaf=true:=by rw[b2];simp
  simp only[Mo,b2] at bc pc;(repeat' (first |refine A0 ?_ |refine A5 ?_ |refine A6 ?_ |((first |refine rR (fun K kp hK hkp=>?_) |refine cR bc ?_);simp(implicitDefEqProofs:=false) (maxSteps:=2000000) (disch:=omega) only[go_sem,e1,zj,htj,hl,hpx,b2,Mo,Cd];(repeat' (refine hK _ ?_;clear hK hkp kp K))) |refine A3 rfl ?_ |refine A4 rfl ?_ |refine A8 ?_));have htk:(Ak ps k j root).take (j+1)=Ak ps k j root:=List.take_of_length_le (by omega);rw[htk];(refine A7 (by(simp(implicitDefEqProofs:=false) (maxSteps:=2000000) (disch:=omega) only[go_sem,results103,hpl]);rfl) ?_;refine Ar (by simp only[AG];simp(implicitDefEqProofs:=false) (maxSteps:=2000000) (disch:=omega) only[go_sem,hpl];rfl) ?_;refine(Al hE (by simp) ?_).s;simp[AG,ren,renL,hpl]);exact List.take_of_length_le (by simp[hpl])
 ·have b2:p.leaf=false:=by rw[b2];simp[hjd]
  have b3:=b3 (by omega);have kv:=kv b2;simp only[Mo,b2] at bc pc
  have htk:(Ak ps k d root).take (j+1+1)=(Ak ps k d root).take (j+1)++[Bq ps k x]:=by rw[List.take_add_one (i:=j+1),b3];rfl
  (repeat' (first |refine A0 ?_ |refine A5 ?_ |refine A6 ?_ |((first |refine rR (fun K kp hK hkp=>?_) |refine rD (id:=8) mixed 9 [0,1,2,3,4,5,6,7,8] (fun K kp hK hkp=>?_) |refine cR bc ?_ |refine cD pc ?_);simp(implicitDefEqProofs:=false) (maxSteps:=2000000) (disch:=omega) only[go_sem,e1,zj,htj,hl,hpx,b2,kv,Mo,eI,Cd];(repeat' (first |(refine hK _ ?_;clear hK hkp kp K) |(with_reducible refine And.intro ?_ ?_) |omega))) |refine A4 rfl ?_))
  ((refine Im (j+1) ?_ ?_ ?_);rotate_left;(·(try dsimp only);(omega));(·(refine AE hE [0,4] rfl ?_ ?_<;>simp[AU,AO,lk,ren,renL,A9,AL,htk,Cd,List.take_take,Nat.min_self]<;>(try omega))))
  omega
end Go.AM
namespace Go.Proofs.YtekljlenlbhmcaaGreatDoor
open Go.RowKit Go.Lib
theorem Ja:(Tryz.prog.info? 3).map (fun i=>(i.zero,i.size,i.bytes))=some (some (.int .i64 0),1,8):=by kernel_rfl
end Go.Proofs.YtekljlenlbhmcaaGreatDoor
namespace Go.Proofs.YtekljlenlbhmcaaGreatDoor
open Go.RowKit Go.Lib
theorem J_:(Tryz.prog.info? 81).map (fun i=>(i.zero,i.size,i.bytes))=some (some (.slice none 0 0),1,24):=by kernel_rfl
end Go.Proofs.YtekljlenlbhmcaaGreatDoor
namespace Go.AM
open Go Go.RowKit
def sg (x:AV):List AV:=[x]
end Go.AM
