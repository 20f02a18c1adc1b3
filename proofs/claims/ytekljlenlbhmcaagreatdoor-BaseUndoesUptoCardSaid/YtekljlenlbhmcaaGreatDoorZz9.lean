/- Texts of the law BaseUndoes, part 9: lemmas; what is proved stands in the last text. -/
import Derived.Test.YtekljlenlbhmcaaGreatDoorZz8
import Derived.Test.YtekljlenlbhmcaaGreatDoorZz4
import Derived.Test.YtekljlenlbhmcaaGreatDoorZz6
import Derived.Test.YtekljlenlbhmcaaGreatDoorRows
import Derived.WalkKit
import Derived.ProofKit
import Derived.OpenShut
import Derived.ShutString
import Derived.ChangeOld
import Derived.Below
import Derived.Lib.SmallJoins
import Derived.Test.YtekljlenlbhmcaaGreatDoorZz1
import Derived.JoinedCond
import Derived.SizedLaws
import Derived.Deep.Strs
import Derived.Test.YtekljlenlbhmcaaGreatDoorCards
import Derived.Test.YtekljlenlbhmcaaGreatDoorTie
import Derived.Deep.DeepHandedRow
import Derived.Lib.LaidTab
import Derived.Shelf.Vars
import Derived.Test.YtekljlenlbhmcaaGreatDoorZz7
import Derived.Shelf.Strings.Replace
import Derived.Ground.NamesProg
import Derived.Test.YtekljlenlbhmcaaGreatDoorProg
open Go.Proofs.Tryz
set_option linter.unusedSimpArgs false
set_option linter.unusedVariables false
set_option maxRecDepth 100000
namespace Go.AM
open Go Go.RowKit
open Go.Proofs.YtekljlenlbhmcaaGreatDoor (AY AZ)
attribute [local irreducible] AWP Aw
set_option maxHeartbeats 4000000 in
theorem Hx (G:List (Nat×List Value))(b:TB)(ho:okTB b):Con prog G 13 [.agg (Ac b)] [] 0 (Is (.agg [.r (.string b.nm),.s 0 0 b.cols.length,.s 1 0 b.rows.length,.ro true 5 (b.ps.map eP),.r (.int .i64 b.root)]) [(0,.lst 71 2 (b.cols.map eC)),(1,.lst 50 1 (b.rows.map Cu))] 2) No:=by
 have tc:=DV G true b.ps b.root ho.ps;have hcl:=ho.cl;have hrl:=ho.rl;refine AA func13 rfl (by kernel_rfl) (of_decide_eq_true (by kernel_rfl)) ?_;intro E hG hE;subst hG;simp only[B9];(repeat' (first |refine A0 ?_ |refine A5 ?_ |((first |refine rR (fun K kp hK hkp=>?_) |refine rU (id:=1) mixed 7 [⟨0,0,[],[(0,1)]⟩,⟨0,0,[0],[(0,1)]⟩,⟨0,0,[],[(0,1)]⟩,⟨0,0,[2],[(0,1)]⟩,⟨0,0,[2,3],[(0,1)]⟩,⟨0,0,[0,1,2,3,4],[(0,1)]⟩,⟨0,1,[],[]⟩] 1 [7,8,9,10,11,12,3] [] (fun K kp hK hkp=>?_) |refine cU tc ?_);simp(implicitDefEqProofs:=false) (maxSteps:=2000000) (disch:=omega) only[go_sem,Ac];(repeat' (refine hK _ ?_;clear hK hkp kp K)))));(refine AWP.emb (BD 2 1 71 2 rfl rfl (by simp)) ?_;simp only[List.set_cons_zero,List.set_cons_succ,lk,↓reduceIte,Nat.reduceAdd]);(refine AWP.emb (BD 2 2 50 1 rfl rfl (by simp)) ?_;simp only[List.set_cons_zero,List.set_cons_succ,lk,↓reduceIte,Nat.reduceAdd]);refine AH (fun k:Nat=>⟨[(4,.r (.int .i64 k)),(3,.p 2 0 0),(2,.p 1 0 0),(1,.p 0 0 0)],[(0,.box 35 (Ac b)),(1,.box 35 [.r (.string ⟨#[]⟩),.r (.slice none 0 0),.r (.slice none 0 0),.r (.slice none 0 0),.r (.int .i64 0)]),(2,.box 35 [.r (.string b.nm),.s 3 0 k,.s 4 0 0,.ro true 5 (b.ps.map eP),.r (.int .i64 b.root)]),(3,.lst 71 2 ((b.cols.take k).map eC)),(4,.lst 50 1 [])],5⟩) (fun k=>k≤b.cols.length) (fun k=>b.cols.length - k) 0 ?_ ?_ ?_
 ·exact Nat.zero_le _
 ·(refine AE hE [0,1,2,3,4] rfl ?_ ?_<;>simp[AU,AO,lk,ren,renL,A9,AL,Ac]<;>(try omega))
 intro k hk
 by_cases hlt:k<b.cols.length
 ·have zk:((k:Int)<(b.cols.length:Int))=True:=eq_true (by omega)
  obtain⟨x,hx⟩: ∃x,b.cols[k]?=some x:=⟨b.cols[k],by simp[hlt]⟩
  have htk:b.cols.take (k+1)=b.cols.take k++[x]:=by rw[List.take_add_one,hx];rfl
  have hl2:(b.cols.take k).length=k:=by rw[List.length_take];omega
  (repeat' (first |refine A0 ?_ |refine A5 ?_ |refine A6 ?_ |((first |refine rR (fun K kp hK hkp=>?_) |refine rX (id:=5) mixed [3] 9 [0,1,2,3,4,5,6,7,8] (fun K kp hK hkp=>?_));simp(implicitDefEqProofs:=false) (maxSteps:=2000000) (disch:=omega) only[go_sem,zk,hx,Ac,eC,hl2,Value.oneCell'];(repeat' (first |(refine hK _ ?_;clear hK hkp kp K) |(with_reducible refine And.intro ?_ ?_) |omega))) |refine A3 rfl ?_))
  ((refine AJ (k+1) ?_ ?_ ?_);rotate_left;(·(try dsimp only);(omega));(·(refine AE hE [0,1,2,6,4] rfl ?_ ?_<;>simp[AU,AO,lk,ren,renL,A9,AL,htk,Ac,eC,List.take_take,Nat.min_self]<;>(try omega))))
  omega
 ·obtain rfl:k=b.cols.length:=by omega
  rw[List.take_length];(repeat' (first |refine A0 ?_ |refine A5 ?_ |refine AB ?_ |((refine rR (fun K kp hK hkp=>?_));simp(implicitDefEqProofs:=false) (maxSteps:=2000000) (disch:=omega) only[go_sem,Ac];(repeat' (refine hK _ ?_;clear hK hkp kp K))) |((refine AD rfl (fun h=>?_) (fun h=>?_)<;>try simp only[BQ] at h)<;>(try (exfalso;omega)))));refine AH (fun k:Nat=>⟨[(5,.r (.int .i64 k)),(3,.p 2 0 0),(2,.p 1 0 0),(1,.p 0 0 0)],[(0,.box 35 (Ac b)),(1,.box 35 [.r (.string ⟨#[]⟩),.r (.slice none 0 0),.r (.slice none 0 0),.r (.slice none 0 0),.r (.int .i64 0)]),(2,.box 35 [.r (.string b.nm),.s 3 0 b.cols.length,.s 4 0 k,.ro true 5 (b.ps.map eP),.r (.int .i64 b.root)]),(3,.lst 71 2 (b.cols.map eC)),(4,.lst 50 1 ((b.rows.take k).map Cu))],5⟩) (fun k=>k≤b.rows.length) (fun k=>b.rows.length - k) 0 ?_ ?_ ?_
  ·exact Nat.zero_le _
  ·(refine AE hE [0,1,2,3,4] rfl ?_ ?_<;>simp[AU,AO,lk,ren,renL,A9,AL,Ac]<;>(try omega))
  intro k hk
  by_cases hlt:k<b.rows.length
  ·have zk:((k:Int)<(b.rows.length:Int))=True:=eq_true (by omega)
   obtain⟨x,hx⟩: ∃x,b.rows[k]?=some x:=⟨b.rows[k],by simp[hlt]⟩
   have htk:b.rows.take (k+1)=b.rows.take k++[x]:=by rw[List.take_add_one,hx];rfl
   have hl2:(b.rows.take k).length=k:=by rw[List.length_take];omega
   have vc:=Dm E.G true x (ho.rs x (List.mem_of_getElem? hx)).1;(repeat' (first |refine A0 ?_ |refine A5 ?_ |refine A6 ?_ |((first |refine rR (fun K kp hK hkp=>?_) |refine cR vc ?_);simp(implicitDefEqProofs:=false) (maxSteps:=2000000) (disch:=omega) only[go_sem,zk,hx,Ac,Cu,hl2,Value.oneCell'];(repeat' (first |(refine hK _ ?_;clear hK hkp kp K) |(with_reducible refine And.intro ?_ ?_) |omega))) |refine A3 rfl ?_))
   ((refine AJ (k+1) ?_ ?_ ?_);rotate_left;(·(try dsimp only);(omega));(·(refine AE hE [0,1,2,3,6] rfl ?_ ?_<;>simp[AU,AO,lk,ren,renL,A9,AL,htk,Ac,Cu,List.take_take,Nat.min_self]<;>(try omega))))
   omega
  ·obtain rfl:k=b.rows.length:=by omega
   rw[List.take_length];(repeat' (first |refine A0 ?_ |refine AB ?_ |((refine rR (fun K kp hK hkp=>?_));simp(implicitDefEqProofs:=false) (maxSteps:=2000000) (disch:=omega) only[go_sem,Ac];(repeat' (refine hK _ ?_;clear hK hkp kp K))) |((refine AD rfl (fun h=>?_) (fun h=>?_)<;>try simp only[BQ] at h)<;>(try (exfalso;omega))) |refine A8 ?_));(refine A7 (by(simp(implicitDefEqProofs:=false) (maxSteps:=2000000) (disch:=omega) only[go_sem,results13,AK]);rfl) ?_;refine(Cx hE [3,4] rfl ?_ ?_).s<;>simp[AG,AO,lk,ren,renL,A9,AL,AK])
theorem Jl (was:List (List V)): ∀(a:List Int)(rows:List (List V))(i:Int),CD was rows (a++[i])=(CD was rows a).set i.toNat (Dq was i.toNat)
 | [],rows,i=>rfl
 |x::s,rows,i=>by rw[List.cons_append,CD,CD,Jl was s]
theorem Jk {was rows:List (List V)}{sl:List Int}{k:Nat}{i:Int}(h:sl[k]?=some i):CD was rows (sl.take (k+1))=(CD was rows (sl.take k)).set i.toNat (Dq was i.toNat):=by
 rw[List.take_add_one,h];exact Jl was _ _ _
theorem Ij {n:Nat}{sl:List Int}{k:Nat}{i:Int}(h:sl[k]?=some i):CX n (sl.drop k)=if i<0∨(n:Int)≤i then false else CX n (sl.drop (k+1)):=by rw[BA h,CX]
theorem I8 {n:Nat}: ∀ {sl:List Int}{k:Nat}{i:Int},CX n sl=true→sl[k]?=some i→ ∃m:Nat,i=(m:Int)∧m<n
 | [],k,i,_,h=>by simp at h
 |x::s,k,i,hr,h=>by
  rw[CX] at hr;split at hr
  ·cases hr
  ·rename_i hx
   cases k with
   |zero=>
    cases h;exact⟨x.toNat,by omega,by omega⟩
   |succ k=>exact I8 hr (by simpa using h)
theorem Fo:wk (.agg [.r (.string ⟨#[]⟩),.r (.slice none 0 0),.r (.slice none 0 0),.r (.slice none 0 0),.r (.int .i64 0)]) (.agg (Ac Hs)):=by simp[wk,LF,Ac,Hs]
theorem VF {us:List (List V)}{m:Nat}{y:List V}(hy:y=[]): ∀(i:Nat)(e e':List AV),((us.map Cu).set m [.r (.slice none 0 0)])[i]?=some e→((us.set m y).map Cu)[i]?=some e'→LF e e':=by
 intro i e e' h1 h2;rw[List.map_set] at h2;rw[List.getElem?_set] at h1 h2
 by_cases hm:m=i
 ·rw[if_pos hm] at h1 h2
  split at h1
  ·rename_i hl
   rw[if_pos hl] at h2;cases h1;cases h2;subst hy;simp[LF,wk,Cu]
  ·cases h1
 ·rw[if_neg hm] at h1 h2
  rw[h1] at h2;cases h2;exact FM _
set_option maxHeartbeats 8000000 in
theorem TT {G:List (Nat×List Value)}(T:Tabs G)(HR:Fl G)(now was:TB)(hn:okTB now)(hw:okTB was)(sl:List Int)(hs:Ci now was=false):Con prog G 19 [.agg (Ac now),.agg (Ac was),.ro true 1 (sl.map eI)] [] 0 (Is (.tup [.agg [.r (.string ⟨#[]⟩),.r (.slice none 0 0),.r (.slice none 0 0),.r (.slice none 0 0),.r (.int .i64 0)],.r (.int .i64 11)]) [] 0) No:=by
 have tw:=Di T HR was hw;have tn:=Di T HR now hn;have ec:=Gj G true true now.cols was.cols hn.cl hw.cl;simp only[Ac] at tw tn;refine AA func19 rfl (by kernel_rfl) (of_decide_eq_true (by kernel_rfl)) ?_;intro E hG hE;subst hG;simp only[B9];cases h1:GX now
 ·rw[h1] at tn
  (repeat' (first |refine A0 ?_ |((first |refine rR (fun K kp hK hkp=>?_) |refine cR tn ?_);simp(implicitDefEqProofs:=false) (maxSteps:=2000000) (disch:=omega) only[go_sem,Ac];(repeat' (refine hK _ ?_;clear hK hkp kp K))) |refine A3 rfl ?_ |refine A8 ?_));(refine A7 (by(simp(implicitDefEqProofs:=false) (maxSteps:=2000000) (disch:=omega) only[go_sem,results19]);rfl) ?_;refine eN hE ?_;simp[AG,ren,renL])
 rw[h1] at tn;cases h2:GX was
 ·rw[h2] at tw
  (repeat' (first |refine A0 ?_ |((first |refine rR (fun K kp hK hkp=>?_) |refine cR tn ?_ |refine cR tw ?_);simp(implicitDefEqProofs:=false) (maxSteps:=2000000) (disch:=omega) only[go_sem,Ac];(repeat' (refine hK _ ?_;clear hK hkp kp K))) |refine A3 rfl ?_ |refine A8 ?_));(refine A7 (by(simp(implicitDefEqProofs:=false) (maxSteps:=2000000) (disch:=omega) only[go_sem,results19]);rfl) ?_;refine eN hE ?_;simp[AG,ren,renL])
 rw[h2] at tw;cases h3:(now.nm.toList==was.nm.toList)
 ·(repeat' (first |refine A0 ?_ |((first |refine rR (fun K kp hK hkp=>?_) |refine cR tn ?_ |refine cR tw ?_);simp(implicitDefEqProofs:=false) (maxSteps:=2000000) (disch:=omega) only[go_sem,Ac,h3];(repeat' (refine hK _ ?_;clear hK hkp kp K))) |refine A3 rfl ?_ |refine A8 ?_))
  (refine A7 (by(simp(implicitDefEqProofs:=false) (maxSteps:=2000000) (disch:=omega) only[go_sem,results19]);rfl) ?_;refine eN hE ?_;simp[AG,ren,renL])
 have h4:C7 now.cols was.cols=false:=by
  rw[Ci,h1,h2,h3] at hs;simpa using hs
 rw[h4] at ec;(repeat' (first |refine A0 ?_ |((first |refine rR (fun K kp hK hkp=>?_) |refine cR tn ?_ |refine cR tw ?_ |refine cR ec ?_);simp(implicitDefEqProofs:=false) (maxSteps:=2000000) (disch:=omega) only[go_sem,Ac,h3];(repeat' (refine hK _ ?_;clear hK hkp kp K))) |refine A3 rfl ?_ |refine A8 ?_));(refine A7 (by(simp(implicitDefEqProofs:=false) (maxSteps:=2000000) (disch:=omega) only[go_sem,results19]);rfl) ?_;refine eN hE ?_;simp[AG,ren,renL])
set_option maxHeartbeats 8000000 in
theorem Uz {G:List (Nat×List Value)}(T:Tabs G)(HR:Fl G)(now was:TB)(hn:okTB now)(hw:okTB was)(sl:List Int)(hsl:sl.length≤1048576)(hs:Ci now was=true)(hr:CX now.rows.length sl=true)(us:List (List V))(hus:CD was.rows now.rows sl=us)(B:List PG×Int×Int)(hB:C8 [Lf] 0 0 us=B):
  Con prog G 19 [.agg (Ac now),.agg (Ac was),.ro true 1 (sl.map eI)] [] 0 (Is (if B.2.2≠0 then .tup [.agg [.r (.string ⟨#[]⟩),.r (.slice none 0 0),.r (.slice none 0 0),.r (.slice none 0 0),.r (.int .i64 0)],.r (.int .i64 B.2.2)] else EP (⟨now.nm,now.cols,us,B.1,B.2.1⟩,0)) [] 0) No:=by
 have tw:=Di T HR was hw;have tn:=Di T HR now hn;have ec:=Gj G true true now.cols was.cols hn.cl hw.cl;simp only[Ci,Bool.and_eq_true] at hs;obtain⟨h1,h2,h3,h4⟩:=hs;have hnl:=Hy h1;have hwl4:=Hy h2
 have hcne:now.cols≠[]:=fun e=>by
  have:=(Rl h1).cl;rw[e] at this;simp[Am] at this
 have oc:=Th G now hn hcne
 have huk: ∀r ∈ us,HQ r:=by rw[←hus];exact Eh (D0 hw h2) sl now.rows (D0 hn h1)
 have hul:us.length=now.rows.length:=by rw[←hus,Dh]
 rw[h1] at tn;rw[h2] at tw;rw[h4] at ec;simp only[Ac] at tw tn oc;refine AA func19 rfl (by kernel_rfl) (of_decide_eq_true (by kernel_rfl)) ?_;intro E hG hE;subst hG;simp only[B9];(repeat' (first |refine A0 ?_ |refine A5 ?_ |refine A6 ?_ |((first |refine rR (fun K kp hK hkp=>?_) |refine cR tn ?_ |refine cR tw ?_ |refine cR ec ?_);simp(implicitDefEqProofs:=false) (maxSteps:=2000000) (disch:=omega) only[go_sem,Ac,h3];(repeat' (refine hK _ ?_;clear hK hkp kp K))) |refine A4 rfl ?_));clear tn tw ec;refine AH (fun k:Nat=>⟨[(43,.r (.int .i64 k)),(42,.r (.int .i64 sl.length)),(41,.ro true 1 (sl.map eI)),(7,.r (.int .i64 0)),(6,.p 2 0 0),(4,.p 1 0 0),(3,.p 0 0 0),(2,.ro true 1 (sl.map eI))],[(0,.box 35 (Ac now)),(1,.box 35 (Ac was)),(2,.box 35 [.r (.string ⟨#[]⟩),.r (.slice none 0 0),.r (.slice none 0 0),.r (.slice none 0 0),.r (.int .i64 0)])],3⟩) (fun k=>k≤sl.length) (fun k=>sl.length - k) 0 ?_ ?_ ?_
 ·exact Nat.zero_le _
 ·(refine AE hE [0,1,2] rfl ?_ ?_<;>simp[AU,AO,lk,ren,renL,A9,AL,Ac]<;>(try omega))
 intro k hk
 by_cases hlt:k<sl.length
 ·have zk:((k:Int)<(sl.length:Int))=True:=eq_true (by omega)
  obtain⟨i,hi⟩: ∃i,sl[k]?=some i:=⟨_,List.getElem?_eq_getElem hlt⟩;obtain⟨m,rfl,hm⟩:=I8 hr hi;have z0:((m:Int)<0)=False:=eq_false (by omega);have z1:((m:Int)≥(now.rows.length:Int))=False:=eq_false (by omega);(repeat' (first |refine A0 ?_ |refine A5 ?_ |refine A6 ?_ |((refine rR (fun K kp hK hkp=>?_));simp(implicitDefEqProofs:=false) (maxSteps:=2000000) (disch:=omega) only[go_sem,zk,hi,Ac,eI,z0,z1];(repeat' (refine hK _ ?_;clear hK hkp kp K))) |refine A3 rfl ?_ |refine A4 rfl ?_))
  ((refine AJ (k+1) ?_ ?_ ?_);rotate_left;(·(try dsimp only);(omega));(·(refine AE hE [0,1,2] rfl ?_ ?_<;>simp[AU,AO,lk,ren,renL,A9,AL,Ac]<;>(try omega))))
  omega
 have zk:((k:Int)<(sl.length:Int))=False:=eq_false (by omega);(repeat' (first |refine A0 ?_ |refine A5 ?_ |refine AB ?_ |((first |refine rR (fun K kp hK hkp=>?_) |refine cR oc ?_);simp(implicitDefEqProofs:=false) (maxSteps:=2000000) (disch:=omega) only[go_sem,zk,Ac];(repeat' (refine hK _ ?_;clear hK hkp kp K))) |refine A4 rfl ?_));clear zk hk hlt oc;refine AH (fun k:Nat=>⟨[(62,.r (.int .i64 k)),(61,.r (.int .i64 sl.length)),(60,.ro true 1 (sl.map eI)),(10,.p 4 0 0),(7,.r (.int .i64 0)),(6,.p 2 0 0),(4,.p 1 0 0)],[(0,.box 35 (Ac now)),(1,.box 35 (Ac was)),(2,.box 35 [.r (.string ⟨#[]⟩),.r (.slice none 0 0),.r (.slice none 0 0),.r (.slice none 0 0),.r (.int .i64 0)]),(3,.lst 50 1 ((CD was.rows now.rows (sl.take k)).map Cu)),(4,.box 35 [.r (.string now.nm),.ro true 2 (now.cols.map eC),.s 3 0 now.rows.length,.ro true 5 (now.ps.map eP),.r (.int .i64 now.root)])],5⟩) (fun k=>k≤sl.length) (fun k=>sl.length - k) 0 ?_ ?_ ?_
 ·exact Nat.zero_le _
 ·(refine AE hE [0,1,2,3,4] rfl ?_ ?_<;>simp[AU,AO,lk,ren,renL,A9,AL,Ac,CD]<;>(try omega))
 intro k hk
 by_cases hlt:k<sl.length
 ·have zk:((k:Int)<(sl.length:Int))=True:=eq_true (by omega)
  obtain⟨i,hi⟩: ∃i,sl[k]?=some i:=⟨_,List.getElem?_eq_getElem hlt⟩;have hU1:=Jk (was:=was.rows) (rows:=now.rows) hi;obtain⟨m,rfl,hm⟩:=I8 hr hi;rw[Int.toNat_natCast] at hU1;have hUl:=Dh was.rows (sl.take k) now.rows;generalize CD was.rows now.rows (sl.take k)=U at *;have zm:((m:Int)<(now.rows.length:Int))=True:=eq_true (by omega)
  have zm2:m<U.length:=by omega
  obtain⟨u0,hu0⟩: ∃u0,U[m]?=some u0:=⟨_,List.getElem?_eq_getElem zm2⟩
  by_cases hmw:m<was.rows.length
  ·have zw:((m:Int)<(was.rows.length:Int))=True:=eq_true (by omega)
   obtain⟨y,hy⟩: ∃y,was.rows[m]?=some y:=⟨_,List.getElem?_eq_getElem hmw⟩
   have hsl2:Dq was.rows m=y:=by rw[Dq,List.getD_eq_getElem?_getD,hy];rfl
   have vc:=Kr E.G true y (hw.rs y (List.mem_of_getElem? hy)).1;rw[hsl2] at hU1
   have hset:((U.map Cu).set m [.r (.slice none 0 0)])[m]?=some [.r (.slice none 0 0)]:=by rw[List.getElem?_set_self (by rw[List.length_map];exact zm2)]
   (repeat' (first |refine A0 ?_ |refine A5 ?_ |refine A6 ?_ |((first |refine rR (fun K kp hK hkp=>?_) |refine rD (id:=15) mixed 10 [0,1,2,3,4,5,6,7,8,9] (fun K kp hK hkp=>?_) |refine cD vc ?_);simp(implicitDefEqProofs:=false) (maxSteps:=2000000) (disch:=omega) only[go_sem,zk,zm,zw,hi,hy,hu0,hset,hUl,Ac,eI,Cu,Value.oneCell'];(repeat' (refine hK _ ?_;clear hK hkp kp K))) |refine A3 rfl ?_))
   ((refine AJ (k+1) ?_ ?_ ?_);rotate_left;(·(try dsimp only);(omega));(·(refine AE hE [0,1,2,3,4] rfl ?_ ?_<;>simp[AU,AO,lk,ren,renL,A9,AL,Ac,hU1,List.map_set,List.set_set,Cu]<;>(try omega))))
   omega
  ·have zw:((m:Int)<(was.rows.length:Int))=False:=eq_false (by omega)
   have hsl2:Dq was.rows m=[]:=by rw[Dq,List.getD_eq_getElem?_getD,List.getElem?_eq_none (by omega)];rfl
   rw[hsl2] at hU1;(repeat' (first |refine A0 ?_ |refine A5 ?_ |refine A6 ?_ |((refine rR (fun K kp hK hkp=>?_));simp(implicitDefEqProofs:=false) (maxSteps:=2000000) (disch:=omega) only[go_sem,zk,zm,zw,hi,hu0,hUl,Ac,eI,Cu,Value.oneCell'];(repeat' (refine hK _ ?_;clear hK hkp kp K))) |refine A3 rfl ?_ |refine A4 rfl ?_))
   ((refine AJ (k+1) ?_ ?_ ?_);rotate_left;(·(try dsimp only);(omega));(·refine Emb.trans (Ml (els':=(U.set m []).map Cu) 3 rfl (by simp) (VF rfl)) ?_;(try simp only[Ad]);(refine AE hE [0,1,2,3,4] rfl ?_ ?_<;>simp[AU,AO,lk,ren,renL,A9,AL,Ac,hU1]<;>(try omega))))
   omega
 obtain rfl:k=sl.length:=by omega
 have zk:((sl.length:Int)<(sl.length:Int))=False:=eq_false (by omega);rw[List.take_length,hus];(repeat' (first |refine A0 ?_ |refine A5 ?_ |refine AB ?_ |((first |refine rR (fun K kp hK hkp=>?_) |refine cR (Tk _) ?_);simp(implicitDefEqProofs:=false) (maxSteps:=2000000) (disch:=omega) only[go_sem,zk,Ac];(repeat' (refine hK _ ?_;clear hK hkp kp K))) |refine A4 rfl ?_));clear zk hk hlt hus hr;have h0B:BG [Lf]:=IB;refine AH (fun(q:Nat×List PG×Int)=>⟨[(91,.r (.int .i64 q.1)),(90,.r (.int .i64 now.rows.length)),(89,.s 3 0 now.rows.length),(10,.p 4 0 0),(7,.r (.int .i64 0)),(6,.p 2 0 0)],[(0,.box 35 (Ac now)),(1,.box 35 (Ac was)),(2,.box 35 [.r (.string ⟨#[]⟩),.r (.slice none 0 0),.r (.slice none 0 0),.r (.slice none 0 0),.r (.int .i64 0)]),(3,.lst 50 1 (us.map Cu)),(4,.box 35 [.r (.string now.nm),.ro true 2 (now.cols.map eC),.s 3 0 now.rows.length,.ro true 5 (q.2.1.map eP),.r (.int .i64 q.2.2)])],5⟩) (fun q=>q.1≤us.length∧BG q.2.1∧C8 q.2.1 q.2.2 q.1 (us.drop q.1)=B) (fun q=>us.length - q.1) (0,[Lf],0) ?_ ?_ ?_
 ·exact⟨Nat.zero_le _,h0B,hB⟩
 ·(refine AE hE [0,1,2,3,4] rfl ?_ ?_<;>simp[AU,AO,lk,ren,renL,A9,AL,Ac]<;>(try omega))
 rintro⟨k,ps,root⟩ ⟨hk,hps,hb⟩;simp only at hk hps hb
 by_cases hlt:k<us.length
 ·have zk:((k:Int)<(now.rows.length:Int))=True:=eq_true (by omega)
  obtain⟨x,hx⟩: ∃x,us[k]?=some x:=⟨_,List.getElem?_eq_getElem hlt⟩;obtain⟨⟨ho1,ho2⟩,hkx⟩:=huk x (List.mem_of_getElem? hx);rw[J9 hx] at hb
  by_cases hx0:x.length=0
  ·have zx:((x.length:Int)==0)=true:=by simp[hx0]
   rw[if_pos hx0] at hb;(repeat' (first |refine A0 ?_ |refine A5 ?_ |refine A6 ?_ |refine AB ?_ |((refine rR (fun K kp hK hkp=>?_));simp(implicitDefEqProofs:=false) (maxSteps:=2000000) (disch:=omega) only[go_sem,zk,hx,hul,Ac,Cu,zx];(repeat' (refine hK _ ?_;clear hK hkp kp K))) |refine A3 rfl ?_))
   ((refine AJ ((k+1,ps,root)) ?_ ?_ ?_);rotate_left;(·(try dsimp only);(omega));(·(refine AE hE [0,1,2,3,4] rfl ?_ ?_<;>simp[AU,AO,lk,ren,renL,A9,AL,Ac]<;>(try omega))))
   exact⟨by omega,hps,hb⟩
  ·have zx:((x.length:Int)==0)=false:=by rw[beq_eq_false_iff_ne];omega
   rw[if_neg hx0] at hb;obtain⟨l,hl⟩:=hkx.resolve_left hx0;obtain⟨v,s,hvs,he,hkb⟩:=JX hl;have key:=N_ HR true x (C9 x) ho1 (by omega) ho2 he
   have hkl:(C9 x).length≤1048576:=by
    rw[DM,Bool.and_eq_true,decide_eq_true_eq,decide_eq_true_eq] at hkb;omega
   have ic:=Sb E.G true ps root (C9 x) (k:Int) hps hkl (Ge ps root (C9 x) (k:Int)) (Mf ps root (C9 x) (k:Int)) (fun h0 r d e h=>Me ps root (C9 x) (k:Int) h0 r d e h);have hps2:=Md hps root (C9 x) (k:Int);generalize Ge ps root (C9 x) (k:Int)=X at *;obtain⟨X1,X2,X3⟩:=X;rw[Gn] at ic;simp only at ic hb hps2
   by_cases hX:X3=0
   ·have zX:(X3 !=0)=false:=by simp[hX]
    rw[if_neg (by simp[hX])] at hb;(repeat' (first |refine A0 ?_ |refine A5 ?_ |refine A6 ?_ |((first |refine rR (fun K kp hK hkp=>?_) |refine rU (id:=22) mixed 10 [⟨0,0,[],[(0,1)]⟩,⟨0,0,[0],[(0,1)]⟩,⟨0,0,[],[(0,1)]⟩,⟨0,0,[2],[(0,1)]⟩,⟨0,0,[],[(0,1)]⟩,⟨0,0,[0,1,2,3,4],[(0,1)]⟩,⟨0,0,[0,1,2,3,4,5],[(0,1)]⟩,⟨0,0,[0,1,2,3,4,5,6],[(0,1)]⟩,⟨0,0,[0,1,2,3,4,5,6],[(0,1)]⟩,⟨0,1,[],[]⟩] 1 [100,101,102,103,104,105,99,106,107,15] [8] (fun K kp hK hkp=>?_) |refine cU key ?_ |refine cU ic ?_);simp(implicitDefEqProofs:=false) (maxSteps:=2000000) (disch:=omega) only[go_sem,zk,hx,hul,Ac,Cu,zx,zX];(repeat' (refine hK _ ?_;clear hK hkp kp K))) |refine A3 rfl ?_ |refine A4 rfl ?_))
    ((refine AJ ((k+1,X1,X2)) ?_ ?_ ?_);rotate_left;(·(try dsimp only);(omega));(·(refine AE hE [0,1,2,3,4] rfl ?_ ?_<;>simp[AU,AO,lk,ren,renL,A9,AL,Ac]<;>(try omega))))
    exact⟨by omega,hps2,hb⟩
   ·have zX:(X3 !=0)=true:=by simp[hX]
    rw[if_pos hX] at hb;subst hb;rw[if_pos hX];(repeat' (first |refine A0 ?_ |refine A5 ?_ |refine A6 ?_ |((first |refine rR (fun K kp hK hkp=>?_) |refine rU (id:=22) mixed 10 [⟨0,0,[],[(0,1)]⟩,⟨0,0,[0],[(0,1)]⟩,⟨0,0,[],[(0,1)]⟩,⟨0,0,[2],[(0,1)]⟩,⟨0,0,[],[(0,1)]⟩,⟨0,0,[0,1,2,3,4],[(0,1)]⟩,⟨0,0,[0,1,2,3,4,5],[(0,1)]⟩,⟨0,0,[0,1,2,3,4,5,6],[(0,1)]⟩,⟨0,0,[0,1,2,3,4,5,6],[(0,1)]⟩,⟨0,1,[],[]⟩] 1 [100,101,102,103,104,105,99,106,107,15] [8] (fun K kp hK hkp=>?_) |refine cU key ?_ |refine cU ic ?_);simp(implicitDefEqProofs:=false) (maxSteps:=2000000) (disch:=omega) only[go_sem,zk,hx,hul,Ac,Cu,zx,zX];(repeat' (refine hK _ ?_;clear hK hkp kp K))) |refine A3 rfl ?_ |refine A4 rfl ?_ |refine A8 ?_));(refine A7 (by(simp(implicitDefEqProofs:=false) (maxSteps:=2000000) (disch:=omega) only[go_sem,results19]);rfl) ?_;refine eN hE ?_;simp[AG,ren,renL])
 ·have zk:((k:Int)<(now.rows.length:Int))=False:=eq_false (by omega)
  rw[List.drop_of_length_le (by omega),C8] at hb;subst hb;rw[if_neg (by simp),EP,Ac];have tk:(us.map Cu).take now.rows.length=us.map Cu:=List.take_of_length_le (Nat.le_of_eq (by rw[List.length_map,hul]));(repeat' (first |refine A0 ?_ |refine AB ?_ |((refine rR (fun K kp hK hkp=>?_));simp(implicitDefEqProofs:=false) (maxSteps:=2000000) (disch:=omega) only[go_sem,zk,Ac];(repeat' (refine hK _ ?_;clear hK hkp kp K))) |refine A4 rfl ?_ |refine A8 ?_));(refine A7 (by(simp(implicitDefEqProofs:=false) (maxSteps:=2000000) (disch:=omega) only[go_sem,results19,tk,Ac]);rfl) ?_;refine Ar (by simp only[AG];simp(implicitDefEqProofs:=false) (maxSteps:=2000000) (disch:=omega) only[go_sem,tk,Ac];rfl) ?_;refine(Al hE (by simp) ?_).s;simp[AG,ren,renL,tk,Ac])
set_option maxHeartbeats 8000000 in
theorem Rd {G:List (Nat×List Value)}(T:Tabs G)(HR:Fl G)(now was:TB)(hn:okTB now)(hw:okTB was)(sl:List Int)(hsl:sl.length≤1048576):Con prog G 19 [.agg (Ac now),.agg (Ac was),.ro true 1 (sl.map eI)] [] 0 (Is (EP (Gx now was sl)) [] 0) No:=by
 cases hs:Ci now was
 ·rw[Gx,if_pos hs,EP]
  exact Con.res (TT T HR now was hn hw sl hs) (fun w z th v hr=>ES Fo hr)
 have tw:=Di T HR was hw;have tn:=Di T HR now hn;have ec:=Gj G true true now.cols was.cols hn.cl hw.cl;have hwl:=hw.rl;have hs':=hs;simp only[Ci,Bool.and_eq_true] at hs';obtain⟨h1,h2,h3,h4⟩:=hs';have hnl:=Hy h1;have hwl4:=Hy h2;rw[h1] at tn;rw[h2] at tw;rw[h4] at ec;simp only[Ac] at tw tn;rw[Gx,if_neg (by simp[hs])];cases hr:CX now.rows.length sl
 ·rw[if_pos rfl,EP]
  refine Con.res (y:= .tup [.agg [.r (.string ⟨#[]⟩),.r (.slice none 0 0),.r (.slice none 0 0),.r (.slice none 0 0),.r (.int .i64 0)],.r (.int .i64 3)]) ?_ (fun w z th v hr=>ES Fo hr);refine AA func19 rfl (by kernel_rfl) (of_decide_eq_true (by kernel_rfl)) ?_;intro E hG hE;subst hG;simp only[B9];(repeat' (first |refine A0 ?_ |refine A5 ?_ |refine A6 ?_ |((first |refine rR (fun K kp hK hkp=>?_) |refine cR tn ?_ |refine cR tw ?_ |refine cR ec ?_);simp(implicitDefEqProofs:=false) (maxSteps:=2000000) (disch:=omega) only[go_sem,Ac,h3];(repeat' (refine hK _ ?_;clear hK hkp kp K))) |refine A4 rfl ?_));refine AH (fun k:Nat=>⟨[(43,.r (.int .i64 k)),(42,.r (.int .i64 sl.length)),(41,.ro true 1 (sl.map eI)),(7,.r (.int .i64 0)),(6,.p 2 0 0),(4,.p 1 0 0),(3,.p 0 0 0),(2,.ro true 1 (sl.map eI))],[(0,.box 35 (Ac now)),(1,.box 35 (Ac was)),(2,.box 35 [.r (.string ⟨#[]⟩),.r (.slice none 0 0),.r (.slice none 0 0),.r (.slice none 0 0),.r (.int .i64 0)])],3⟩) (fun k=>k≤sl.length∧CX now.rows.length (sl.drop k)=false) (fun k=>sl.length - k) 0 ?_ ?_ ?_
  ·exact⟨Nat.zero_le _,hr⟩
  ·(refine AE hE [0,1,2] rfl ?_ ?_<;>simp[AU,AO,lk,ren,renL,A9,AL,Ac]<;>(try omega))
  rintro k ⟨hk,hno⟩
  by_cases hlt:k<sl.length
  ·have zk:((k:Int)<(sl.length:Int))=True:=eq_true (by omega)
   obtain⟨i,hi⟩: ∃i,sl[k]?=some i:=⟨_,List.getElem?_eq_getElem hlt⟩;rw[Ij hi] at hno
   by_cases hi0:i<0
   ·have z0:(i<0)=True:=eq_true hi0
    (repeat' (first |refine A0 ?_ |refine A5 ?_ |refine A6 ?_ |((refine rR (fun K kp hK hkp=>?_));simp(implicitDefEqProofs:=false) (maxSteps:=2000000) (disch:=omega) only[go_sem,zk,hi,Ac,eI,z0];(repeat' (refine hK _ ?_;clear hK hkp kp K))) |refine A3 rfl ?_ |refine A8 ?_));(refine A7 (by(simp(implicitDefEqProofs:=false) (maxSteps:=2000000) (disch:=omega) only[go_sem,results19]);rfl) ?_;refine eN hE ?_;simp[AG,ren,renL])
   ·have z0:(i<0)=False:=eq_false hi0
    by_cases hi1:(now.rows.length:Int)≤i
    ·have z1:(i≥(now.rows.length:Int))=True:=eq_true hi1
     (repeat' (first |refine A0 ?_ |refine A5 ?_ |refine A6 ?_ |((refine rR (fun K kp hK hkp=>?_));simp(implicitDefEqProofs:=false) (maxSteps:=2000000) (disch:=omega) only[go_sem,zk,hi,Ac,eI,z0,z1];(repeat' (refine hK _ ?_;clear hK hkp kp K))) |refine A3 rfl ?_ |refine A8 ?_));(refine A7 (by(simp(implicitDefEqProofs:=false) (maxSteps:=2000000) (disch:=omega) only[go_sem,results19]);rfl) ?_;refine eN hE ?_;simp[AG,ren,renL])
    ·have z1:(i≥(now.rows.length:Int))=False:=eq_false hi1
     rw[if_neg (by omega)] at hno;(repeat' (first |refine A0 ?_ |refine A5 ?_ |refine A6 ?_ |((refine rR (fun K kp hK hkp=>?_));simp(implicitDefEqProofs:=false) (maxSteps:=2000000) (disch:=omega) only[go_sem,zk,hi,Ac,eI,z0,z1];(repeat' (refine hK _ ?_;clear hK hkp kp K))) |refine A3 rfl ?_ |refine A4 rfl ?_))
     ((refine AJ (k+1) ?_ ?_ ?_);rotate_left;(·(try dsimp only);(omega));(·(refine AE hE [0,1,2] rfl ?_ ?_<;>simp[AU,AO,lk,ren,renL,A9,AL,Ac]<;>(try omega))))
     exact⟨by omega,hno⟩
  ·rw[List.drop_of_length_le (by omega),CX] at hno
   cases hno
 rw[if_neg (by simp)];have key:=Uz T HR now was hn hw sl hsl hs hr _ rfl _ rfl;split
 ·rename_i h
  rw[if_pos h] at key;rw[EP];exact Con.res key (fun w z th v hr=>ES Fo hr)
 ·rename_i h
  rw[if_neg h] at key;exact key
end Go.AM
namespace Go.AM
open Go Go.RowKit
open Go.Proofs.YtekljlenlbhmcaaGreatDoor (OP AY FY DT Aq An StrsAt str E6 DI digB bt AZ SA)
attribute [local irreducible] AWP Aw
set_option maxHeartbeats 4000000 in
theorem Qa (G:List (Nat×List Value))(t t':Bool)(l:List CO)(hl:l.length≤1048576):Con prog G 53 [.ro t 2 (l.map eC),.ro t' 2 (l.map eC)] [] 0 (Is (.r (.bool true)) [] 0) No:=by
 refine AA func53 rfl (by kernel_rfl) (of_decide_eq_true (by kernel_rfl)) ?_;intro E hG hE;subst hG;simp only[B9];(repeat' (first |refine A0 ?_ |refine A5 ?_ |refine A6 ?_ |((refine rR (fun K kp hK hkp=>?_));simp(implicitDefEqProofs:=false) (maxSteps:=2000000) (disch:=omega) only[go_sem,bne_self_eq_false];(repeat' (refine hK _ ?_;clear hK hkp kp K))) |refine A4 rfl ?_));refine AH (fun k:Nat=>⟨[(5,.r (.int .i64 k)),(0,.ro t 2 (l.map eC)),(1,.ro t' 2 (l.map eC))],[],0⟩) (fun k=>k≤l.length) (fun k=>l.length - k) 0 ?_ ?_ ?_
 ·simp
 ·(refine AE hE [] rfl ?_ ?_<;>simp[AU,AO,lk,ren,renL,A9,AL]<;>(try omega))
 intro k hk
 by_cases hlt:k<l.length
 ·obtain⟨x,hx⟩: ∃x,l[k]?=some x:=⟨l[k],by simp[hlt]⟩
  have d1:decide ((k:Int)<(l.length:Int))=true:=decide_eq_true (by omega);(repeat' (first |refine A0 ?_ |refine A5 ?_ |refine A6 ?_ |((first |refine rR (fun K kp hK hkp=>?_) |refine rD (id:=6) mixed 9 [0,1,2,3,4,5,6,7,8] (fun K kp hK hkp=>?_));simp(implicitDefEqProofs:=false) (maxSteps:=2000000) (disch:=omega) only[go_sem,hx,eC,d1,beq_self_eq_true,Bool.and_self,Bool.and_true,Bool.not_true];(repeat' (refine hK _ ?_;clear hK hkp kp K))) |refine A3 rfl ?_ |refine A4 rfl ?_))
  ((refine AJ (k+1) ?_ ?_ ?_);rotate_left;(·(try dsimp only);(omega));(·(refine AE hE [] rfl ?_ ?_<;>simp[AU,AO,lk,ren,renL,A9,AL]<;>(try omega))))
  omega
 ·have d1:decide ((k:Int)<(l.length:Int))=false:=decide_eq_false (by omega)
  (repeat' (first |refine A0 ?_ |refine AB ?_ |((refine rR (fun K kp hK hkp=>?_));simp(implicitDefEqProofs:=false) (maxSteps:=2000000) (disch:=omega) only[go_sem,d1];(repeat' (refine hK _ ?_;clear hK hkp kp K))) |refine A4 rfl ?_ |refine A8 ?_));(refine A7 (by(simp(implicitDefEqProofs:=false) (maxSteps:=2000000) (disch:=omega) only[go_sem,results53]);rfl) ?_;refine eN hE ?_;simp[AG,ren,renL])
end Go.AM
namespace Go.AM
open Go Go.RowKit
open Go.Proofs.YtekljlenlbhmcaaGreatDoor (AY AZ)
attribute [local irreducible] AWP Aw
theorem SZ (G:List (Nat×List Value))(t:Bool)(l:List Int)(hl:l.length≤1048576):Con prog G 20 [.ro t 1 (l.map eI)] [] 0 (Is (.ro true 1 (l.map eI)) [] 0) No:=by
 refine AA func20 rfl (by kernel_rfl) (of_decide_eq_true (by kernel_rfl)) ?_;intro E hG hE;subst hG;simp only[B9];(repeat' (first |refine A0 ?_ |((refine rR (fun K kp hK hkp=>?_));simp(implicitDefEqProofs:=false) (maxSteps:=2000000) (disch:=omega) only[go_sem];(repeat' (first |(refine hK _ ?_;clear hK hkp kp K) |(with_reducible refine And.intro ?_ ?_) |omega))) |refine A8 ?_));(refine A7 (by(simp(implicitDefEqProofs:=false) (maxSteps:=2000000) (disch:=omega) only[go_sem,results20]);rfl) ?_;refine Ar (by simp only[AG];simp(implicitDefEqProofs:=false) (maxSteps:=2000000) (disch:=omega) only[go_sem];rfl) ?_;refine(Al hE (by simp) ?_).s;simp[AG,ren,renL])
theorem HM (G:List (Nat×List Value))(b:TB)(ho:okTB b):Con prog G 22 [.agg (Ac b),.agg (Ac b)] [] 0 (Is (.r (.bool true)) [] 0) No:=by
 have cc:=Qa G true true b.cols ho.cl;have rc:=MH G b.rows ho.rl (fun r hr=>(ho.rs r hr).1);have tc:=MG G true true b.ps b.root ho.ps;have zn:(b.nm.toList==b.nm.toList)=true:=beq_self_eq_true _;refine AA func22 rfl (by kernel_rfl) (of_decide_eq_true (by kernel_rfl)) ?_;intro E hG hE;subst hG;simp only[B9];(repeat' (first |refine A0 ?_ |((first |refine rR (fun K kp hK hkp=>?_) |refine cR cc ?_ |refine cR rc ?_ |refine cR tc ?_);simp(implicitDefEqProofs:=false) (maxSteps:=2000000) (disch:=omega) only[go_sem,Ac,zn];(repeat' (refine hK _ ?_;clear hK hkp kp K))) |refine A8 ?_));(refine A7 (by(simp(implicitDefEqProofs:=false) (maxSteps:=2000000) (disch:=omega) only[go_sem,results22]);rfl) ?_;refine eN hE ?_;simp[AG,ren,renL])
set_option maxHeartbeats 8000000 in
theorem Rc (G:List (Nat×List Value))(now was:TB)(hn:okTB now)(hw:okTB was)(sl:List Int)(hsl:sl.length≤1048576)(hs:Ci now was=true)(us:List (List V))(hus:CD was.rows now.rows sl=us)(B:List PG×Int×Int)(hB:C8 [Lf] 0 0 us=B):
  Con prog G 21 [.agg (Ac now),.agg (Ac was),.ro true 1 (sl.map eI)] [] 0 (Is (if CX now.rows.length sl=false then .tup [.agg [.r (.string ⟨#[]⟩),.r (.slice none 0 0),.r (.slice none 0 0),.r (.slice none 0 0),.r (.int .i64 0)],.r (.int .i64 3)] else if B.2.2≠0 then .tup [.agg [.r (.string ⟨#[]⟩),.r (.slice none 0 0),.r (.slice none 0 0),.r (.slice none 0 0),.r (.int .i64 0)],.r (.int .i64 B.2.2)] else EP (⟨now.nm,now.cols,us,B.1,B.2.1⟩,0)) [] 0) No:=by
 have st:=GD G now was hn hw;have oc:=Hx G now hn;have hs':=hs;simp only[Ci,Bool.and_eq_true] at hs';obtain⟨h1,h2,h3,h4⟩:=hs';have hnl:=Hy h1;have hwl4:=Hy h2;have hcl:=hn.cl
 have huk: ∀r ∈ us,HQ r:=by rw[←hus];exact Eh (D0 hw h2) sl now.rows (D0 hn h1)
 have hul:us.length=now.rows.length:=by rw[←hus,Dh]
 rw[hs] at st;simp only[Ac] at st oc;generalize hrb:CX now.rows.length sl=b;refine AA func21 rfl (by kernel_rfl) (of_decide_eq_true (by kernel_rfl)) ?_;intro E hG hE;subst hG;simp only[B9];(repeat' (first |refine A0 ?_ |refine A5 ?_ |refine A6 ?_ |((first |refine rR (fun K kp hK hkp=>?_) |refine cR st ?_ |refine cR oc ?_);simp(implicitDefEqProofs:=false) (maxSteps:=2000000) (disch:=omega) only[go_sem,Ac];(repeat' (refine hK _ ?_;clear hK hkp kp K))) |refine A4 rfl ?_));clear st oc;refine AH (fun k:Nat=>⟨[(9,.r (.int .i64 k)),(8,.p 5 0 0),(7,.r (.int .i64 0)),(6,.p 2 0 0),(4,.p 1 0 0),(3,.p 0 0 0),(2,.ro true 1 (sl.map eI))],[(0,.box 35 (Ac now)),(1,.box 35 (Ac was)),(2,.box 35 [.r (.string ⟨#[]⟩),.r (.slice none 0 0),.r (.slice none 0 0),.r (.slice none 0 0),.r (.int .i64 0)]),(3,.lst 71 2 (now.cols.map eC)),(4,.lst 50 1 ((CD was.rows now.rows (sl.take k)).map Cu)),(5,.box 35 [.r (.string now.nm),.s 3 0 now.cols.length,.s 4 0 now.rows.length,.ro true 5 (now.ps.map eP),.r (.int .i64 now.root)])],6⟩) (fun k=>k≤sl.length∧CX now.rows.length (sl.drop k)=b) (fun k=>sl.length - k) 0 ?_ ?_ ?_
 ·exact⟨Nat.zero_le _,hrb⟩
 ·(refine AE hE [0,1,2,3,4,5] rfl ?_ ?_<;>simp[AU,AO,lk,ren,renL,A9,AL,Ac,CD]<;>(try omega))
 rintro k ⟨hk,hno⟩
 by_cases hlt:k<sl.length
 ·have zk:((k:Int)<(sl.length:Int))=True:=eq_true (by omega)
  obtain⟨i,hi⟩: ∃i,sl[k]?=some i:=⟨_,List.getElem?_eq_getElem hlt⟩;have hU1:=Jk (was:=was.rows) (rows:=now.rows) hi;rw[Ij hi] at hno;have ic:=Fw E.G i 0 ((now.rows.length:Int) - 1)
  by_cases hir:i<0∨(now.rows.length:Int)≤i
  ·rw[if_pos hir] at hno
   subst hno
   have hq:(decide (0≤i)&&decide (i≤(now.rows.length:Int) - 1))=false:=by
    rw[Bool.and_eq_false_iff,decide_eq_false_iff_not,decide_eq_false_iff_not];omega
   rw[hq] at ic;rw[if_pos rfl];(repeat' (first |refine A0 ?_ |refine A5 ?_ |refine A6 ?_ |((first |refine rR (fun K kp hK hkp=>?_) |refine rD (id:=7) mixed 10 [0,1,2,3,4,5,6,7,8,9] (fun K kp hK hkp=>?_) |refine cD ic ?_);simp(implicitDefEqProofs:=false) (maxSteps:=2000000) (disch:=omega) only[go_sem,zk,hi,Ac,eI];(repeat' (refine hK _ ?_;clear hK hkp kp K))) |refine A3 rfl ?_ |refine A8 ?_));(refine A7 (by(simp(implicitDefEqProofs:=false) (maxSteps:=2000000) (disch:=omega) only[go_sem,results21]);rfl) ?_;refine eN hE ?_;simp[AG,ren,renL])
  ·rw[if_neg hir] at hno
   have hq:(decide (0≤i)&&decide (i≤(now.rows.length:Int) - 1))=true:=by
    rw[Bool.and_eq_true,decide_eq_true_eq,decide_eq_true_eq];omega
   rw[hq] at ic;obtain⟨m,rfl⟩: ∃m:Nat,i=(m:Int):=⟨i.toNat,by omega⟩
   have hm:m<now.rows.length:=by omega
   rw[Int.toNat_natCast] at hU1;have hUl:=Dh was.rows (sl.take k) now.rows;generalize CD was.rows now.rows (sl.take k)=U at *;have zm:((m:Int)<(now.rows.length:Int))=True:=eq_true (by omega)
   have zm2:m<U.length:=by omega
   obtain⟨u0,hu0⟩: ∃u0,U[m]?=some u0:=⟨_,List.getElem?_eq_getElem zm2⟩;have sc:=Oe E.G was m (by omega) hw.rl;obtain⟨y,hy⟩: ∃y,Dq was.rows m=y:=⟨_,rfl⟩
   have hyl:y.length≤1048576:=by
    rw[←hy];exact(Jq (D0 hw h2) m).1.1
   rw[hy] at sc hU1;simp only[Ac] at sc;have vc:=Dm E.G true y hyl;(repeat' (first |refine A0 ?_ |refine A5 ?_ |refine A6 ?_ |((first |refine rR (fun K kp hK hkp=>?_) |refine rD (id:=7) mixed 10 [0,1,2,3,4,5,6,7,8,9] (fun K kp hK hkp=>?_) |refine rD (id:=9) mixed 7 [0,1,2,3,4,5,6] (fun K kp hK hkp=>?_) |refine rD (id:=10) mixed 9 [0,1,2,3,4,5,6,7,8] (fun K kp hK hkp=>?_) |refine cD ic ?_ |refine cD sc ?_ |refine cD vc ?_);simp(implicitDefEqProofs:=false) (maxSteps:=2000000) (disch:=omega) only[go_sem,zk,zm,hi,hu0,hUl,Ac,eI,Cu,Value.oneCell'];(repeat' (refine hK _ ?_;clear hK hkp kp K))) |refine A3 rfl ?_ |refine A4 rfl ?_))
   ((refine AJ (k+1) ?_ ?_ ?_);rotate_left;(·(try dsimp only);(omega));(·(refine AE hE [0,1,2,3,4,5] rfl ?_ ?_<;>simp[AU,AO,lk,ren,renL,A9,AL,Ac,hU1,List.map_set,List.set_set,Cu]<;>(try omega))))
   exact⟨by omega,hno⟩
 have zk:((k:Int)<(sl.length:Int))=False:=eq_false (by omega)
 obtain rfl:k=sl.length:=by omega
 rw[List.drop_of_length_le (Nat.le_refl _),CX] at hno;subst hno;rw[if_neg (by simp),List.take_length,hus];(repeat' (first |refine A0 ?_ |refine A5 ?_ |refine AB ?_ |((first |refine rR (fun K kp hK hkp=>?_) |refine cR (RB _) ?_);simp(implicitDefEqProofs:=false) (maxSteps:=2000000) (disch:=omega) only[go_sem,zk,Ac];(repeat' (refine hK _ ?_;clear hK hkp kp K))) |refine A4 rfl ?_));clear zk hk hlt hus hrb;have h0B:BG [Lf]:=IB;refine AH (fun(q:Nat×List PG×Int)=>⟨[(11,.r (.int .i64 q.1)),(8,.p 5 0 0),(7,.r (.int .i64 0)),(6,.p 2 0 0)],[(0,.box 35 (Ac now)),(1,.box 35 (Ac was)),(2,.box 35 [.r (.string ⟨#[]⟩),.r (.slice none 0 0),.r (.slice none 0 0),.r (.slice none 0 0),.r (.int .i64 0)]),(3,.lst 71 2 (now.cols.map eC)),(4,.lst 50 1 (us.map Cu)),(5,.box 35 [.r (.string now.nm),.s 3 0 now.cols.length,.s 4 0 now.rows.length,.ro true 5 (q.2.1.map eP),.r (.int .i64 q.2.2)])],6⟩) (fun q=>q.1≤us.length∧BG q.2.1∧C8 q.2.1 q.2.2 q.1 (us.drop q.1)=B) (fun q=>us.length - q.1) (0,[Lf],0) ?_ ?_ ?_
 ·exact⟨Nat.zero_le _,h0B,hB⟩
 ·(refine AE hE [0,1,2,3,4,5] rfl ?_ ?_<;>simp[AU,AO,lk,ren,renL,A9,AL,Ac]<;>(try omega))
 rintro⟨k,ps,root⟩ ⟨hk,hps,hb⟩;simp only at hk hps hb
 by_cases hlt:k<us.length
 ·have zk:((k:Int)<(now.rows.length:Int))=True:=eq_true (by omega)
  obtain⟨x,hx⟩: ∃x,us[k]?=some x:=⟨_,List.getElem?_eq_getElem hlt⟩;obtain⟨⟨ho1,ho2⟩,hkx⟩:=huk x (List.mem_of_getElem? hx);rw[J9 hx] at hb
  by_cases hx0:x.length=0
  ·have zx:((x.length:Int)==0)=true:=by simp[hx0]
   rw[if_pos hx0] at hb;(repeat' (first |refine A0 ?_ |refine A5 ?_ |refine A6 ?_ |refine AB ?_ |((refine rR (fun K kp hK hkp=>?_));simp(implicitDefEqProofs:=false) (maxSteps:=2000000) (disch:=omega) only[go_sem,zk,hx,hul,Ac,Cu,zx];(repeat' (refine hK _ ?_;clear hK hkp kp K))) |refine A3 rfl ?_))
   ((refine AJ ((k+1,ps,root)) ?_ ?_ ?_);rotate_left;(·(try dsimp only);(omega));(·(refine AE hE [0,1,2,3,4,5] rfl ?_ ?_<;>simp[AU,AO,lk,ren,renL,A9,AL,Ac]<;>(try omega))))
   exact⟨by omega,hps,hb⟩
  ·have zx:((x.length:Int)==0)=false:=by rw[beq_eq_false_iff_ne];omega
   rw[if_neg hx0] at hb;obtain⟨l,hl⟩:=hkx.resolve_left hx0;obtain⟨v,s,hvs,he,hkb⟩:=JX hl;have key:=NZ E.G true x (C9 x) ho1 (by omega) ho2 he;have ic:=Mc E.G true true ps root (C9 x) (k:Int) hps (Ge ps root (C9 x) (k:Int)) (Mf ps root (C9 x) (k:Int)) (fun h0 r d e h=>Me ps root (C9 x) (k:Int) h0 r d e h);have hps2:=Md hps root (C9 x) (k:Int);generalize Ge ps root (C9 x) (k:Int)=X at *;obtain⟨X1,X2,X3⟩:=X;rw[Gn] at ic;simp only at ic hb hps2
   by_cases hX:X3=0
   ·have zX:(X3 !=0)=false:=by simp[hX]
    rw[if_neg (by simp[hX])] at hb;(repeat' (first |refine A0 ?_ |refine A5 ?_ |refine A6 ?_ |((first |refine rR (fun K kp hK hkp=>?_) |refine cR key ?_ |refine cR ic ?_);simp(implicitDefEqProofs:=false) (maxSteps:=2000000) (disch:=omega) only[go_sem,zk,hx,hul,Ac,Cu,zx,zX];(repeat' (refine hK _ ?_;clear hK hkp kp K))) |refine A3 rfl ?_ |refine A4 rfl ?_))
    ((refine AJ ((k+1,X1,X2)) ?_ ?_ ?_);rotate_left;(·(try dsimp only);(omega));(·(refine AE hE [0,1,2,3,4,5] rfl ?_ ?_<;>simp[AU,AO,lk,ren,renL,A9,AL,Ac]<;>(try omega))))
    exact⟨by omega,hps2,hb⟩
   ·have zX:(X3 !=0)=true:=by simp[hX]
    rw[if_pos hX] at hb;subst hb;rw[if_pos hX];(repeat' (first |refine A0 ?_ |refine A5 ?_ |refine A6 ?_ |((first |refine rR (fun K kp hK hkp=>?_) |refine cR key ?_ |refine cR ic ?_);simp(implicitDefEqProofs:=false) (maxSteps:=2000000) (disch:=omega) only[go_sem,zk,hx,hul,Ac,Cu,zx,zX];(repeat' (refine hK _ ?_;clear hK hkp kp K))) |refine A3 rfl ?_ |refine A4 rfl ?_ |refine A8 ?_));(refine A7 (by(simp(implicitDefEqProofs:=false) (maxSteps:=2000000) (disch:=omega) only[go_sem,results21]);rfl) ?_;refine eN hE ?_;simp[AG,ren,renL])
 ·have zk:((k:Int)<(now.rows.length:Int))=False:=eq_false (by omega)
  rw[List.drop_of_length_le (by omega),C8] at hb;subst hb;rw[if_neg (by simp),EP,Ac];have tk:(us.map Cu).take now.rows.length=us.map Cu:=List.take_of_length_le (Nat.le_of_eq (by rw[List.length_map,hul]));(repeat' (first |refine A0 ?_ |refine AB ?_ |((refine rR (fun K kp hK hkp=>?_));simp(implicitDefEqProofs:=false) (maxSteps:=2000000) (disch:=omega) only[go_sem,zk,Ac];(repeat' (refine hK _ ?_;clear hK hkp kp K))) |refine A4 rfl ?_ |refine A8 ?_));(refine A7 (by(simp(implicitDefEqProofs:=false) (maxSteps:=2000000) (disch:=omega) only[go_sem,results21,tk,Ac]);rfl) ?_;refine Ar (by simp only[AG];simp(implicitDefEqProofs:=false) (maxSteps:=2000000) (disch:=omega) only[go_sem,tk,Ac];rfl) ?_;refine(Al hE (by simp) ?_).s;simp[AG,ren,renL,tk,Ac])
theorem OX (G:List (Nat×List Value))(now was:TB)(hn:okTB now)(hw:okTB was)(sl:List Int)(hsl:sl.length≤1048576):Con prog G 21 [.agg (Ac now),.agg (Ac was),.ro true 1 (sl.map eI)] [] 0 (Is (EP (Gx now was sl)) [] 0) No:=by
 cases hs:Ci now was
 ·rw[Gx,if_pos hs,EP]
  refine Con.res (y:= .tup [.agg [.r (.string ⟨#[]⟩),.r (.slice none 0 0),.r (.slice none 0 0),.r (.slice none 0 0),.r (.int .i64 0)],.r (.int .i64 11)]) ?_ (fun w z th v hr=>ES Fo hr);have st:=GD G now was hn hw;rw[hs] at st;simp only[Ac] at st;refine AA func21 rfl (by kernel_rfl) (of_decide_eq_true (by kernel_rfl)) ?_;intro E hG hE;subst hG;simp only[B9];(repeat' (first |refine A0 ?_ |((first |refine rR (fun K kp hK hkp=>?_) |refine cR st ?_);simp(implicitDefEqProofs:=false) (maxSteps:=2000000) (disch:=omega) only[go_sem,Ac];(repeat' (refine hK _ ?_;clear hK hkp kp K))) |refine A3 rfl ?_ |refine A8 ?_));(refine A7 (by(simp(implicitDefEqProofs:=false) (maxSteps:=2000000) (disch:=omega) only[go_sem,results21]);rfl) ?_;refine eN hE ?_;simp[AG,ren,renL])
 have key:=Rc G now was hn hw sl hsl hs _ rfl _ rfl;rw[Gx,if_neg (by simp[hs])];split
 ·rename_i h
  rw[if_pos h] at key;rw[EP];exact Con.res key (fun w z th v hr=>ES Fo hr)
 ·rename_i h
  rw[if_neg h] at key;split
  ·rename_i h
   rw[if_pos h] at key;rw[EP];exact Con.res key (fun w z th v hr=>ES Fo hr)
  ·rename_i h
   rw[if_neg h] at key;exact key
theorem HO {G:List (Nat×List Value)}(T:Tabs G)(HR:Fl G)(now was:TB)(hn:okTB now)(hw:okTB was)(sl:List Int)(hsl:sl.length≤1048576):Con prog G 6 [.agg (Ac now),.agg (Ac was),.ro true 1 (sl.map eI)] [] 0 (Is (.r (.bool true)) [] 0) No:=by
 have c1:=GA G was hw;have c2:=GA G now hn;have nc:=SZ G true sl (by omega);have pc:=Rd T HR now was hn hw sl hsl;have rc:=OX G now was hn hw sl hsl;have hok:=Re hn hw sl;generalize Gx now was sl=R at *;obtain⟨R1,R2⟩:=R;have sc:=HM G R1 hok;have sn:=HM G now hn;rw[EP] at pc rc;simp only[Ac] at c1 c2 pc rc sc sn;refine AA func6 rfl (by kernel_rfl) (of_decide_eq_true (by kernel_rfl)) ?_;intro E hG hE;subst hG;simp only[B9];(repeat' (first |refine A0 ?_ |((first |refine rR (fun K kp hK hkp=>?_) |refine rU (id:=2) mixed 10 [⟨0,0,[],[(0,1)]⟩,⟨0,0,[],[(0,1)]⟩,⟨0,0,[1],[(0,1)]⟩,⟨0,0,[],[(0,1)]⟩,⟨0,0,[1,2,3],[(0,1)]⟩,⟨0,0,[0,1,2,3,4],[(0,1)]⟩,⟨0,0,[0,1,2,3,4,5],[(0,1)]⟩,⟨0,0,[0,1,2,3,4,5,6],[(0,1)]⟩,⟨0,0,[0,1,2,3,4,5,6],[(0,1)]⟩,⟨0,1,[],[]⟩] 1 [15,16,17,18,19,20,14,21,22,8] [8] (fun K kp hK hkp=>?_) |refine cU c1 ?_ |refine cR c2 ?_ |refine cU nc ?_ |refine cU pc ?_ |refine cR rc ?_ |refine cR sc ?_ |refine cR sn ?_);simp(implicitDefEqProofs:=false) (maxSteps:=2000000) (disch:=omega) only[go_sem,beq_self_eq_true,Ac];(repeat' (refine hK _ ?_;clear hK hkp kp K))) |refine A8 ?_));(refine A7 (by(simp(implicitDefEqProofs:=false) (maxSteps:=2000000) (disch:=omega) only[go_sem,results6]);rfl) ?_;refine eN hE ?_;simp[AG,ren,renL])
end Go.AM
namespace Go.Proofs.YtekljlenlbhmcaaGreatDoor
open Go.ChangeShapes Go.WideShapes Go.ChangeAt Go.RowKit
theorem own:ownKnob Tryz.prog.godebug=none:=by kernel_rfl
theorem M_:laidOutB Tryz.prog=true:=by kernel_rfl
end Go.Proofs.YtekljlenlbhmcaaGreatDoor
namespace Go.Proofs.YtekljlenlbhmcaaGreatDoor
open Go.ChangeShapes Go.WideShapes Go.ChangeAt Go.RowKit Go.AM
theorem Sz {H:Type}(d:DataW H):1≤Rows.uptoBulk d:=by
 cases d with
 |lit l=>cases l<;>simp[Rows.uptoBulk]
 |nil=>simp[Rows.uptoBulk]
 |ptr d=>simp[Rows.uptoBulk]
 |slice elems spare=>simp[Rows.uptoBulk]
 |agg parts=>simp[Rows.uptoBulk]
 |iface t d=>simp[Rows.uptoBulk]
 |map entries=>simp[Rows.uptoBulk]
 |held h=>simp[Rows.uptoBulk]
theorem J8 {H:Type}: ∀l:List (DataW H),l.length≤Rows.uptoBulkAll l
 | []=>by simp[Rows.uptoBulkAll]
 |x::r=>by have:=Sz x;have:=J8 r;simp only[Rows.uptoBulkAll,List.length_cons];omega
theorem PY {H:Type}(ds rest:List (DataW H)):ds.length+1≤Rows.uptoBulk (.slice ds rest):=by
 have:=J8 ds;simp only[Rows.uptoBulk];omega
theorem PZ {H:Type}{l:List (DataW H)}(hk:Rows.uptoSmall H l=true):Rows.uptoBulkAll l≤1048576:=of_decide_eq_true hk
theorem Dg {H α:Type}{l:List α}{R:α→DataW H→Prop}{d:DataW H}(h:(l=[]∧d= .nil)∨ ∃ds rest,d= .slice ds rest∧ds.length=l.length∧ ∀(i:Nat) y,l[i]?=some y→ ∃d,ds[i]?=some d∧R y d):l.length≤Rows.uptoBulk d:=by
 rcases h with ⟨rfl,_⟩ |⟨ds,rest,rfl,h,_⟩
 ·exact Nat.zero_le _
 ·have:=PY ds rest;omega
end Go.Proofs.YtekljlenlbhmcaaGreatDoor
namespace Go.Proofs.YtekljlenlbhmcaaGreatDoor
open Go.ChangeShapes Go.WideShapes Go.ChangeAt Go.RowKit Go.AM
theorem Py {H:Type}{E:TypeId×Value→H}{w:World}{base:Nat}{spare:Nat→Bool}{held:Bool}(fuel:Nat)(cs:List Value)(x:DataW H×List MemPlace)
  (h:DataW.trod E Tryz.prog w base spare held fuel 5 cs=some x): ∃y:UInt8,Reps w (G4 w) [] (AC y) cs∧(∀v ∈ cs,v.oneCell'=true)∧True:=by
 obtain⟨n,rfl,_,wf⟩:=DataW.trod_int Tryz.underlying5 h
 have hb:0≤n∧n≤255:=by simpa[Lit.wf,IntKind.min,IntKind.max,IntKind.signed,IntKind.bits] using wf
 refine⟨UInt8.ofNat n.toNat,?_,by simp[Value.oneCell'],trivial⟩
 have:((UInt8.ofNat n.toNat).toNat:Int)=n:=by
  rw[UInt8.toNat_ofNat_of_lt' (by simp[UInt8.size];omega)];omega
 rw[AC,this];exact Yj (.r _ _)
end Go.Proofs.YtekljlenlbhmcaaGreatDoor
namespace Go.Proofs.YtekljlenlbhmcaaGreatDoor
open Go.ChangeShapes Go.WideShapes Go.ChangeAt Go.RowKit Go.AM
theorem Hj {H:Type}: ∀ {l:List (DataW H)}{d:DataW H},d ∈ l→Rows.uptoBulk d≤Rows.uptoBulkAll l
 |x::r,d,h=>by
  rcases List.mem_cons.1 h with rfl |h
  ·simp only[Rows.uptoBulkAll];omega
  ·have:=Hj h;simp only[Rows.uptoBulkAll];omega
theorem T1 {H α:Type}{l:List α}{f:α→Nat}{d:DataW H}(h:(l=[]∧d= .nil)∨ ∃ds rest,d= .slice ds rest∧ds.length=l.length∧ ∀(i:Nat) y,l[i]?=some y→ ∃d,ds[i]?=some d∧f y≤Rows.uptoBulk d): ∀y ∈ l,f y≤Rows.uptoBulk d:=by
 intro c hc;obtain⟨i,hi⟩:=List.mem_iff_getElem?.1 hc
 rcases h with ⟨rfl,_⟩ |⟨ds,rest,rfl,_,h6⟩
 ·simp at hi
 ·obtain⟨d,h1,h2⟩:=h6 i c hi
  have:=Hj (List.mem_of_getElem? h1);simp only[Rows.uptoBulk];omega
theorem QE:Tryz.prog.cellsOf 5=1:=by kernel_rfl
theorem QH:Tryz.prog.cellsOf 81=1:=by kernel_rfl
theorem Jc:Tryz.prog.cellsOf 3=1:=by kernel_rfl
theorem Ll {H:Type}{E:TypeId×Value→H}{w:World}{base:Nat}{spare:Nat→Bool}{held:Bool}(fuel:Nat)(cs:List Value)(x:DataW H×List MemPlace)
  (h:DataW.trod E Tryz.prog w base spare held fuel 3 cs=some x): ∃y:Int,Reps w (G4 w) [] (eI y) cs∧(∀v ∈ cs,v.oneCell'=true)∧True:=by
 obtain⟨n,rfl,_,_⟩:=DataW.trod_int Tryz.underlying3 h;exact⟨n,.cons (.r _ _) .nil,by simp[Value.oneCell'],trivial⟩
theorem Tu {H:Type}{E:TypeId×Value→H}{w:World}{base:Nat}{spare:Nat→Bool}{held:Bool}(fuel:Nat)(cs:List Value)(x:DataW H×List MemPlace)
  (h:DataW.trod E Tryz.prog w base spare held fuel 81 cs=some x): ∃y:Ky,Reps w (G4 w) [] (Aj y) cs∧(∀v ∈ cs,v.oneCell'=true)∧y.length≤Rows.uptoBulk x.1:=by
 obtain⟨u,l,h1,h2,h4,h3⟩:=DZ AC (fun _ _=>True) true Tryz.underlying81 QE (by omega) Py h;subst h1;exact⟨l,.cons h2 .nil,by simpa using h4,Dg h3⟩
theorem SU {α:Type}{l:List α}(h:l.length=5): ∃a b c d e,l=[a,b,c,d,e]:=by
 match l,h with
 | [a,b,c,d,e],_=>exact⟨a,b,c,d,e,rfl⟩
def LJ (p:PG)(n:Nat):Prop:=p.keys.length≤n∧p.kids.length≤n∧p.high.length≤n∧ ∀k ∈ p.keys,k.length≤n
theorem QG:Tryz.prog.cellsOf 131=5:=by kernel_rfl
theorem Ts {H:Type}{E:TypeId×Value→H}{w:World}{base:Nat}{spare:Nat→Bool}{held:Bool}(fuel:Nat)(cs:List Value)(x:DataW H×List MemPlace)
  (h:DataW.trod E Tryz.prog w base spare held fuel 131 cs=some x): ∃y:PG,Reps w (G4 w) [] (eP y) cs∧(∀v ∈ cs,v.oneCell'=true)∧LJ y (Rows.uptoBulk x.1):=by
 obtain⟨xs,n,_,hx,hl,hxl,hff⟩:=DataW.trod_struct Tryz.underlying131 h;rw[QG] at hl;obtain⟨c0,c1,c2,c3,c4,rfl⟩:=SU hl;obtain⟨x0,x1,x2,x3,x4,rfl⟩:=SU (l:=xs) hxl
 have cb:Tryz.prog.cellsOf 4=1:=by kernel_rfl
 have ck:Tryz.prog.cellsOf 129=1:=by kernel_rfl
 have ci:Tryz.prog.cellsOf 36=1:=by kernel_rfl
 have h0:DataW.trod E Tryz.prog w base spare held n 4 (([c0,c1,c2,c3,c4].drop 0).take (Tryz.prog.cellsOf 4))=some x0:=hff 0 _ rfl;rw[cb] at h0;have h1:DataW.trod E Tryz.prog w base spare held n 129 (([c0,c1,c2,c3,c4].drop 1).take (Tryz.prog.cellsOf 129))=some x1:=hff 1 _ rfl;rw[ck] at h1;have h2:DataW.trod E Tryz.prog w base spare held n 36 (([c0,c1,c2,c3,c4].drop 2).take (Tryz.prog.cellsOf 36))=some x2:=hff 2 _ rfl;rw[ci] at h2;have h3:DataW.trod E Tryz.prog w base spare held n 81 (([c0,c1,c2,c3,c4].drop 3).take (Tryz.prog.cellsOf 81))=some x3:=hff 3 _ rfl;rw[QH] at h3;have h4:DataW.trod E Tryz.prog w base spare held n 3 (([c0,c1,c2,c3,c4].drop 4).take (Tryz.prog.cellsOf 3))=some x4:=hff 4 _ rfl;rw[Jc] at h4;obtain⟨lf,e0,_⟩:=DataW.trod_bool Tryz.underlying4 h0;obtain⟨u1,lk,e1,r1,o1,g1⟩:=DZ Aj (fun y d=>y.length≤Rows.uptoBulk d) true Tryz.underlying129 QH (by omega) Tu h1;obtain⟨u2,li,e2,r2,o2,g2⟩:=DZ eI (fun _ _=>True) true Tryz.underlying36 Jc (by omega) Ll h2;obtain⟨u3,lh,e3,r3,o3,g3⟩:=DZ AC (fun _ _=>True) true Tryz.underlying81 QE (by omega) Py h3;obtain⟨nx,e4,_,_⟩:=DataW.trod_int Tryz.underlying3 h4;simp at e0 e1 e2 e3 e4;subst e0 e1 e2 e3 e4
 refine⟨⟨lf,lk,li,lh,nx⟩,.cons (.r _ _) (.cons r1 (.cons r2 (.cons r3 (.cons (.r _ _) .nil)))),(by
  intro v hv;simp only[List.mem_cons,List.not_mem_nil,or_false] at hv
  rcases hv with rfl |rfl |rfl |rfl |rfl<;>first |rfl |assumption),?_⟩
 rw[hx];have b1:=Dg g1;have b2:=Dg g2;have b3:=Dg g3;have b4:=T1 g1;simp only[List.map_cons,List.map_nil,Rows.uptoBulk,Rows.uptoBulkAll];exact⟨by simp only;omega,by simp only;omega,by simp only;omega,fun k hk=>by have:=b4 k hk;omega⟩
theorem QF:Tryz.prog.cellsOf 33=2:=by kernel_rfl
end Go.Proofs.YtekljlenlbhmcaaGreatDoor
namespace Go.Proofs.YtekljlenlbhmcaaGreatDoor
open Go.ChangeShapes Go.WideShapes Go.ChangeAt Go.RowKit
theorem W9 {P:Program}{w:World}{t e:TypeId}{n fuel:Nat}{cs:List Value}{ls:List (List UInt8)}{p:List MemPlace}{base:Nat}{spare:Nat→Bool}{held:Bool}
  (ht:P.underlying t=some (.array n e)) (he:P.underlying e=some .string) (hce:P.cellsOf e=1)
  (h:DataW.trod (fun _=>()) P w base spare held fuel t cs=some (.agg (ls.map fun l=> .lit (.string l)),p)):
  ls.length=n∧ ∀j:Nat,j<n→cs[j]?=some (.string (str (ls.getD j []))):=by
 obtain⟨xs,m',rfl,hx,hl,hn,hi⟩:=DataW.trod_array ht h;simp only[Prod.mk.injEq,DataW.agg.injEq] at hx
 have hlen:ls.length=n:=by
  have:=congrArg List.length hx.1;simpa[hn] using this
 refine⟨hlen,fun j hj=>?_⟩;have h1:=hi j hj;obtain⟨y,hy⟩: ∃y,xs[j]?=some y:=⟨xs[j],by simp[hn,hj]⟩;rw[hy] at h1;obtain⟨s,e1,rfl,_⟩:=DataW.trod_string he h1;have h2:=congrArg (fun l=>l[j]?) hx.1;simp only[List.getElem?_map,hy,Option.map_some] at h2
 have hj':j<ls.length:=by omega
 rw[List.getElem?_eq_getElem hj'] at h2;simp only[Option.map_some,Option.some.injEq,DataW.lit.injEq,Lit.string.injEq] at h2;rw[hce] at e1;have h4:=congrArg (fun l=>l[0]?) e1;simp at h4;rw[h4]
 have:s=str (ls.getD j []):=by
  rw[List.getD,List.getElem?_eq_getElem hj',Option.getD_some,h2]
  rfl
 rw[this]
def MS:List (List UInt8):=[[60,61],[62,61],[60,62],[40],[41],[44],[42],[43],[45],[61],[60],[62]]
theorem Si:Tryz.prog.globalNamed "padlock/lex.marks" =some 2:=by kernel_rfl
theorem UB:(Tryz.prog.globals[2]?).map (·.type)=some 228:=by kernel_rfl
theorem Ox {W:World}{rest:List (String×DataW Unit)}{ps:List MemPlace}(h:DataW.LaidVars Tryz.prog W (("padlock/lex.marks",Rows.laid_padlock_lex_marks)::rest) ps):
  StrsAt W 2 Aq∧2<W.heap.size∧ ∃q,DataW.LaidVars Tryz.prog W rest q:=by
 obtain⟨g,t,cs,fuel,p,q,hg,ht,hvar,hd,hr,_⟩:=h;obtain rfl:=Option.some.inj (Si.symm.trans hg);obtain rfl:=Option.some.inj (UB.symm.trans ht);have e:(Rows.laid_padlock_lex_marks:DataW Unit)= .agg (MS.map fun l=> .lit (.string l)):=rfl;rw[e] at hd;obtain⟨h1,h2⟩:=W9 Tryz.underlying228 Tryz.underlying9 (by kernel_rfl) hd
 have hc: ∀j:Nat,j<12→W.cell? ⟨2,j,none⟩=some (.string (str (MS.getD j []))):=fun j hj=>by
  rw[World.var?_cell Si hvar];have:=h2 j hj
  rwa [Array.getElem?_toList] at this
 refine⟨fun j hj=>?_,?_,q,hr⟩
 ·rw[hc j hj]
  have:Aq=MS.map str:=rfl;rw[this,List.getD,List.getD,List.getElem?_map,List.getElem?_eq_getElem (show j<MS.length from hj)]
  rfl
 ·have h0:=hc 0 (by decide)
  rcases Nat.lt_or_ge 2 W.heap.size with h |h
  ·exact h
  ·simp[World.cell?,Array.getElem?_eq_none h] at h0
end Go.Proofs.YtekljlenlbhmcaaGreatDoor
namespace Go.Proofs.YtekljlenlbhmcaaGreatDoor
open Go.ChangeShapes Go.WideShapes Go.ChangeAt Go.RowKit
theorem Sf:Tryz.prog.globalNamed "padlock/parse.words" =some 0:=by kernel_rfl
theorem U9:(Tryz.prog.globals[0]?).map (·.type)=some 181:=by kernel_rfl
theorem OW {W:World}{rest:List (String×DataW Unit)}{ps:List MemPlace}(h:DataW.LaidVars Tryz.prog W (("padlock/parse.words",Rows.laid_padlock_parse_words)::rest) ps):
  StrsAt W 0 An∧0<W.heap.size∧ ∃q,DataW.LaidVars Tryz.prog W rest q:=by
 obtain⟨g,t,cs,fuel,p,q,hg,ht,hvar,hd,hr,_⟩:=h;obtain rfl:=Option.some.inj (Sf.symm.trans hg);obtain rfl:=Option.some.inj (U9.symm.trans ht);have e:(Rows.laid_padlock_parse_words:DataW Unit)= .agg (Hu.map fun l=> .lit (.string l)):=rfl;rw[e] at hd;obtain⟨h1,h2⟩:=W9 Tryz.underlying181 Tryz.underlying9 (by kernel_rfl) hd
 have hc: ∀j:Nat,j<30→W.cell? ⟨0,j,none⟩=some (.string (str (Hu.getD j []))):=fun j hj=>by
  rw[World.var?_cell Sf hvar];have:=h2 j hj
  rwa [Array.getElem?_toList] at this
 refine⟨fun j hj=>?_,?_,q,hr⟩
 ·rw[hc j hj]
  have:An=Hu.map str:=rfl;rw[this,List.getD,List.getD,List.getElem?_map,List.getElem?_eq_getElem (show j<Hu.length from hj)]
  rfl
 ·have h0:=hc 0 (by decide)
  rcases Nat.lt_or_ge 0 W.heap.size with h |h
  ·exact h
  ·simp[World.cell?,Array.getElem?_eq_none h] at h0
end Go.Proofs.YtekljlenlbhmcaaGreatDoor
namespace Go.Proofs.YtekljlenlbhmcaaGreatDoor
open Go.ChangeShapes Go.WideShapes Go.ChangeAt Go.RowKit Go.AM
def OZ:List (List UInt8):=[[],[66,79,79,76],[73,78,84],[84,69,88,84]]
theorem Sg:Tryz.prog.globalNamed "padlock/parse.types" =some 1:=by kernel_rfl
theorem UA:(Tryz.prog.globals[1]?).map (·.type)=some 206:=by kernel_rfl
theorem OY {W:World}{rest:List (String×DataW Unit)}{ps:List MemPlace}(h:DataW.LaidVars Tryz.prog W (("padlock/parse.types",Rows.laid_padlock_parse_types)::rest) ps):
  (∀j:Nat,j<4→W.cell? ⟨1,j,none⟩=some (.string (str (OZ.getD j []))))∧1<W.heap.size∧ ∃q,DataW.LaidVars Tryz.prog W rest q:=by
 obtain⟨g,t,cs,fuel,p,q,hg,ht,hvar,hd,hr,_⟩:=h;obtain rfl:=Option.some.inj (Sg.symm.trans hg);obtain rfl:=Option.some.inj (UA.symm.trans ht);have e:(Rows.laid_padlock_parse_types:DataW Unit)= .agg (OZ.map fun l=> .lit (.string l)):=rfl;rw[e] at hd;obtain⟨h1,h2⟩:=W9 Tryz.underlying206 Tryz.underlying9 (by kernel_rfl) hd
 have hc: ∀j:Nat,j<4→W.cell? ⟨1,j,none⟩=some (.string (str (OZ.getD j []))):=fun j hj=>by
  rw[World.var?_cell Sg hvar];have:=h2 j hj
  rwa [Array.getElem?_toList] at this
 refine⟨hc,?_,q,hr⟩;have h0:=hc 0 (by decide)
 rcases Nat.lt_or_ge 1 W.heap.size with h |h
 ·exact h
 ·simp[World.cell?,Array.getElem?_eq_none h] at h0
def GT:List (Nat×List Value):=[(1,Hv.map .string),(2,Aq.map .string),(0,An.map .string)]
theorem OD:Tryz.prog.cellsOf 71=2:=by kernel_rfl
theorem SW {H:Type}{E:TypeId×Value→H}{w:World}{base:Nat}{spare:Nat→Bool}{held:Bool}(fuel:Nat)(cs:List Value)(x:DataW H×List MemPlace)
  (h:DataW.trod E Tryz.prog w base spare held fuel 71 cs=some x): ∃y:CO,Reps w (G4 w) [] (eC y) cs∧(∀v ∈ cs,v.oneCell'=true)∧Gc y.nm:=by
 obtain⟨y0,y1,n,_,hl,h0,h1⟩:=trod_struct2 Tryz.underlying71 h;rw[OD] at hl
 obtain⟨c0,c1,rfl⟩: ∃a b,cs=[a,b]:=by
  match cs,hl with
  | [a,b],_=>exact⟨a,b,rfl⟩
 obtain⟨s,e0,_,w0⟩:=DataW.trod_string Tryz.underlying9 h0;obtain⟨k,e1,_,_⟩:=DataW.trod_int Tryz.underlying3 h1;rw[show Tryz.prog.cellsOf 9=1 by kernel_rfl] at e0;rw[show Tryz.prog.cellsOf 3=1 by kernel_rfl] at e1;simp at e0 e1;subst e0 e1;exact⟨⟨s,k⟩,.cons (.r _ _) (.cons (.r _ _) .nil),by simp[Value.oneCell'],w0⟩
end Go.Proofs.YtekljlenlbhmcaaGreatDoor
namespace Go.Proofs.YtekljlenlbhmcaaGreatDoor
open Go.ChangeShapes Go.WideShapes Go.ChangeAt Go.RowKit Go.AM
theorem OC:Tryz.prog.cellsOf 74=3:=by kernel_rfl
end Go.Proofs.YtekljlenlbhmcaaGreatDoor
namespace Go.Proofs.YtekljlenlbhmcaaGreatDoor
open Go.ChangeShapes Go.WideShapes Go.ChangeAt Go.RowKit Go.AM
theorem Vc {n:Int}(h:(Lit.int .i64 n).wf=true):Un n:=by
 simp only[Lit.wf,Bool.and_eq_true,decide_eq_true_eq] at h;exact⟨h.1,h.2⟩
theorem Qv {H:Type}{E:TypeId×Value→H}{w:World}{base:Nat}{spare:Nat→Bool}{held:Bool}(fuel:Nat)(cs:List Value)(x:DataW H×List MemPlace)
  (h:DataW.trod E Tryz.prog w base spare held fuel 74 cs=some x): ∃y:V,Reps w (G4 w) [] (eV y) cs∧(∀v ∈ cs,v.oneCell'=true)∧gV y:=by
 obtain⟨y0,y1,y2,n,_,hl,h0,h1,h2⟩:=Deep.trod_struct3 Tryz.underlying74 h;rw[OC] at hl
 obtain⟨c0,c1,c2,rfl⟩: ∃a b c,cs=[a,b,c]:=by
  match cs,hl with
  | [a,b,c],_=>exact⟨a,b,c,rfl⟩
 obtain⟨k,e0,_,_⟩:=DataW.trod_int Tryz.underlying3 h0;obtain⟨m,e1,_,wm⟩:=DataW.trod_int Tryz.underlying3 h1;obtain⟨s,e2,_,w0⟩:=DataW.trod_string Tryz.underlying9 h2;rw[show Tryz.prog.cellsOf 3=1 by kernel_rfl] at e0 e1;rw[show Tryz.prog.cellsOf 9=1 by kernel_rfl] at e2;simp at e0 e1 e2;subst e0 e1 e2;exact⟨⟨k,m,s⟩,.cons (.r _ _) (.cons (.r _ _) (.cons (.r _ _) .nil)),by simp[Value.oneCell'],w0,Vc wm⟩
theorem Ow (W:World)(h:W.ShapedOpen Tryz.prog): ∃m,W.cell? ⟨3,0,none⟩=some (.int .i64 m):=
 Go.Proofs.cell_of_shapedOpen_int (zero:= #[.int .i64 0]) (t:=3) h (of_decide_eq_true (by kernel_rfl)) (by kernel_rfl) rfl (by kernel_rfl) (by kernel_rfl) Tryz.underlying3
end Go.Proofs.YtekljlenlbhmcaaGreatDoor
namespace Go.Proofs.YtekljlenlbhmcaaGreatDoor
open Go.ChangeShapes Go.WideShapes Go.ChangeAt Go.RowKit Go.AM
theorem XJ {α:Type}{l:List α}(h:l.length=4): ∃a b c d,l=[a,b,c,d]:=by
 match l,h with
 | [a,b,c,d],_=>exact⟨a,b,c,d,rfl⟩
theorem Ui {α:Type}{l:List α}(h:l.length=2): ∃a b,l=[a,b]:=by
 match l,h with
 | [a,b],_=>exact⟨a,b,rfl⟩
theorem UN:Tryz.prog.cellsOf 50=1:=by kernel_rfl
theorem UM:Tryz.prog.cellsOf 35=5:=by kernel_rfl
theorem Tr {H:Type}{E:TypeId×Value→H}{w:World}{base:Nat}{spare:Nat→Bool}{held:Bool}(fuel:Nat)(cs:List Value)(x:DataW H×List MemPlace)
  (h:DataW.trod E Tryz.prog w base spare held fuel 50 cs=some x): ∃y:List V,Reps w (G4 w) [] (Cu y) cs∧(∀v ∈ cs,v.oneCell'=true)∧(y.length≤Rows.uptoBulk x.1∧ ∀v ∈ y,gV v):=by
 obtain⟨u,l,h1,h2,h4,h3⟩:=DZ eV (fun y _=>gV y) true Tryz.underlying50 OC (by omega) Qv h;subst h1;refine⟨l,.cons h2 .nil,by simpa using h4,Dg h3,fun c hc=>?_⟩;obtain⟨i,hi⟩:=List.mem_iff_getElem?.1 hc
 rcases h3 with ⟨rfl,_⟩ |⟨ds,rest,_,_,h6⟩
 ·simp at hi
 ·exact(h6 i c hi).choose_spec.2
theorem Tp {H:Type}{E:TypeId×Value→H}{w:World}{base:Nat}{spare:Nat→Bool}{held:Bool}(fuel:Nat)(cs:List Value)(x:DataW H×List MemPlace)
  (h:DataW.trod E Tryz.prog w base spare held fuel 33 cs=some x): ∃(ps:List PG)(root:Int),Reps w (G4 w) [] [.ro true 5 (ps.map eP),.r (.int .i64 root)] cs∧(∀v ∈ cs,v.oneCell'=true)∧(Rows.uptoBulk x.1≤1048576→BG ps):=by
 obtain⟨xs,n,_,hx,hl,hxl,hff⟩:=DataW.trod_struct Tryz.underlying33 h;rw[QF] at hl;obtain⟨c0,c1,rfl⟩:=Ui hl;obtain⟨x0,x1,rfl⟩:=Ui (l:=xs) hxl;have h0:DataW.trod E Tryz.prog w base spare held n 31 (([c0,c1].drop 0).take (Tryz.prog.cellsOf 31))=some x0:=hff 0 _ rfl;rw[show Tryz.prog.cellsOf 31=1 by kernel_rfl] at h0;have h1:DataW.trod E Tryz.prog w base spare held n 3 (([c0,c1].drop 1).take (Tryz.prog.cellsOf 3))=some x1:=hff 1 _ rfl;rw[Jc] at h1;obtain⟨u0,l,e0,r0,o0,g0⟩:=DZ eP (fun y d=>LJ y (Rows.uptoBulk d)) true Tryz.underlying31 QG (by omega) Ts h0;obtain⟨rt,e1,_,_⟩:=DataW.trod_int Tryz.underlying3 h1;simp at e0 e1;subst e0 e1
 refine⟨l,rt,.cons r0 (.cons (.r _ _) .nil),(by
  intro v hv;simp only[List.mem_cons,List.not_mem_nil,or_false] at hv
  rcases hv with rfl |rfl<;>first |rfl |assumption),fun hb=>?_⟩
 rw[hx] at hb;simp only[List.map_cons,List.map_nil,Rows.uptoBulk,Rows.uptoBulkAll] at hb;have b0:=Dg g0;refine⟨by omega,fun q hq=>?_⟩;obtain⟨i,hi⟩:=List.mem_iff_getElem?.1 hq
 rcases g0 with ⟨rfl,_⟩ |⟨ds,rest,hd,_,h6⟩
 ·simp at hi
 ·obtain⟨d,k1,k2,k3,k4,k5⟩:=h6 i q hi
  have k6:=Hj (List.mem_of_getElem? k1);rw[hd] at hb;simp only[Rows.uptoBulk] at hb;exact⟨by omega,by omega,by omega,fun k hk=>by have:=k5 k hk;omega⟩
theorem Tq {H:Type}{E:TypeId×Value→H}{w:World}{base:Nat}{spare:Nat→Bool}{held:Bool}(fuel:Nat)(cs:List Value)(x:DataW H×List MemPlace)
  (h:DataW.trod E Tryz.prog w base spare held fuel 35 cs=some x): ∃y:TB,Reps w (G4 w) [] (Ac y) cs∧(∀v ∈ cs,v.oneCell'=true)∧(Rows.uptoBulk x.1≤1048576→okTB y):=by
 obtain⟨xs,n,_,hx,hl,hxl,hff⟩:=DataW.trod_struct Tryz.underlying35 h;rw[UM] at hl;obtain⟨c0,c1,c2,c3,c4,rfl⟩:=SU hl;obtain⟨x0,x1,x2,x3,rfl⟩:=XJ (l:=xs) hxl;have h0:DataW.trod E Tryz.prog w base spare held n 9 (([c0,c1,c2,c3,c4].drop 0).take (Tryz.prog.cellsOf 9))=some x0:=hff 0 _ rfl;rw[show Tryz.prog.cellsOf 9=1 by kernel_rfl] at h0;have h1:DataW.trod E Tryz.prog w base spare held n 29 (([c0,c1,c2,c3,c4].drop 1).take (Tryz.prog.cellsOf 29))=some x1:=hff 1 _ rfl;rw[show Tryz.prog.cellsOf 29=1 by kernel_rfl] at h1;have h2:DataW.trod E Tryz.prog w base spare held n 30 (([c0,c1,c2,c3,c4].drop 2).take (Tryz.prog.cellsOf 30))=some x2:=hff 2 _ rfl;rw[show Tryz.prog.cellsOf 30=1 by kernel_rfl] at h2;have h3:DataW.trod E Tryz.prog w base spare held n 33 (([c0,c1,c2,c3,c4].drop 3).take (Tryz.prog.cellsOf 33))=some x3:=hff 3 _ rfl;rw[QF] at h3;obtain⟨s,e0,_,w0⟩:=DataW.trod_string Tryz.underlying9 h0;obtain⟨u1,lc,e1,r1,o1,g1⟩:=DZ eC (fun y _=>y.nm.size≤maxLen) true Tryz.underlying29 OD (by omega) SW h1;obtain⟨u2,lr,e2,r2,o2,g2⟩:=DZ Cu (fun y d=>y.length≤Rows.uptoBulk d∧ ∀v ∈ y,gV v) true Tryz.underlying30 UN (by omega) Tr h2;obtain⟨ps,root,r3,o3,g3⟩:=Tp _ _ _ h3;simp at e0 e1 e2;subst e0 e1 e2
 refine⟨⟨s,lc,lr,ps,root⟩,.cons (.r _ _) (.cons r1 (.cons r2 r3)),(by
  intro v hv;simp only[List.mem_cons,List.not_mem_nil,or_false] at hv
  rcases hv with rfl |rfl |rfl |hv
  ·rfl
  ·assumption
  ·assumption
  ·exact o3 v (by simpa using hv)),fun hb=>?_⟩
 rw[hx] at hb;simp only[List.map_cons,List.map_nil,Rows.uptoBulk,Rows.uptoBulkAll] at hb;have b1:=Dg g1;have b2:=Dg g2;refine⟨w0,by simp only;omega,fun c hc=>?_,by simp only;omega,fun r hr=>?_,g3 (by omega)⟩
 ·obtain⟨i,hi⟩:=List.mem_iff_getElem?.1 hc
  rcases g1 with ⟨rfl,_⟩ |⟨ds,rest,_,_,h6⟩
  ·simp at hi
  ·exact(h6 i c hi).choose_spec.2
 ·obtain⟨i,hi⟩:=List.mem_iff_getElem?.1 hr
  rcases g2 with ⟨rfl,_⟩ |⟨ds,rest,hd,_,h6⟩
  ·simp at hi
  ·obtain⟨d,k1,k2,k3⟩:=h6 i r hi
   have k6:=Hj (List.mem_of_getElem? k1);rw[hd] at hb;simp only[Rows.uptoBulk] at hb;exact⟨by omega,k3⟩
theorem K7 {H:Type}{E:TypeId×Value→H}{w:World}{base:Nat}{spare:Nat→Bool}{held:Bool}{b0:Nat}{v:Value}{d:DataW H}{p:List MemPlace}
  (hv:Value.okWide Tryz.prog w .any b0 35 v) (h:DataW.Trod E Tryz.prog w base spare held 35 v d p):
  ∃y:TB,Rep w (G4 w) [] (.agg (Ac y)) v∧(Rows.uptoBulk d≤1048576→okTB y):=by
 obtain⟨cs,rfl,hsz⟩:=okWide_struct Tryz.underlying35 hv;obtain⟨fuel,hf⟩:=h
 have hcl:(Value.agg cs).cells.toList=cs.toList:=by simp[Value.cells]
 rw[hcl] at hf;obtain⟨y,r,_,g⟩:=Tq _ _ _ hf;have:=Rep.agg [] (Ac y) cs.toList r.1 r.2;rw[Array.toArray_toList] at this;exact⟨y,this,g⟩
end Go.Proofs.YtekljlenlbhmcaaGreatDoor
namespace Go.Proofs.YtekljlenlbhmcaaGreatDoor
open Go.ChangeShapes Go.WideShapes Go.ChangeAt Go.RowKit Go.AM
theorem Om {H:Type}{E:TypeId×Value→H}{w:World}{base:Nat}{spare:Nat→Bool}{held:Bool}{b0:Nat}{v:Value}{d:DataW H}{p:List MemPlace}
  (hv:Value.okWide Tryz.prog w .any b0 36 v) (h:DataW.Trod E Tryz.prog w base spare held 36 v d p):
  ∃l:List Int,Rep w (G4 w) [] (.ro true 1 (l.map eI)) v∧(Rows.uptoBulk d≤1048576→l.length≤1048576):=by
 obtain⟨f,hf⟩:=h;obtain⟨u,l,h1,h2,_,h3⟩:=DZ eI (fun _ _=>True) true Tryz.underlying36 Jc (by omega) Ll hf;obtain⟨a',n',c',rfl⟩:=okWide_slice Tryz.underlying36 hv;obtain rfl:Value.slice a' n' c'=u:=List.head_eq_of_cons_eq (show[Value.slice a' n' c']=[u] from h1);have hb:l.length≤Rows.uptoBulk d:=Dg h3;exact⟨l,h2,fun h=>Nat.le_trans hb h⟩
end Go.Proofs.YtekljlenlbhmcaaGreatDoor
namespace Go.Proofs.YtekljlenlbhmcaaGreatDoor
open Go.Shelf
def Sh.lays155_ren:Go.Shelf.Ren:=⟨fun |155=>119 |154=>179 |138=>223 |165=>224 |143=>225 |166=>226 |197=>227 |169=>228 |195=>242 |218=>243 |240=>244 |241=>245 |219=>246 |260=>247 |276=>258 |277=>259 |217=>260 |225=>261 |224=>262 |267=>263 |266=>271 |314=>272 |n=>n,fun |9=>9 |3=>3 |4=>4 |72=>244 |0=>0 |76=>248 |105=>250 |21=>21 |5=>5 |70=>242 |20=>20 |37=>81 |75=>247 |127=>264 |164=>270 |46=>233 |119=>272 |139=>275 |138=>274 |146=>281 |51=>280 |80=>252 |n=>n,fun |1=>3 |3=>4 |4=>5 |n=>n⟩
theorem Sh.lays155:Go.Proofs.Lays.n155 Tryz.prog Sh.lays155_ren:={
 mixed:=by kernel_rfl
 f138:=Tryz.func223.trans (congrArg some (by kernel_rfl))
 f143:=Tryz.func225.trans (congrArg some (by kernel_rfl))
 f154:=Tryz.func179.trans (congrArg some (by kernel_rfl))
 f155:=Tryz.func119.trans (congrArg some (by kernel_rfl))
 f165:=Tryz.func224.trans (congrArg some (by kernel_rfl))
 f166:=Tryz.func226.trans (congrArg some (by kernel_rfl))
 f169:=Tryz.func228.trans (congrArg some (by kernel_rfl))
 f195:=Tryz.func242.trans (congrArg some (by kernel_rfl))
 f197:=Tryz.func227.trans (congrArg some (by kernel_rfl))
 f217:=Tryz.func260.trans (congrArg some (by kernel_rfl))
 f218:=Tryz.func243.trans (congrArg some (by kernel_rfl))
 f219:=Tryz.func246.trans (congrArg some (by kernel_rfl))
 f224:=Tryz.func262.trans (congrArg some (by kernel_rfl))
 f225:=Tryz.func261.trans (congrArg some (by kernel_rfl))
 f240:=Tryz.func244.trans (congrArg some (by kernel_rfl))
 f241:=Tryz.func245.trans (congrArg some (by kernel_rfl))
 f260:=Tryz.func247.trans (congrArg some (by kernel_rfl))
 f266:=Tryz.func271.trans (congrArg some (by kernel_rfl))
 f267:=Tryz.func263.trans (congrArg some (by kernel_rfl))
 f276:=Tryz.func258.trans (congrArg some (by kernel_rfl))
 f277:=Tryz.func259.trans (congrArg some (by kernel_rfl))
 f314:=Tryz.func272.trans (congrArg some (by kernel_rfl))
 t0:=Tryz.underlying0
 a0:=Tryz.isAgg0
 z0:=Tryz.sizeOf0
 v0:=Tryz.zeroValue0
 t3:=Tryz.underlying3
 a3:=Tryz.isAgg3
 z3:=Tryz.sizeOf3
 v3:=Tryz.zeroValue3
 t4:=Tryz.underlying4
 a4:=Tryz.isAgg4
 z4:=Tryz.sizeOf4
 v4:=Tryz.zeroValue4
 t5:=Tryz.underlying5
 a5:=Tryz.isAgg5
 z5:=Tryz.sizeOf5
 v5:=Tryz.zeroValue5
 t9:=Tryz.underlying9
 a9:=Tryz.isAgg9
 z9:=Tryz.sizeOf9
 v9:=Tryz.zeroValue9
 t20:=Tryz.underlying20
 a20:=Tryz.isAgg20
 z20:=Tryz.sizeOf20
 v20:=Tryz.zeroValue20
 t21:=Tryz.underlying21
 a21:=Tryz.isAgg21
 z21:=Tryz.sizeOf21
 v21:=Tryz.zeroValue21
 t37:=Tryz.underlying81
 a37:=Tryz.isAgg81
 z37:=Tryz.sizeOf81
 v37:=Tryz.zeroValue81
 t46:=Tryz.underlying233
 a46:=Tryz.isAgg233
 z46:=Tryz.sizeOf233
 v46:=Tryz.zeroValue233
 t51:=Tryz.underlying280
 a51:=Tryz.isAgg280
 z51:=Tryz.sizeOf280
 v51:=Tryz.zeroValue280
 t70:=Tryz.underlying242
 a70:=Tryz.isAgg242
 z70:=Tryz.sizeOf242
 v70:=Tryz.zeroValue242
 t72:=Tryz.underlying244
 a72:=Tryz.isAgg244
 z72:=Tryz.sizeOf244
 v72:=Tryz.zeroValue244
 t75:=Tryz.underlying247
 a75:=Tryz.isAgg247
 z75:=Tryz.sizeOf247
 v75:=Tryz.zeroValue247
 t76:=Tryz.underlying248
 a76:=Tryz.isAgg248
 z76:=Tryz.sizeOf248
 v76:=Tryz.zeroValue248
 t105:=Tryz.underlying250
 a105:=Tryz.isAgg250
 z105:=Tryz.sizeOf250
 v105:=Tryz.zeroValue250
 t119:=Tryz.underlying272
 a119:=Tryz.isAgg272
 z119:=Tryz.sizeOf272
 t127:=Tryz.underlying264
 a127:=Tryz.isAgg264
 z127:=Tryz.sizeOf264
 v127:=Tryz.zeroValue264
 t138:=Tryz.underlying274
 a138:=Tryz.isAgg274
 z138:=Tryz.sizeOf274
 v138:=Tryz.zeroValue274
 t139:=Tryz.underlying275
 a139:=Tryz.isAgg275
 z139:=Tryz.sizeOf275
 v139:=Tryz.zeroValue275
 t146:=Tryz.underlying281
 a146:=Tryz.isAgg281
 z146:=Tryz.sizeOf281
 v146:=Tryz.zeroValue281
 t164:=Tryz.underlying270
 a164:=Tryz.isAgg270
 z164:=Tryz.sizeOf270
 v164:=Tryz.zeroValue270
 g1:=by kernel_rfl
 g3:=by kernel_rfl
 g4:=by kernel_rfl}
theorem Sh.Builder_Extra_155:Builder.Extra Tryz.prog Sh.lays155_ren:={
 sizeBuilder:=by kernel_rfl
 liesBuilder:=by kernel_rfl
 t5:=Tryz.underlying5
 a5:=Tryz.isAgg5
 z5:=Tryz.sizeOf5
 v5:=Tryz.zeroValue5
 infoByte:=by kernel_rfl
 cellsByte:=by kernel_rfl
 sizeByte:=by kernel_rfl
 neB5:=by decide}
open Go.RowKit Go.Lib in
theorem Sh.strings_ReplaceAll (s old new:ByteArray)(m:Int)(w:World)(hs:s.size<4294967281)(hm:w.cell? ⟨3,0,none⟩=some (.int .i64 m))(h1:1≤old.size)(hlen:s.size+Lib.countB s old * new.size≤140737488355328):
 Calls Tryz.prog 119 #[.string s,.string old,.string new] w fun e w'=>
  e= .returned (.string ⟨(Lib.replaceAll s.data.toList old.data.toList new.data.toList).toArray⟩)∧Below w.heap.size w w':=Any.strings_ReplaceAll Sh.lays155 Sh.Builder_Extra_155 s old new m w hs hm h1 hlen
end Go.Proofs.YtekljlenlbhmcaaGreatDoor
namespace Go.AM
open Go Go.RowKit
attribute [local irreducible] AWP Aw
theorem VJ {G:List (Nat×List Value)}{m:Int}(hm:(3,[Value.int .i64 m]) ∈ G)(c:UInt8)(new:List UInt8)(hn:([c]==new)=false)(hl:new.length≤2)(s:ByteArray)(hs:s.size≤400):
  Con prog G 119 [.r (.string s),.r (.string ⟨#[c]⟩),.r (.string ⟨new.toArray⟩)] [] 0 (Is (.r (.string ⟨(Ga c new s.data.toList).toArray⟩)) [] 0) No:=
 BF (by kernel_rfl) (fun w z vs hz hr hG=>by
  obtain⟨v,r,rfl,h1,h2⟩:=hr.head;obtain⟨v2,r2,rfl,h3,h4⟩:=h2.head;obtain⟨v3,r3,rfl,h5,h6⟩:=h4.head;obtain rfl:=h1.r_inv;obtain rfl:=h3.r_inv;obtain rfl:=h5.r_inv;obtain rfl:=h6.of_nil;have hc:w.cell? ⟨3,0,none⟩=some (.int .i64 m):=(hG _ _ hm).2 0 _ rfl
  have hle:Lib.countB s ⟨#[c]⟩≤s.size+1:=by
   have:=Lib.count_le s.data.toList [c];rw[Pc];exact this
  have key:=Go.Proofs.YtekljlenlbhmcaaGreatDoor.Sh.strings_ReplaceAll s ⟨#[c]⟩ ⟨new.toArray⟩ m w (by omega) hc (Nat.le_refl 1) (by
   have e:(⟨new.toArray⟩:ByteArray).size=new.length:=by rw[Pc]
   rw[e];have:Lib.countB s ⟨#[c]⟩ * new.length≤401 * 2:=Nat.mul_le_mul (by omega) hl
   omega)
  have e:Lib.replaceAll s.data.toList [c] new=Ga c new s.data.toList:=K3 c new _ hn
  have key2:Calls prog 119 #[.string s,.string ⟨#[c]⟩,.string ⟨new.toArray⟩] w fun e w'=>e= .returned (.string ⟨(Ga c new s.data.toList).toArray⟩)∧Below w.heap.size w w':=by
   rw[←e];exact key
  exact key2)
theorem Qg {G:List (Nat×List Value)}{m:Int}(hm:(3,[Value.int .i64 m]) ∈ G):Fl G:=fun s hs=>VJ hm 0 [0,255] (by decide) (by simp) s hs
end Go.AM
namespace Go.Proofs.YtekljlenlbhmcaaGreatDoor
open Go.ChangeShapes Go.WideShapes Go.ChangeAt Go.RowKit Go.AM
def GM (m:Int):List (Nat×List Value):=(3,[.int .i64 m])::GT
theorem V3 (m:Int):Tabs (GM m):=⟨by simp[GM,GT],by simp[GM,GT],rfl⟩
theorem U8 {W:World}{m:Int}(hm:W.cell? ⟨3,0,none⟩=some (.int .i64 m))(h:M8 GT W):M8 (GM m) W:=by
 intro g cs hg
 rcases List.mem_cons.1 hg with hg |hg
 ·cases hg
  refine⟨World.block_lt_of_cell? _ _ hm,fun j u hu=>?_⟩
  cases j with
  |zero=>simp at hu;subst hu;exact hm
  |succ j=>simp at hu
 ·exact h g cs hg
theorem QS {W:World}(h:laidMetH Tryz.prog [("unicode/utf8.acceptRanges",Rows.laid_unicode_utf8_acceptRanges),("padlock/lex.marks",Rows.laid_padlock_lex_marks),("padlock/parse.words",Rows.laid_padlock_parse_words),("padlock/parse.types",Rows.laid_padlock_parse_types),("unicode/utf8.first",Rows.laid_unicode_utf8_first)] W):M8 GT W:=by
 obtain⟨ps,h,_⟩:=h;obtain⟨_,_,_,_,_,_,_,_,_,_,h,_⟩:=h;obtain⟨h1,h2,q,h3⟩:=Ox h;obtain⟨h4,h5,q2,h6⟩:=OW h3;obtain⟨h7,h8,_⟩:=OY h6;intro g cs hg;simp only[GT,List.mem_cons,Prod.mk.injEq,List.not_mem_nil,or_false] at hg
 rcases hg with ⟨rfl,rfl⟩ |⟨rfl,rfl⟩ |⟨rfl,rfl⟩
 ·refine⟨h8,fun j u hu=>?_⟩
  have hj:j<4:=by have:=(List.getElem?_eq_some_iff.1 hu).1;simpa[Hv] using this
  rw[h7 j hj,←hu]
  match j,hj with
  |0,_=>rfl
  |1,_=>rfl
  |2,_=>rfl
  |3,_=>rfl
 ·refine⟨h2,fun j u hu=>?_⟩
  have hj:=(List.getElem?_eq_some_iff.1 hu).1;rw[List.length_map] at hj;rw[h1 j hj,←hu,List.getElem?_map,List.getD,List.getElem?_eq_getElem hj];rfl
 ·refine⟨h5,fun j u hu=>?_⟩
  have hj:=(List.getElem?_eq_some_iff.1 hu).1;rw[List.length_map] at hj;rw[h4 j hj,←hu,List.getElem?_map,List.getD,List.getElem?_eq_getElem hj];rfl
end Go.Proofs.YtekljlenlbhmcaaGreatDoor
